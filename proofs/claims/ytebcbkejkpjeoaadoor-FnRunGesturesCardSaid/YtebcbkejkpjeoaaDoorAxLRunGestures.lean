/- The statement FnRunGestures: contracts of what it reaches, and its proof. No conditions. -/
import Derived.Test.YtebcbkejkpjeoaaDoorAxLRunGestures3
import Derived.LaidMore
import Derived.Lay
import Derived.OpenShut
import Derived.SevenTiedAt
import Derived.Shelf.Strings.SlTrimAscii
import Derived.Stop.Joined
namespace Go.Proofs.YtebcbkejkpjeoaaDoor.Ax
open Go.RowKit Go.ChangeShapes Go.WideShapes
set_option linter.unusedVariables false
set_option linter.unusedSimpArgs false


-- spec.l05Directions
theorem l05Directions_ok (s : Stroke) (ok : okStroke' s = true) : Con Tryd.prog 100 [.ptr false [slPoint false s.Points]] true (slI true (dirsL s.Points s.Points.length)) := by
  have hln := okS_len ok
  refine fn_ok (fn := Tryd.f100) (nt := 66) Tryd.func100 rfl rfl rfl rfl (by simp [taggedL, tagged, tagPoint]) fun B hB => ?_
  refine aw_lens (x := .ptr false [slPoint false s.Points]) 0 rfl (fun len_s => ?_)
  simp [LenOK, LenL, cPoint, fPoint, slPoint] at len_s
  refine aw_seq ?_
  refine aw_reg [] [0] [] [.ptr false [slPoint false s.Points]] [] [] (by kernel_rfl) hB trivial ?_
  refine ae_then ?_
  refine aw_seq ?_
  refine aw_reg [(0, .new 7)] [0, 3] [7] [.ptr false [slPoint false s.Points], .arr 7] [some (.arr 1 0 (litF [] 1))] [] (by kernel_rfl) hB trivial ?_
  refine ae_then ?_
  refine aw_seq ?_
  refine aw_seq ?_
  refine aw_reg [] [0, 3, 4] [7] [.ptr false [slPoint false s.Points], .arr 7, I 1] [some (.arr 1 0 (litF [] 1))] [] (by kernel_rfl) hB trivial ?_
  refine ae_then ?_
  refine aw_block ?_
  refine aw_weak hB [] (T := [(0, .ptr false [slPoint false s.Points]), (3, .arr 7), (4, I 1)]) (O := [(7, .arr 1 (([] : List Int).length) (fI ([] : List Int)))]) rfl (⟨.inl rfl, .inl rfl, .inl rfl, trivial⟩) (⟨.inr ⟨rfl, (by first | rfl | (simp; done) | (simp; omega) | omega), fun i hi => absurd hi (Nat.not_lt_zero _)⟩, trivial⟩) ?_
  refine aw_loop (fun gn gσ => ∃ (out : List Int) (i : Int), gn = ((s.Points.length : Int) - i).toNat ∧ (1 ≤ i ∧ (i ≤ (s.Points.length : Int) ∨ i = 1)) ∧ (out = dirsL s.Points i.toNat) ∧ gσ = mkS [(0, .ptr false [slPoint false s.Points]), (3, .arr 7), (4, I i)] [(7, .arr 1 out.length (fI out))]) (((s.Points.length : Int) - 1).toNat) ⟨([] : List Int), 1, rfl, (by omega), (by exact (dirsL_one _).symm), rfl⟩ (fun gn gσ hI => ?_)
  obtain ⟨out, i, rfl, hi0, hd0, rfl⟩ := hI
  refine aw_seq ?_
  refine aw_seq ?_
  by_cases h1 : i < (s.Points.length : Int)
  ·have hi : i.toNat < s.Points.length := by omega
   have hi2 : (i - 1).toNat < s.Points.length := by omega
   have hp1 := okP_iff.1 (okS_at ok hi2)
   have hp2 := okP_iff.1 (okS_at ok hi)
   have hbd := dirI_bd ((at_ s.Points i.toNat).X - (at_ s.Points (i - 1).toNat).X) ((at_ s.Points i.toNat).Y - (at_ s.Points (i - 1).toNat).Y)
   have hdl : out.length ≤ i.toNat := by rw [hd0]; exact dirsL_len _ _
   refine aw_reg [(6, .dec true)] [0, 3, 4, 14] [7] [.ptr false [slPoint false s.Points], .arr 7, I i, Bv true] [some (.arr 1 out.length (fI out))] [i < (s.Points.length : Int)] (by kernel_rfl) hB ⟨h1, trivial⟩ ?_
   refine ae_then ?_
   refine aw_true rfl ?_
   refine aw_skip ?_
   refine ae_then ?_
   refine aw_seq ?_
   refine aw_block ?_
   refine aw_seq ?_
   refine aw_reg [] [0, 3, 4, 5] [7] [.ptr false [slPoint false s.Points], .arr 7, I i, I (((at_ s.Points i.toNat).X) - ((at_ s.Points ((i - 1).toNat)).X))] [some (.arr 1 out.length (fI out))] [(0 : Int) ≤ i ∧ i < (s.Points.length : Int), inR .i64 (i - 1), (0 : Int) ≤ (i - 1) ∧ (i - 1) < (s.Points.length : Int), inR .i64 (((at_ s.Points i.toNat).X) - ((at_ s.Points ((i - 1).toNat)).X))] (by kernel_rfl) hB ⟨⟨(by omega), (by omega)⟩, (inR_i64 (by omega) (by omega)), ⟨(by omega), (by omega)⟩, (inR_i64 (by omega) (by omega)), trivial⟩ ?_
   refine ae_then ?_
   refine aw_seq ?_
   refine aw_reg [] [0, 3, 4, 5, 6] [7] [.ptr false [slPoint false s.Points], .arr 7, I i, I (((at_ s.Points i.toNat).X) - ((at_ s.Points ((i - 1).toNat)).X)), I (((at_ s.Points i.toNat).Y) - ((at_ s.Points ((i - 1).toNat)).Y))] [some (.arr 1 out.length (fI out))] [(0 : Int) ≤ i ∧ i < (s.Points.length : Int), inR .i64 (i - 1), (0 : Int) ≤ (i - 1) ∧ (i - 1) < (s.Points.length : Int), inR .i64 (((at_ s.Points i.toNat).Y) - ((at_ s.Points ((i - 1).toNat)).Y))] (by kernel_rfl) hB ⟨⟨(by omega), (by omega)⟩, (inR_i64 (by omega) (by omega)), ⟨(by omega), (by omega)⟩, (inR_i64 (by omega) (by omega)), trivial⟩ ?_
   refine ae_then ?_
   refine aw_seq ?_
   by_cases h2 : (((at_ s.Points i.toNat).X) - ((at_ s.Points ((i - 1).toNat)).X)) = 0
   ·by_cases h3 : (((at_ s.Points i.toNat).Y) - ((at_ s.Points ((i - 1).toNat)).Y)) = 0
    ·refine aw_reg [(1, .dec false), (4, .dec false)] [0, 3, 4, 5, 6, 58] [7] [.ptr false [slPoint false s.Points], .arr 7, I i, I (((at_ s.Points i.toNat).X) - ((at_ s.Points ((i - 1).toNat)).X)), I (((at_ s.Points i.toNat).Y) - ((at_ s.Points ((i - 1).toNat)).Y)), Bv false] [some (.arr 1 out.length (fI out))] [¬ ((((at_ s.Points i.toNat).X) - ((at_ s.Points ((i - 1).toNat)).X)) ≠ 0), ¬ ((((at_ s.Points i.toNat).Y) - ((at_ s.Points ((i - 1).toNat)).Y)) ≠ 0)] (by kernel_rfl) hB ⟨(fun hq => hq h2), (fun hq => hq h3), trivial⟩ ?_
     refine ae_then ?_
     refine aw_false rfl ?_
     refine aw_skip ?_
     refine ae_block 1 ?_
     refine ae_then ?_
     refine aw_reg [] [0, 3, 4] [7] [.ptr false [slPoint false s.Points], .arr 7, I (i + 1)] [some (.arr 1 out.length (fI out))] [inR .i64 (i + 1)] (by kernel_rfl) hB ⟨(inR_i64 (by omega) (by omega)), trivial⟩ ?_
     exact ae_again _ (by omega) ⟨out, (i + 1), rfl, (by omega), (by rw [hd0]; first | (exact (dirsL_same hi0.1 (by omega) (by omega)).symm) | (exact (dirsL_more hi0.1 (by omega)).symm)), rfl⟩
    ·refine aw_reg [(1, .dec false), (4, .dec true)] [0, 3, 4, 5, 6, 58] [7] [.ptr false [slPoint false s.Points], .arr 7, I i, I (((at_ s.Points i.toNat).X) - ((at_ s.Points ((i - 1).toNat)).X)), I (((at_ s.Points i.toNat).Y) - ((at_ s.Points ((i - 1).toNat)).Y)), Bv true] [some (.arr 1 out.length (fI out))] [¬ ((((at_ s.Points i.toNat).X) - ((at_ s.Points ((i - 1).toNat)).X)) ≠ 0), (((at_ s.Points i.toNat).Y) - ((at_ s.Points ((i - 1).toNat)).Y)) ≠ 0] (by kernel_rfl) hB ⟨(fun hq => hq h2), h3, trivial⟩ ?_
     refine ae_then ?_
     refine aw_true rfl ?_
     refine aw_reg [(3, .call [(true, I (((at_ s.Points i.toNat).X) - ((at_ s.Points ((i - 1).toNat)).X))), (true, I (((at_ s.Points i.toNat).Y) - ((at_ s.Points ((i - 1).toNat)).Y)))] true (I (dirI (((at_ s.Points i.toNat).X) - ((at_ s.Points ((i - 1).toNat)).X)) (((at_ s.Points i.toNat).Y) - ((at_ s.Points ((i - 1).toNat)).Y))))), (4, .new 63), (5, .new 64)] [0, 3, 4] [64] [.ptr false [slPoint false s.Points], .arr 64, I i] [some (.arr 1 (out.length + 1) (catF out.length (fI out) (litF [I (dirI (((at_ s.Points i.toNat).X) - ((at_ s.Points ((i - 1).toNat)).X)) (((at_ s.Points i.toNat).Y) - ((at_ s.Points ((i - 1).toNat)).Y)))] 1)))] [Con Tryd.prog 121 [I (((at_ s.Points i.toNat).X) - ((at_ s.Points ((i - 1).toNat)).X)), I (((at_ s.Points i.toNat).Y) - ((at_ s.Points ((i - 1).toNat)).Y))] true (I (dirI (((at_ s.Points i.toNat).X) - ((at_ s.Points ((i - 1).toNat)).X)) (((at_ s.Points i.toNat).Y) - ((at_ s.Points ((i - 1).toNat)).Y)))) ∧ ((I (((at_ s.Points i.toNat).X) - ((at_ s.Points ((i - 1).toNat)).X)) : AV) = I (((at_ s.Points i.toNat).X) - ((at_ s.Points ((i - 1).toNat)).X))) ∧ ((I (((at_ s.Points i.toNat).Y) - ((at_ s.Points ((i - 1).toNat)).Y)) : AV) = I (((at_ s.Points i.toNat).Y) - ((at_ s.Points ((i - 1).toNat)).Y))) ∧ True, (out.length + 1) * 8 ≤ 140737488355328] (by kernel_rfl) hB ⟨⟨(l05Sector_ok (((at_ s.Points i.toNat).X) - ((at_ s.Points ((i - 1).toNat)).X)) (((at_ s.Points i.toNat).Y) - ((at_ s.Points ((i - 1).toNat)).Y)) (by omega)), rfl, rfl, trivial⟩, (by omega), trivial⟩ ?_
     refine ae_block 1 ?_
     refine ae_then ?_
     refine aw_reg [] [0, 3, 4] [64] [.ptr false [slPoint false s.Points], .arr 64, I (i + 1)] [some (.arr 1 (out.length + 1) (catF out.length (fI out) (litF [I (dirI (((at_ s.Points i.toNat).X) - ((at_ s.Points ((i - 1).toNat)).X)) (((at_ s.Points i.toNat).Y) - ((at_ s.Points ((i - 1).toNat)).Y)))] 1)))] [inR .i64 (i + 1)] (by kernel_rfl) hB ⟨(inR_i64 (by omega) (by omega)), trivial⟩ ?_
     refine ae_weak hB [(7, 64)] (T := [(0, .ptr false [slPoint false s.Points]), (3, .arr 7), (4, I (i + 1))]) (O := [(7, .arr 1 ((out ++ [(dirI (((at_ s.Points i.toNat).X) - ((at_ s.Points ((i - 1).toNat)).X)) (((at_ s.Points i.toNat).Y) - ((at_ s.Points ((i - 1).toNat)).Y)))]).length) (fI (out ++ [(dirI (((at_ s.Points i.toNat).X) - ((at_ s.Points ((i - 1).toNat)).X)) (((at_ s.Points i.toNat).Y) - ((at_ s.Points ((i - 1).toNat)).Y)))])))]) rfl (⟨.inl rfl, .inl rfl, .inl rfl, trivial⟩) (⟨.inr ⟨rfl, (by first | rfl | (simp; done) | (simp; omega) | omega), fun i hi => .inl (cat_snoc (enc := cI) (xs := out) rfl i hi)⟩, trivial⟩) (ae_again _ (by omega) ⟨(out ++ [(dirI (((at_ s.Points i.toNat).X) - ((at_ s.Points ((i - 1).toNat)).X)) (((at_ s.Points i.toNat).Y) - ((at_ s.Points ((i - 1).toNat)).Y)))]), (i + 1), rfl, (by omega), (by rw [hd0]; first | (exact (dirsL_same hi0.1 (by omega) (by omega)).symm) | (exact (dirsL_more hi0.1 (by omega)).symm)), rfl⟩)
   ·refine aw_reg [(1, .dec true)] [0, 3, 4, 5, 6, 58] [7] [.ptr false [slPoint false s.Points], .arr 7, I i, I (((at_ s.Points i.toNat).X) - ((at_ s.Points ((i - 1).toNat)).X)), I (((at_ s.Points i.toNat).Y) - ((at_ s.Points ((i - 1).toNat)).Y)), Bv true] [some (.arr 1 out.length (fI out))] [(((at_ s.Points i.toNat).X) - ((at_ s.Points ((i - 1).toNat)).X)) ≠ 0] (by kernel_rfl) hB ⟨h2, trivial⟩ ?_
    refine ae_then ?_
    refine aw_true rfl ?_
    refine aw_reg [(3, .call [(true, I (((at_ s.Points i.toNat).X) - ((at_ s.Points ((i - 1).toNat)).X))), (true, I (((at_ s.Points i.toNat).Y) - ((at_ s.Points ((i - 1).toNat)).Y)))] true (I (dirI (((at_ s.Points i.toNat).X) - ((at_ s.Points ((i - 1).toNat)).X)) (((at_ s.Points i.toNat).Y) - ((at_ s.Points ((i - 1).toNat)).Y))))), (4, .new 63), (5, .new 64)] [0, 3, 4] [64] [.ptr false [slPoint false s.Points], .arr 64, I i] [some (.arr 1 (out.length + 1) (catF out.length (fI out) (litF [I (dirI (((at_ s.Points i.toNat).X) - ((at_ s.Points ((i - 1).toNat)).X)) (((at_ s.Points i.toNat).Y) - ((at_ s.Points ((i - 1).toNat)).Y)))] 1)))] [Con Tryd.prog 121 [I (((at_ s.Points i.toNat).X) - ((at_ s.Points ((i - 1).toNat)).X)), I (((at_ s.Points i.toNat).Y) - ((at_ s.Points ((i - 1).toNat)).Y))] true (I (dirI (((at_ s.Points i.toNat).X) - ((at_ s.Points ((i - 1).toNat)).X)) (((at_ s.Points i.toNat).Y) - ((at_ s.Points ((i - 1).toNat)).Y)))) ∧ ((I (((at_ s.Points i.toNat).X) - ((at_ s.Points ((i - 1).toNat)).X)) : AV) = I (((at_ s.Points i.toNat).X) - ((at_ s.Points ((i - 1).toNat)).X))) ∧ ((I (((at_ s.Points i.toNat).Y) - ((at_ s.Points ((i - 1).toNat)).Y)) : AV) = I (((at_ s.Points i.toNat).Y) - ((at_ s.Points ((i - 1).toNat)).Y))) ∧ True, (out.length + 1) * 8 ≤ 140737488355328] (by kernel_rfl) hB ⟨⟨(l05Sector_ok (((at_ s.Points i.toNat).X) - ((at_ s.Points ((i - 1).toNat)).X)) (((at_ s.Points i.toNat).Y) - ((at_ s.Points ((i - 1).toNat)).Y)) (by omega)), rfl, rfl, trivial⟩, (by omega), trivial⟩ ?_
    refine ae_block 1 ?_
    refine ae_then ?_
    refine aw_reg [] [0, 3, 4] [64] [.ptr false [slPoint false s.Points], .arr 64, I (i + 1)] [some (.arr 1 (out.length + 1) (catF out.length (fI out) (litF [I (dirI (((at_ s.Points i.toNat).X) - ((at_ s.Points ((i - 1).toNat)).X)) (((at_ s.Points i.toNat).Y) - ((at_ s.Points ((i - 1).toNat)).Y)))] 1)))] [inR .i64 (i + 1)] (by kernel_rfl) hB ⟨(inR_i64 (by omega) (by omega)), trivial⟩ ?_
    refine ae_weak hB [(7, 64)] (T := [(0, .ptr false [slPoint false s.Points]), (3, .arr 7), (4, I (i + 1))]) (O := [(7, .arr 1 ((out ++ [(dirI (((at_ s.Points i.toNat).X) - ((at_ s.Points ((i - 1).toNat)).X)) (((at_ s.Points i.toNat).Y) - ((at_ s.Points ((i - 1).toNat)).Y)))]).length) (fI (out ++ [(dirI (((at_ s.Points i.toNat).X) - ((at_ s.Points ((i - 1).toNat)).X)) (((at_ s.Points i.toNat).Y) - ((at_ s.Points ((i - 1).toNat)).Y)))])))]) rfl (⟨.inl rfl, .inl rfl, .inl rfl, trivial⟩) (⟨.inr ⟨rfl, (by first | rfl | (simp; done) | (simp; omega) | omega), fun i hi => .inl (cat_snoc (enc := cI) (xs := out) rfl i hi)⟩, trivial⟩) (ae_again _ (by omega) ⟨(out ++ [(dirI (((at_ s.Points i.toNat).X) - ((at_ s.Points ((i - 1).toNat)).X)) (((at_ s.Points i.toNat).Y) - ((at_ s.Points ((i - 1).toNat)).Y)))]), (i + 1), rfl, (by omega), (by rw [hd0]; first | (exact (dirsL_same hi0.1 (by omega) (by omega)).symm) | (exact (dirsL_more hi0.1 (by omega)).symm)), rfl⟩)
  ·have hie : i.toNat = s.Points.length := by omega
   rw [hie] at hd0
   subst hd0
   refine aw_reg [(6, .dec false)] [0, 3, 4, 14] [7] [.ptr false [slPoint false s.Points], .arr 7, I i, Bv false] [some (.arr 1 ((dirsL s.Points s.Points.length).length) (fI (dirsL s.Points s.Points.length)))] [¬ (i < (s.Points.length : Int))] (by kernel_rfl) hB ⟨h1, trivial⟩ ?_
   refine ae_then ?_
   refine aw_false rfl ?_
   refine aw_exit ?_
   refine ae_exit_then ?_
   refine ae_exit_then ?_
   refine ae_exit_same ?_
   refine ae_then ?_
   refine aw_seq ?_
   refine aw_reg [] [2] [7] [.arr 7] [some (.arr 1 ((dirsL s.Points s.Points.length).length) (fI (dirsL s.Points s.Points.length)))] [] (by kernel_rfl) hB trivial ?_
   refine ae_then ?_
   refine aw_ret ?_
   refine ae_ret hB (.arr 7) (by kernel_rfl) (.inr ⟨(fun _ => rfl), rfl, rfl, fun i _ => .inl rfl⟩) rfl (fun _ => (tagI true _))


-- spec.l05Bend
theorem l05Bend_ok (a : Int) (b : Int) (ha : 0 ≤ a ∧ a ≤ 7) (hb : 0 ≤ b ∧ b ≤ 7) : Con Tryd.prog 101 [I a, I b] true (I (bendI a b)) := by
  refine fn_ok (fn := Tryd.f101) (nt := 16) Tryd.func101 rfl rfl rfl rfl (by simp [taggedL, tagged]) fun B hB => ?_
  refine aw_seq ?_
  refine aw_reg [] [0, 1] [] [I a, I b] [] [] (by kernel_rfl) hB trivial ?_
  refine ae_then ?_
  refine aw_seq ?_
  refine aw_reg [(4, .nn)] [5] [] [I (((b - a) + 8) % 8)] [] [inR .i64 (b - a), inR .i64 ((b - a) + 8), (0 : Int) ≤ ((b - a) + 8) ∧ (0 : Int) < 8] (by kernel_rfl) hB ⟨(inR_i64 (by omega) (by omega)), (inR_i64 (by omega) (by omega)), ⟨(by omega), (by omega)⟩, trivial⟩ ?_
  refine ae_then ?_
  refine aw_seq ?_
  refine aw_seq ?_
  by_cases h1 : 4 < (((b - a) + 8) % 8)
  ·refine aw_reg [(1, .dec true)] [5, 12] [] [I (((b - a) + 8) % 8), Bv true] [] [4 < (((b - a) + 8) % 8)] (by kernel_rfl) hB ⟨h1, trivial⟩ ?_
   refine ae_then ?_
   refine aw_true rfl ?_
   refine aw_reg [] [5] [] [I ((((b - a) + 8) % 8) - 8)] [] [inR .i64 ((((b - a) + 8) % 8) - 8)] (by kernel_rfl) hB ⟨(inR_i64 (by omega) (by omega)), trivial⟩ ?_
   refine ae_then ?_
   refine aw_seq ?_
   refine aw_reg [] [4] [] [I ((((b - a) + 8) % 8) - 8)] [] [] (by kernel_rfl) hB trivial ?_
   refine ae_then ?_
   refine aw_ret ?_
   refine ae_ret hB (I ((((b - a) + 8) % 8) - 8)) (by kernel_rfl) (.inl (by refine congrArg I ?_; unfold bendI; omega)) rfl (fun _ => trivial)
  ·refine aw_reg [(1, .dec false)] [5, 12] [] [I (((b - a) + 8) % 8), Bv false] [] [¬ (4 < (((b - a) + 8) % 8))] (by kernel_rfl) hB ⟨h1, trivial⟩ ?_
   refine ae_then ?_
   refine aw_false rfl ?_
   refine aw_skip ?_
   refine ae_then ?_
   refine aw_seq ?_
   refine aw_reg [] [4] [] [I (((b - a) + 8) % 8)] [] [] (by kernel_rfl) hB trivial ?_
   refine ae_then ?_
   refine aw_ret ?_
   refine ae_ret hB (I (((b - a) + 8) % 8)) (by kernel_rfl) (.inl (by refine congrArg I ?_; unfold bendI; omega)) rfl (fun _ => trivial)


-- spec.l02Join
theorem l02Join_ok (a : Box) (b : Box) : Con Tryd.prog 106 [agBox a, agBox b] true (agBox (joinB a b)) := by
  refine fn_ok (fn := Tryd.f106) (nt := 26) Tryd.func106 rfl rfl rfl rfl (by simp [taggedL, tagged]) fun B hB => ?_
  refine aw_seq ?_
  refine aw_reg [(0, .new 2), (1, .new 3), (2, .new 4)] [2, 3, 4] [2, 3, 4] [.ref 2 0, .ref 3 0, .ref 4 0] [some (bxBox a), some (bxBox b), some (.box [I 0, I 0, I 0, I 0])] [] (by kernel_rfl) hB trivial ?_
  refine ae_then ?_
  refine aw_seq ?_
  refine aw_reg [(4, .call [(true, I a.X1), (true, I b.X1)] true (I (min a.X1 b.X1))), (9, .call [(true, I a.Y1), (true, I b.Y1)] true (I (min a.Y1 b.Y1))), (14, .call [(true, I a.X2), (true, I b.X2)] true (I (max a.X2 b.X2))), (19, .call [(true, I a.Y2), (true, I b.Y2)] true (I (max a.Y2 b.Y2)))] [4] [4] [.ref 4 0] [some (.box [I (min a.X1 b.X1), I (min a.Y1 b.Y1), I (max a.X2 b.X2), I (max a.Y2 b.Y2)])] [Con Tryd.prog 86 [I a.X1, I b.X1] true (I (min a.X1 b.X1)) ∧ ((I a.X1 : AV) = I a.X1) ∧ ((I b.X1 : AV) = I b.X1) ∧ True, Con Tryd.prog 86 [I a.Y1, I b.Y1] true (I (min a.Y1 b.Y1)) ∧ ((I a.Y1 : AV) = I a.Y1) ∧ ((I b.Y1 : AV) = I b.Y1) ∧ True, Con Tryd.prog 85 [I a.X2, I b.X2] true (I (max a.X2 b.X2)) ∧ ((I a.X2 : AV) = I a.X2) ∧ ((I b.X2 : AV) = I b.X2) ∧ True, Con Tryd.prog 85 [I a.Y2, I b.Y2] true (I (max a.Y2 b.Y2)) ∧ ((I a.Y2 : AV) = I a.Y2) ∧ ((I b.Y2 : AV) = I b.Y2) ∧ True] (by kernel_rfl) hB ⟨⟨(l00Min_ok a.X1 b.X1), rfl, rfl, trivial⟩, ⟨(l00Min_ok a.Y1 b.Y1), rfl, rfl, trivial⟩, ⟨(l00Max_ok a.X2 b.X2), rfl, rfl, trivial⟩, ⟨(l00Max_ok a.Y2 b.Y2), rfl, rfl, trivial⟩, trivial⟩ ?_
  refine ae_then ?_
  refine aw_ret ?_
  refine ae_ret hB (.agg [I (min a.X1 b.X1), I (min a.Y1 b.Y1), I (max a.X2 b.X2), I (max a.Y2 b.Y2)]) (by kernel_rfl) (.inl (by first | rfl | (refine congrArg Bv ?_; simp [*]; done) | (refine congrArg Bv ?_; simp [*]; omega) | (refine congrArg Bv ?_; simp_all []; done) | (refine congrArg Bv ?_; simp_all []; omega))) rfl (fun _ => (by simp [tagged, taggedL]))


-- spec.l02BoxOf
theorem l02BoxOf_ok (s : Stroke) (ok : okStroke' s = true) : Con Tryd.prog 69 [.ptr false [slPoint false s.Points]] true (agBox (boxS s.Points s.Points.length)) := by
  have hln := okS_len ok
  refine fn_ok (fn := Tryd.f69) (nt := 50) Tryd.func69 rfl rfl rfl rfl (by simp [taggedL, tagged, tagPoint]) fun B hB => ?_
  refine aw_lens (x := .ptr false [slPoint false s.Points]) 0 rfl (fun len_s => ?_)
  simp [LenOK, LenL, cPoint, fPoint, slPoint] at len_s
  refine aw_seq ?_
  refine aw_reg [(0, .new 2)] [0, 2] [2] [.ptr false [slPoint false s.Points], .ref 2 0] [some (.box [I 0, I 0, I 0, I 0])] [] (by kernel_rfl) hB trivial ?_
  refine ae_then ?_
  refine aw_seq ?_
  refine aw_reg [(6, .new 3)] [0, 2, 3] [2, 3] [.ptr false [slPoint false s.Points], .ref 2 0, .ref 3 0] [some (.box [I 0, I 0, I 0, I 0]), some (bxPoint (at_ s.Points 0))] [(0 : Int) ≤ 0 ∧ 0 < (s.Points.length : Int)] (by kernel_rfl) hB ⟨⟨(by omega), (by omega)⟩, trivial⟩ ?_
  refine ae_then ?_
  refine aw_seq ?_
  refine aw_reg [(9, .new 4)] [0, 2, 4] [2, 4] [.ptr false [slPoint false s.Points], .ref 2 0, .ref 4 0] [some (.box [I 0, I 0, I 0, I 0]), some (.box [I ((at_ s.Points 0).X), I ((at_ s.Points 0).Y), I ((at_ s.Points 0).X), I ((at_ s.Points 0).Y)])] [] (by kernel_rfl) hB trivial ?_
  refine ae_then ?_
  refine aw_seq ?_
  refine aw_seq ?_
  refine aw_reg [] [0, 2, 4, 5] [2, 4] [.ptr false [slPoint false s.Points], .ref 2 0, .ref 4 0, I 1] [some (.box [I 0, I 0, I 0, I 0]), some (.box [I ((at_ s.Points 0).X), I ((at_ s.Points 0).Y), I ((at_ s.Points 0).X), I ((at_ s.Points 0).Y)])] [] (by kernel_rfl) hB trivial ?_
  refine ae_then ?_
  refine aw_block ?_
  refine aw_loop (fun gn gσ => ∃ (i : Int) (x1 : Int) (y1 : Int) (x2 : Int) (y2 : Int), gn = ((s.Points.length : Int) - i).toNat ∧ (1 ≤ i ∧ i ≤ (s.Points.length : Int)) ∧ (Box.mk x1 y1 x2 y2 = boxS s.Points i.toNat) ∧ gσ = mkS [(0, .ptr false [slPoint false s.Points]), (2, .ref 2 0), (4, .ref 4 0), (5, I i)] [(2, .box [I 0, I 0, I 0, I 0]), (4, .box [I x1, I y1, I x2, I y2])]) (((s.Points.length : Int) - 1).toNat) ⟨1, (at_ s.Points 0).X, (at_ s.Points 0).Y, (at_ s.Points 0).X, (at_ s.Points 0).Y, rfl, (by omega), (by first | rfl | exact (boxS_one _).symm), rfl⟩ (fun gn gσ hI => ?_)
  obtain ⟨i, x1, y1, x2, y2, rfl, hi0, hb1, rfl⟩ := hI
  refine aw_seq ?_
  refine aw_seq ?_
  by_cases h1 : i < (s.Points.length : Int)
  ·have hi : i.toNat < s.Points.length := by omega
   refine aw_reg [(6, .dec true)] [0, 2, 4, 5, 28] [2, 4] [.ptr false [slPoint false s.Points], .ref 2 0, .ref 4 0, I i, Bv true] [some (.box [I 0, I 0, I 0, I 0]), some (.box [I x1, I y1, I x2, I y2])] [i < (s.Points.length : Int)] (by kernel_rfl) hB ⟨h1, trivial⟩ ?_
   refine ae_then ?_
   refine aw_true rfl ?_
   refine aw_skip ?_
   refine ae_then ?_
   refine aw_seq ?_
   refine aw_block ?_
   refine aw_seq ?_
   refine aw_reg [(7, .new 6)] [0, 2, 4, 5, 6] [2, 4, 6] [.ptr false [slPoint false s.Points], .ref 2 0, .ref 4 0, I i, .ref 6 0] [some (.box [I 0, I 0, I 0, I 0]), some (.box [I x1, I y1, I x2, I y2]), some (bxPoint (at_ s.Points i.toNat))] [(0 : Int) ≤ i ∧ i < (s.Points.length : Int)] (by kernel_rfl) hB ⟨⟨(by omega), (by omega)⟩, trivial⟩ ?_
   refine ae_then ?_
   refine aw_reg [(10, .call [(true, .agg [I x1, I y1, I x2, I y2]), (true, .agg [I ((at_ s.Points i.toNat).X), I ((at_ s.Points i.toNat).Y), I ((at_ s.Points i.toNat).X), I ((at_ s.Points i.toNat).Y)])] true (agBox (joinB (Box.mk x1 y1 x2 y2) (Box.mk ((at_ s.Points i.toNat).X) ((at_ s.Points i.toNat).Y) ((at_ s.Points i.toNat).X) ((at_ s.Points i.toNat).Y)))))] [0, 2, 4, 5] [2, 4] [.ptr false [slPoint false s.Points], .ref 2 0, .ref 4 0, I i] [some (.box [I 0, I 0, I 0, I 0]), some (bxBox (joinB (Box.mk x1 y1 x2 y2) (Box.mk ((at_ s.Points i.toNat).X) ((at_ s.Points i.toNat).Y) ((at_ s.Points i.toNat).X) ((at_ s.Points i.toNat).Y))))] [Con Tryd.prog 106 [.agg [I x1, I y1, I x2, I y2], .agg [I ((at_ s.Points i.toNat).X), I ((at_ s.Points i.toNat).Y), I ((at_ s.Points i.toNat).X), I ((at_ s.Points i.toNat).Y)]] true (agBox (joinB (Box.mk x1 y1 x2 y2) (Box.mk ((at_ s.Points i.toNat).X) ((at_ s.Points i.toNat).Y) ((at_ s.Points i.toNat).X) ((at_ s.Points i.toNat).Y)))) ∧ ((.agg [I x1, I y1, I x2, I y2] : AV) = .agg [I x1, I y1, I x2, I y2]) ∧ ((.agg [I ((at_ s.Points i.toNat).X), I ((at_ s.Points i.toNat).Y), I ((at_ s.Points i.toNat).X), I ((at_ s.Points i.toNat).Y)] : AV) = .agg [I ((at_ s.Points i.toNat).X), I ((at_ s.Points i.toNat).Y), I ((at_ s.Points i.toNat).X), I ((at_ s.Points i.toNat).Y)]) ∧ True] (by kernel_rfl) hB ⟨⟨(l02Join_ok (Box.mk x1 y1 x2 y2) (Box.mk ((at_ s.Points i.toNat).X) ((at_ s.Points i.toNat).Y) ((at_ s.Points i.toNat).X) ((at_ s.Points i.toNat).Y))), rfl, rfl, trivial⟩, trivial⟩ ?_
   refine ae_block 1 ?_
   refine ae_then ?_
   refine aw_reg [] [0, 2, 4, 5] [2, 4] [.ptr false [slPoint false s.Points], .ref 2 0, .ref 4 0, I (i + 1)] [some (.box [I 0, I 0, I 0, I 0]), some (bxBox (joinB (Box.mk x1 y1 x2 y2) (Box.mk ((at_ s.Points i.toNat).X) ((at_ s.Points i.toNat).Y) ((at_ s.Points i.toNat).X) ((at_ s.Points i.toNat).Y))))] [inR .i64 (i + 1)] (by kernel_rfl) hB ⟨(inR_i64 (by omega) (by omega)), trivial⟩ ?_
   refine ae_weak hB [] (T := [(0, .ptr false [slPoint false s.Points]), (2, .ref 2 0), (4, .ref 4 0), (5, I (i + 1))]) (O := [(2, .box [I 0, I 0, I 0, I 0]), (4, .box [I ((joinB (Box.mk x1 y1 x2 y2) (Box.mk ((at_ s.Points i.toNat).X) ((at_ s.Points i.toNat).Y) ((at_ s.Points i.toNat).X) ((at_ s.Points i.toNat).Y))).X1), I ((joinB (Box.mk x1 y1 x2 y2) (Box.mk ((at_ s.Points i.toNat).X) ((at_ s.Points i.toNat).Y) ((at_ s.Points i.toNat).X) ((at_ s.Points i.toNat).Y))).Y1), I ((joinB (Box.mk x1 y1 x2 y2) (Box.mk ((at_ s.Points i.toNat).X) ((at_ s.Points i.toNat).Y) ((at_ s.Points i.toNat).X) ((at_ s.Points i.toNat).Y))).X2), I ((joinB (Box.mk x1 y1 x2 y2) (Box.mk ((at_ s.Points i.toNat).X) ((at_ s.Points i.toNat).Y) ((at_ s.Points i.toNat).X) ((at_ s.Points i.toNat).Y))).Y2)])]) rfl (⟨.inl rfl, .inl rfl, .inl rfl, .inl rfl, trivial⟩) (⟨.inl rfl, .inr ⟨rfl, ⟨rfl, ⟨rfl, ⟨rfl, rfl⟩⟩⟩⟩, trivial⟩) (ae_again _ (by omega) ⟨(i + 1), (joinB (Box.mk x1 y1 x2 y2) (Box.mk ((at_ s.Points i.toNat).X) ((at_ s.Points i.toNat).Y) ((at_ s.Points i.toNat).X) ((at_ s.Points i.toNat).Y))).X1, (joinB (Box.mk x1 y1 x2 y2) (Box.mk ((at_ s.Points i.toNat).X) ((at_ s.Points i.toNat).Y) ((at_ s.Points i.toNat).X) ((at_ s.Points i.toNat).Y))).Y1, (joinB (Box.mk x1 y1 x2 y2) (Box.mk ((at_ s.Points i.toNat).X) ((at_ s.Points i.toNat).Y) ((at_ s.Points i.toNat).X) ((at_ s.Points i.toNat).Y))).X2, (joinB (Box.mk x1 y1 x2 y2) (Box.mk ((at_ s.Points i.toNat).X) ((at_ s.Points i.toNat).Y) ((at_ s.Points i.toNat).X) ((at_ s.Points i.toNat).Y))).Y2, rfl, (by omega), (by rw [boxS_succ (by omega), ← hb1]; rfl), rfl⟩)
  ·have hie : i.toNat = s.Points.length := by omega
   rw [hie] at hb1
   refine aw_reg [(6, .dec false)] [0, 2, 4, 5, 28] [2, 4] [.ptr false [slPoint false s.Points], .ref 2 0, .ref 4 0, I i, Bv false] [some (.box [I 0, I 0, I 0, I 0]), some (.box [I x1, I y1, I x2, I y2])] [¬ (i < (s.Points.length : Int))] (by kernel_rfl) hB ⟨h1, trivial⟩ ?_
   refine ae_then ?_
   refine aw_false rfl ?_
   refine aw_exit ?_
   refine ae_exit_then ?_
   refine ae_exit_then ?_
   refine ae_exit_same ?_
   refine ae_then ?_
   refine aw_seq ?_
   refine aw_reg [] [2] [2] [.ref 2 0] [some (.box [I x1, I y1, I x2, I y2])] [] (by kernel_rfl) hB trivial ?_
   refine ae_then ?_
   refine aw_ret ?_
   refine ae_ret hB (.agg [I x1, I y1, I x2, I y2]) (by kernel_rfl) (.inl (by rw [← hb1])) rfl (fun _ => (by simp [tagged, taggedL]))


-- spec.l23Caret
theorem l23Caret_ok (s : Stroke) (ok : okStroke' s = true) : Con Tryd.prog 104 [.ptr false [slPoint false s.Points]] true (Bv (caretB s)) := by
  have hln := okS_len ok
  have hpf := okS_at ok (j := 0) (by omega)
  have hpl := okS_at ok (j := s.Points.length - 1) (by omega)
  have hpf' := okP_iff.1 hpf
  have hpl' := okP_iff.1 hpl
  have hbx := boxS_all ok
  unfold okBox at hbx
  have hsb := sumS_bd ok s.Points.length (Nat.le_refl _)
  have heb := ends_bd ok
  have hle : ((s.Points.length : Int) - 1).toNat = s.Points.length - 1 := by omega
  have hplz : okP (at_ s.Points ((s.Points.length : Int) - 1).toNat) = true := by rw [hle]; exact hpl
  have hplz' := okP_iff.1 hplz
  refine fn_ok (fn := Tryd.f104) (nt := 59) Tryd.func104 rfl rfl rfl rfl (by simp [taggedL, tagged, tagPoint]) fun B hB => ?_
  refine aw_lens (x := .ptr false [slPoint false s.Points]) 0 rfl (fun len_s => ?_)
  simp [LenOK, LenL, cPoint, fPoint, slPoint] at len_s
  refine aw_seq ?_
  refine aw_reg [] [0] [] [.ptr false [slPoint false s.Points]] [] [] (by kernel_rfl) hB trivial ?_
  refine ae_then ?_
  refine aw_seq ?_
  refine aw_reg [(1, .call [(true, .ptr false [slPoint false s.Points])] true (agBox (boxS s.Points s.Points.length))), (2, .new 3)] [0, 3] [3] [.ptr false [slPoint false s.Points], .ref 3 0] [some (bxBox (boxS s.Points s.Points.length))] [Con Tryd.prog 69 [.ptr false [slPoint false s.Points]] true (agBox (boxS s.Points s.Points.length)) ∧ ((.ptr false [slPoint false s.Points] : AV) = .ptr false [slPoint false s.Points]) ∧ True] (by kernel_rfl) hB ⟨⟨(l02BoxOf_ok s ok), rfl, trivial⟩, trivial⟩ ?_
  refine ae_then ?_
  refine aw_seq ?_
  refine aw_reg [] [0, 3, 4] [3] [.ptr false [slPoint false s.Points], .ref 3 0, I (((boxS s.Points s.Points.length).Y2) - ((boxS s.Points s.Points.length).Y1))] [some (bxBox (boxS s.Points s.Points.length))] [inR .i64 (((boxS s.Points s.Points.length).Y2) - ((boxS s.Points s.Points.length).Y1))] (by kernel_rfl) hB ⟨(inR_i64 (by omega) (by omega)), trivial⟩ ?_
  refine ae_then ?_
  refine aw_seq ?_
  refine aw_reg [] [0, 3, 4, 5] [3] [.ptr false [slPoint false s.Points], .ref 3 0, I (((boxS s.Points s.Points.length).Y2) - ((boxS s.Points s.Points.length).Y1)), I (((at_ s.Points 0).Y) - ((boxS s.Points s.Points.length).Y1))] [some (bxBox (boxS s.Points s.Points.length))] [(0 : Int) ≤ 0 ∧ 0 < (s.Points.length : Int), inR .i64 (((at_ s.Points 0).Y) - ((boxS s.Points s.Points.length).Y1))] (by kernel_rfl) hB ⟨⟨(by omega), (by omega)⟩, (inR_i64 (by omega) (by omega)), trivial⟩ ?_
  refine ae_then ?_
  refine aw_seq ?_
  refine aw_reg [] [0, 4, 5, 6] [] [.ptr false [slPoint false s.Points], I (((boxS s.Points s.Points.length).Y2) - ((boxS s.Points s.Points.length).Y1)), I (((at_ s.Points 0).Y) - ((boxS s.Points s.Points.length).Y1)), I (((at_ s.Points (((s.Points.length : Int) - 1).toNat)).Y) - ((boxS s.Points s.Points.length).Y1))] [] [inR .i64 ((s.Points.length : Int) - 1), (0 : Int) ≤ ((s.Points.length : Int) - 1) ∧ ((s.Points.length : Int) - 1) < (s.Points.length : Int), inR .i64 (((at_ s.Points (((s.Points.length : Int) - 1).toNat)).Y) - ((boxS s.Points s.Points.length).Y1))] (by kernel_rfl) hB ⟨(inR_i64 (by omega) (by omega)), ⟨(by omega), (by omega)⟩, (inR_i64 (by omega) (by omega)), trivial⟩ ?_
  refine ae_then ?_
  refine aw_seq ?_
  by_cases h1 : 0 < (((boxS s.Points s.Points.length).Y2) - ((boxS s.Points s.Points.length).Y1))
  ·by_cases h2 : (((boxS s.Points s.Points.length).Y2) - ((boxS s.Points s.Points.length).Y1)) ≤ (2 * (((at_ s.Points 0).Y) - ((boxS s.Points s.Points.length).Y1)))
   ·by_cases h3 : (((boxS s.Points s.Points.length).Y2) - ((boxS s.Points s.Points.length).Y1)) ≤ (2 * (((at_ s.Points (((s.Points.length : Int) - 1).toNat)).Y) - ((boxS s.Points s.Points.length).Y1)))
    ·refine aw_reg [(1, .dec true), (6, .dec true), (12, .dec true), (16, .call [(true, .ptr false [slPoint false s.Points])] true (I ((revS s.Points s.Points.length).1)))] [2] [] [Bv (decide (((revS s.Points s.Points.length).1) = 0))] [] [0 < (((boxS s.Points s.Points.length).Y2) - ((boxS s.Points s.Points.length).Y1)), inR .i64 (2 * (((at_ s.Points 0).Y) - ((boxS s.Points s.Points.length).Y1))), (((boxS s.Points s.Points.length).Y2) - ((boxS s.Points s.Points.length).Y1)) ≤ (2 * (((at_ s.Points 0).Y) - ((boxS s.Points s.Points.length).Y1))), inR .i64 (2 * (((at_ s.Points (((s.Points.length : Int) - 1).toNat)).Y) - ((boxS s.Points s.Points.length).Y1))), (((boxS s.Points s.Points.length).Y2) - ((boxS s.Points s.Points.length).Y1)) ≤ (2 * (((at_ s.Points (((s.Points.length : Int) - 1).toNat)).Y) - ((boxS s.Points s.Points.length).Y1))), Con Tryd.prog 99 [.ptr false [slPoint false s.Points]] true (I ((revS s.Points s.Points.length).1)) ∧ ((.ptr false [slPoint false s.Points] : AV) = .ptr false [slPoint false s.Points]) ∧ True] (by kernel_rfl) hB ⟨h1, (inR_i64 (by omega) (by omega)), h2, (inR_i64 (by omega) (by omega)), h3, ⟨(l23Reversals_ok s ok), rfl, trivial⟩, trivial⟩ ?_
     refine ae_then ?_
     refine aw_ret ?_
     refine ae_ret hB (Bv (decide (((revS s.Points s.Points.length).1) = 0))) (by kernel_rfl) (.inl (by refine congrArg Bv ?_; unfold caretB; simp only [hle] at *; rw [Bool.eq_iff_iff]; simp_all; try omega)) rfl (fun _ => trivial)
    ·refine aw_reg [(1, .dec true), (6, .dec true), (12, .dec false)] [2] [] [Bv false] [] [0 < (((boxS s.Points s.Points.length).Y2) - ((boxS s.Points s.Points.length).Y1)), inR .i64 (2 * (((at_ s.Points 0).Y) - ((boxS s.Points s.Points.length).Y1))), (((boxS s.Points s.Points.length).Y2) - ((boxS s.Points s.Points.length).Y1)) ≤ (2 * (((at_ s.Points 0).Y) - ((boxS s.Points s.Points.length).Y1))), inR .i64 (2 * (((at_ s.Points (((s.Points.length : Int) - 1).toNat)).Y) - ((boxS s.Points s.Points.length).Y1))), ¬ ((((boxS s.Points s.Points.length).Y2) - ((boxS s.Points s.Points.length).Y1)) ≤ (2 * (((at_ s.Points (((s.Points.length : Int) - 1).toNat)).Y) - ((boxS s.Points s.Points.length).Y1))))] (by kernel_rfl) hB ⟨h1, (inR_i64 (by omega) (by omega)), h2, (inR_i64 (by omega) (by omega)), h3, trivial⟩ ?_
     refine ae_then ?_
     refine aw_ret ?_
     refine ae_ret hB (Bv false) (by kernel_rfl) (.inl (by refine congrArg Bv ?_; unfold caretB; simp only [hle] at *; rw [Bool.eq_iff_iff]; simp_all; try omega)) rfl (fun _ => trivial)
   ·refine aw_reg [(1, .dec true), (6, .dec false)] [2] [] [Bv false] [] [0 < (((boxS s.Points s.Points.length).Y2) - ((boxS s.Points s.Points.length).Y1)), inR .i64 (2 * (((at_ s.Points 0).Y) - ((boxS s.Points s.Points.length).Y1))), ¬ ((((boxS s.Points s.Points.length).Y2) - ((boxS s.Points s.Points.length).Y1)) ≤ (2 * (((at_ s.Points 0).Y) - ((boxS s.Points s.Points.length).Y1))))] (by kernel_rfl) hB ⟨h1, (inR_i64 (by omega) (by omega)), h2, trivial⟩ ?_
    refine ae_then ?_
    refine aw_ret ?_
    refine ae_ret hB (Bv false) (by kernel_rfl) (.inl (by refine congrArg Bv ?_; unfold caretB; simp only [hle] at *; rw [Bool.eq_iff_iff]; simp_all; try omega)) rfl (fun _ => trivial)
  ·refine aw_reg [(1, .dec false)] [2] [] [Bv false] [] [¬ (0 < (((boxS s.Points s.Points.length).Y2) - ((boxS s.Points s.Points.length).Y1)))] (by kernel_rfl) hB ⟨h1, trivial⟩ ?_
   refine ae_then ?_
   refine aw_ret ?_
   refine ae_ret hB (Bv false) (by kernel_rfl) (.inl (by refine congrArg Bv ?_; unfold caretB; simp only [hle] at *; rw [Bool.eq_iff_iff]; simp_all; try omega)) rfl (fun _ => trivial)


-- spec.l05Straight
theorem l05Straight_ok (s : Stroke) (ok : okStroke' s = true) : Con Tryd.prog 105 [.ptr false [slPoint false s.Points]] true (I (strI s)) := by
  have hln := okS_len ok
  have hpf := okS_at ok (j := 0) (by omega)
  have hpl := okS_at ok (j := s.Points.length - 1) (by omega)
  have hpf' := okP_iff.1 hpf
  have hpl' := okP_iff.1 hpl
  have hbx := boxS_all ok
  unfold okBox at hbx
  have hsb := sumS_bd ok s.Points.length (Nat.le_refl _)
  have heb := ends_bd ok
  have hle : ((s.Points.length : Int) - 1).toNat = s.Points.length - 1 := by omega
  have hplz : okP (at_ s.Points ((s.Points.length : Int) - 1).toNat) = true := by rw [hle]; exact hpl
  have hplz' := okP_iff.1 hplz
  have heb2 := segI_bd hpf hplz
  have heb3 := segI_bd hpf hpl
  refine fn_ok (fn := Tryd.f105) (nt := 31) Tryd.func105 rfl rfl rfl rfl (by simp [taggedL, tagged, tagPoint]) fun B hB => ?_
  refine aw_lens (x := .ptr false [slPoint false s.Points]) 0 rfl (fun len_s => ?_)
  simp [LenOK, LenL, cPoint, fPoint, slPoint] at len_s
  refine aw_seq ?_
  refine aw_reg [] [0] [] [.ptr false [slPoint false s.Points]] [] [] (by kernel_rfl) hB trivial ?_
  refine ae_then ?_
  refine aw_seq ?_
  refine aw_reg [(1, .call [(true, .ptr false [slPoint false s.Points])] true (I (sumS s.Points s.Points.length)))] [0, 3] [] [.ptr false [slPoint false s.Points], I (sumS s.Points s.Points.length)] [] [Con Tryd.prog 98 [.ptr false [slPoint false s.Points]] true (I (sumS s.Points s.Points.length)) ∧ ((.ptr false [slPoint false s.Points] : AV) = .ptr false [slPoint false s.Points]) ∧ True] (by kernel_rfl) hB ⟨⟨(l05Sum_ok s ok), rfl, trivial⟩, trivial⟩ ?_
  refine ae_then ?_
  refine aw_seq ?_
  refine aw_seq ?_
  by_cases h1 : (sumS s.Points s.Points.length) = 0
  ·refine aw_reg [(1, .dec true)] [0, 3, 7] [] [.ptr false [slPoint false s.Points], I (sumS s.Points s.Points.length), Bv true] [] [(sumS s.Points s.Points.length) = 0] (by kernel_rfl) hB ⟨h1, trivial⟩ ?_
   refine ae_then ?_
   refine aw_true rfl ?_
   refine aw_seq ?_
   refine aw_reg [] [2] [] [I 1000] [] [] (by kernel_rfl) hB trivial ?_
   refine ae_then ?_
   refine aw_ret ?_
   refine ae_ret_then ?_
   refine ae_ret hB (I 1000) (by kernel_rfl) (.inl (by refine congrArg I ?_; unfold strI endsI; simp_all [hle])) rfl (fun _ => trivial)
  ·refine aw_reg [(1, .dec false)] [0, 3, 7] [] [.ptr false [slPoint false s.Points], I (sumS s.Points s.Points.length), Bv false] [] [¬ ((sumS s.Points s.Points.length) = 0)] (by kernel_rfl) hB ⟨h1, trivial⟩ ?_
   refine ae_then ?_
   refine aw_false rfl ?_
   refine aw_skip ?_
   refine ae_then ?_
   refine aw_seq ?_
   refine aw_reg [(18, .call [(true, agPoint (at_ s.Points 0)), (true, agPoint (at_ s.Points (((s.Points.length : Int) - 1).toNat)))] true (I (segI (at_ s.Points 0) (at_ s.Points (((s.Points.length : Int) - 1).toNat))))), (21, .nn), (22, .call [(true, I 1000), (true, I ((1000 * (segI (at_ s.Points 0) (at_ s.Points (((s.Points.length : Int) - 1).toNat)))) / (sumS s.Points s.Points.length)))] true (I (min 1000 ((1000 * (segI (at_ s.Points 0) (at_ s.Points (((s.Points.length : Int) - 1).toNat)))) / (sumS s.Points s.Points.length)))))] [2] [] [I (min 1000 ((1000 * (segI (at_ s.Points 0) (at_ s.Points (((s.Points.length : Int) - 1).toNat)))) / (sumS s.Points s.Points.length)))] [] [(0 : Int) ≤ 0 ∧ 0 < (s.Points.length : Int), inR .i64 ((s.Points.length : Int) - 1), (0 : Int) ≤ ((s.Points.length : Int) - 1) ∧ ((s.Points.length : Int) - 1) < (s.Points.length : Int), Con Tryd.prog 103 [agPoint (at_ s.Points 0), agPoint (at_ s.Points (((s.Points.length : Int) - 1).toNat))] true (I (segI (at_ s.Points 0) (at_ s.Points (((s.Points.length : Int) - 1).toNat)))) ∧ ((agPoint (at_ s.Points 0) : AV) = agPoint (at_ s.Points 0)) ∧ ((agPoint (at_ s.Points (((s.Points.length : Int) - 1).toNat)) : AV) = agPoint (at_ s.Points (((s.Points.length : Int) - 1).toNat))) ∧ True, inR .i64 (1000 * (segI (at_ s.Points 0) (at_ s.Points (((s.Points.length : Int) - 1).toNat)))), (0 : Int) ≤ (1000 * (segI (at_ s.Points 0) (at_ s.Points (((s.Points.length : Int) - 1).toNat)))) ∧ (0 : Int) < (sumS s.Points s.Points.length) ∧ inR .i64 (1000 * (segI (at_ s.Points 0) (at_ s.Points (((s.Points.length : Int) - 1).toNat)))), Con Tryd.prog 86 [I 1000, I ((1000 * (segI (at_ s.Points 0) (at_ s.Points (((s.Points.length : Int) - 1).toNat)))) / (sumS s.Points s.Points.length))] true (I (min 1000 ((1000 * (segI (at_ s.Points 0) (at_ s.Points (((s.Points.length : Int) - 1).toNat)))) / (sumS s.Points s.Points.length)))) ∧ ((I 1000 : AV) = I 1000) ∧ ((I ((1000 * (segI (at_ s.Points 0) (at_ s.Points (((s.Points.length : Int) - 1).toNat)))) / (sumS s.Points s.Points.length)) : AV) = I ((1000 * (segI (at_ s.Points 0) (at_ s.Points (((s.Points.length : Int) - 1).toNat)))) / (sumS s.Points s.Points.length))) ∧ True] (by kernel_rfl) hB ⟨⟨(by omega), (by omega)⟩, (inR_i64 (by omega) (by omega)), ⟨(by omega), (by omega)⟩, ⟨(l05Length_ok (at_ s.Points 0) (at_ s.Points (((s.Points.length : Int) - 1).toNat)) (by assumption) (by assumption)), rfl, rfl, trivial⟩, (inR_i64 (by omega) (by omega)), ⟨(by omega), (by omega), (inR_i64 (by omega) (by omega))⟩, ⟨(l00Min_ok 1000 ((1000 * (segI (at_ s.Points 0) (at_ s.Points (((s.Points.length : Int) - 1).toNat)))) / (sumS s.Points s.Points.length))), rfl, rfl, trivial⟩, trivial⟩ ?_
   refine ae_then ?_
   refine aw_ret ?_
   refine ae_ret hB (I (min 1000 ((1000 * (segI (at_ s.Points 0) (at_ s.Points (((s.Points.length : Int) - 1).toNat)))) / (sumS s.Points s.Points.length)))) (by kernel_rfl) (.inl (by refine congrArg I ?_; unfold strI endsI; simp_all [hle])) rfl (fun _ => trivial)


-- spec.l23Gesture
theorem l23Gesture_ok (s : Stroke) (ok : okStroke' s = true) : Con Tryd.prog 68 [.ptr false [slPoint false s.Points]] true (I (gestI s)) := by
  have hln := okS_len ok
  have hpf := okS_at ok (j := 0) (by omega)
  have hpl := okS_at ok (j := s.Points.length - 1) (by omega)
  have hpf' := okP_iff.1 hpf
  have hpl' := okP_iff.1 hpl
  have hbx := boxS_all ok
  unfold okBox at hbx
  have hsb := sumS_bd ok s.Points.length (Nat.le_refl _)
  have heb := ends_bd ok
  have hle : ((s.Points.length : Int) - 1).toNat = s.Points.length - 1 := by omega
  have hplz : okP (at_ s.Points ((s.Points.length : Int) - 1).toNat) = true := by rw [hle]; exact hpl
  have hplz' := okP_iff.1 hplz
  have heb2 := segI_bd hpf hplz
  have heb3 := segI_bd hpf hpl
  have hdl := dirsL_len s.Points s.Points.length
  have hbtb := bendT_bd ok
  refine fn_ok (fn := Tryd.f68) (nt := 66) Tryd.func68 rfl rfl rfl rfl (by simp [taggedL, tagged, tagPoint]) fun B hB => ?_
  refine aw_lens (x := .ptr false [slPoint false s.Points]) 0 rfl (fun len_s => ?_)
  simp [LenOK, LenL, cPoint, fPoint, slPoint] at len_s
  refine aw_seq ?_
  refine aw_reg [] [0] [] [.ptr false [slPoint false s.Points]] [] [] (by kernel_rfl) hB trivial ?_
  refine ae_then ?_
  refine aw_seq ?_
  refine aw_reg [(1, .call [(true, .ptr false [slPoint false s.Points])] true (I (sumS s.Points s.Points.length)))] [0, 3] [] [.ptr false [slPoint false s.Points], I (sumS s.Points s.Points.length)] [] [Con Tryd.prog 98 [.ptr false [slPoint false s.Points]] true (I (sumS s.Points s.Points.length)) ∧ ((.ptr false [slPoint false s.Points] : AV) = .ptr false [slPoint false s.Points]) ∧ True] (by kernel_rfl) hB ⟨⟨(l05Sum_ok s ok), rfl, trivial⟩, trivial⟩ ?_
  refine ae_then ?_
  refine aw_seq ?_
  refine aw_seq ?_
  by_cases h1 : (sumS s.Points s.Points.length) ≤ 160
  ·refine aw_reg [(1, .dec true)] [0, 3, 10] [] [.ptr false [slPoint false s.Points], I (sumS s.Points s.Points.length), Bv true] [] [(sumS s.Points s.Points.length) ≤ 160] (by kernel_rfl) hB ⟨h1, trivial⟩ ?_
   refine ae_then ?_
   refine aw_true rfl ?_
   refine aw_seq ?_
   refine aw_reg [] [2] [] [I 1] [] [] (by kernel_rfl) hB trivial ?_
   refine ae_then ?_
   refine aw_ret ?_
   refine ae_ret_then ?_
   refine ae_ret hB (I 1) (by kernel_rfl) (.inl (by refine congrArg I ?_; unfold gestI endsI; simp_all [hle]; try omega)) rfl (fun _ => trivial)
  ·refine aw_reg [(1, .dec false)] [0, 3, 10] [] [.ptr false [slPoint false s.Points], I (sumS s.Points s.Points.length), Bv false] [] [¬ ((sumS s.Points s.Points.length) ≤ 160)] (by kernel_rfl) hB ⟨h1, trivial⟩ ?_
   refine ae_then ?_
   refine aw_false rfl ?_
   refine aw_skip ?_
   refine ae_then ?_
   refine aw_seq ?_
   refine aw_seq ?_
   by_cases h2 : 3 ≤ ((revS s.Points s.Points.length).1)
   ·refine aw_reg [(1, .call [(true, .ptr false [slPoint false s.Points])] true (I ((revS s.Points s.Points.length).1))), (2, .dec true)] [0, 3, 13] [] [.ptr false [slPoint false s.Points], I (sumS s.Points s.Points.length), Bv true] [] [Con Tryd.prog 99 [.ptr false [slPoint false s.Points]] true (I ((revS s.Points s.Points.length).1)) ∧ ((.ptr false [slPoint false s.Points] : AV) = .ptr false [slPoint false s.Points]) ∧ True, 3 ≤ ((revS s.Points s.Points.length).1)] (by kernel_rfl) hB ⟨⟨(l23Reversals_ok s ok), rfl, trivial⟩, h2, trivial⟩ ?_
    refine ae_then ?_
    refine aw_true rfl ?_
    refine aw_seq ?_
    refine aw_reg [] [2] [] [I 2] [] [] (by kernel_rfl) hB trivial ?_
    refine ae_then ?_
    refine aw_ret ?_
    refine ae_ret_then ?_
    refine ae_ret hB (I 2) (by kernel_rfl) (.inl (by refine congrArg I ?_; unfold gestI endsI; simp_all [hle]; try omega)) rfl (fun _ => trivial)
   ·refine aw_reg [(1, .call [(true, .ptr false [slPoint false s.Points])] true (I ((revS s.Points s.Points.length).1))), (2, .dec false)] [0, 3, 13] [] [.ptr false [slPoint false s.Points], I (sumS s.Points s.Points.length), Bv false] [] [Con Tryd.prog 99 [.ptr false [slPoint false s.Points]] true (I ((revS s.Points s.Points.length).1)) ∧ ((.ptr false [slPoint false s.Points] : AV) = .ptr false [slPoint false s.Points]) ∧ True, ¬ (3 ≤ ((revS s.Points s.Points.length).1))] (by kernel_rfl) hB ⟨⟨(l23Reversals_ok s ok), rfl, trivial⟩, h2, trivial⟩ ?_
    refine ae_then ?_
    refine aw_false rfl ?_
    refine aw_skip ?_
    refine ae_then ?_
    refine aw_seq ?_
    refine aw_reg [(1, .call [(true, .ptr false [slPoint false s.Points])] true (slI true (dirsL s.Points s.Points.length)))] [0, 3, 4] [] [.ptr false [slPoint false s.Points], I (sumS s.Points s.Points.length), slI true (dirsL s.Points s.Points.length)] [] [Con Tryd.prog 100 [.ptr false [slPoint false s.Points]] true (slI true (dirsL s.Points s.Points.length)) ∧ ((.ptr false [slPoint false s.Points] : AV) = .ptr false [slPoint false s.Points]) ∧ True] (by kernel_rfl) hB ⟨⟨(l05Directions_ok s ok), rfl, trivial⟩, trivial⟩ ?_
    refine ae_then ?_
    refine aw_seq ?_
    refine aw_reg [] [0, 3, 4, 5] [] [.ptr false [slPoint false s.Points], I (sumS s.Points s.Points.length), slI true (dirsL s.Points s.Points.length), I 0] [] [] (by kernel_rfl) hB trivial ?_
    refine ae_then ?_
    refine aw_seq ?_
    refine aw_seq ?_
    refine aw_reg [] [0, 3, 4, 5, 6] [] [.ptr false [slPoint false s.Points], I (sumS s.Points s.Points.length), slI true (dirsL s.Points s.Points.length), I 0, I 1] [] [] (by kernel_rfl) hB trivial ?_
    refine ae_then ?_
    refine aw_block ?_
    refine aw_loop (fun gn gσ => ∃ (bend : Int) (i : Int), gn = (((dirsL s.Points s.Points.length).length : Int) - i).toNat ∧ (1 ≤ i ∧ (i ≤ ((dirsL s.Points s.Points.length).length : Int) ∨ i = 1)) ∧ (bend = bendS (dirsL s.Points s.Points.length) i.toNat) ∧ (-3 * i ≤ bend ∧ bend ≤ 4 * i) ∧ gσ = mkS [(0, .ptr false [slPoint false s.Points]), (3, I (sumS s.Points s.Points.length)), (4, slI true (dirsL s.Points s.Points.length)), (5, I bend), (6, I i)] []) ((((dirsL s.Points s.Points.length).length : Int) - 1).toNat) ⟨0, 1, rfl, (by omega), (by exact (bendS_one _ _ (by decide)).symm), (by omega), rfl⟩ (fun gn gσ hI => ?_)
    obtain ⟨bend, i, rfl, hb0, hb1, hb2, rfl⟩ := hI
    refine aw_seq ?_
    refine aw_seq ?_
    by_cases h3 : i < (((dirsL s.Points s.Points.length).length) : Int)
    ·have hi : i.toNat < (dirsL s.Points s.Points.length).length := by omega
     have hi2 : (i - 1).toNat < (dirsL s.Points s.Points.length).length := by omega
     have hd1 := dirsL_bd _ _ _ hi
     have hd2 := dirsL_bd _ _ _ hi2
     have hbb := bendI_bd (at_ (dirsL s.Points s.Points.length) (i - 1).toNat) (at_ (dirsL s.Points s.Points.length) i.toNat)
     refine aw_reg [(3, .dec true)] [0, 3, 4, 5, 6, 19] [] [.ptr false [slPoint false s.Points], I (sumS s.Points s.Points.length), slI true (dirsL s.Points s.Points.length), I bend, I i, Bv true] [] [i < (((dirsL s.Points s.Points.length).length) : Int)] (by kernel_rfl) hB ⟨h3, trivial⟩ ?_
     refine ae_then ?_
     refine aw_true rfl ?_
     refine aw_skip ?_
     refine ae_then ?_
     refine aw_seq ?_
     refine aw_block ?_
     refine aw_reg [(10, .call [(true, I (at_ (dirsL s.Points s.Points.length) ((i - 1).toNat))), (true, I (at_ (dirsL s.Points s.Points.length) i.toNat))] true (I (bendI (at_ (dirsL s.Points s.Points.length) ((i - 1).toNat)) (at_ (dirsL s.Points s.Points.length) i.toNat))))] [0, 3, 4, 5, 6] [] [.ptr false [slPoint false s.Points], I (sumS s.Points s.Points.length), slI true (dirsL s.Points s.Points.length), I (bend + (bendI (at_ (dirsL s.Points s.Points.length) ((i - 1).toNat)) (at_ (dirsL s.Points s.Points.length) i.toNat))), I i] [] [inR .i64 (i - 1), (0 : Int) ≤ (i - 1) ∧ (i - 1) < (((dirsL s.Points s.Points.length).length) : Int), (0 : Int) ≤ i ∧ i < (((dirsL s.Points s.Points.length).length) : Int), Con Tryd.prog 101 [I (at_ (dirsL s.Points s.Points.length) ((i - 1).toNat)), I (at_ (dirsL s.Points s.Points.length) i.toNat)] true (I (bendI (at_ (dirsL s.Points s.Points.length) ((i - 1).toNat)) (at_ (dirsL s.Points s.Points.length) i.toNat))) ∧ ((I (at_ (dirsL s.Points s.Points.length) ((i - 1).toNat)) : AV) = I (at_ (dirsL s.Points s.Points.length) ((i - 1).toNat))) ∧ ((I (at_ (dirsL s.Points s.Points.length) i.toNat) : AV) = I (at_ (dirsL s.Points s.Points.length) i.toNat)) ∧ True, inR .i64 (bend + (bendI (at_ (dirsL s.Points s.Points.length) ((i - 1).toNat)) (at_ (dirsL s.Points s.Points.length) i.toNat)))] (by kernel_rfl) hB ⟨(inR_i64 (by omega) (by omega)), ⟨(by omega), (by omega)⟩, ⟨(by omega), (by omega)⟩, ⟨(l05Bend_ok (at_ (dirsL s.Points s.Points.length) ((i - 1).toNat)) (at_ (dirsL s.Points s.Points.length) i.toNat) (by omega) (by omega)), rfl, rfl, trivial⟩, (inR_i64 (by omega) (by omega)), trivial⟩ ?_
     refine ae_block 1 ?_
     refine ae_then ?_
     refine aw_reg [] [0, 3, 4, 5, 6] [] [.ptr false [slPoint false s.Points], I (sumS s.Points s.Points.length), slI true (dirsL s.Points s.Points.length), I (bend + (bendI (at_ (dirsL s.Points s.Points.length) ((i - 1).toNat)) (at_ (dirsL s.Points s.Points.length) i.toNat))), I (i + 1)] [] [inR .i64 (i + 1)] (by kernel_rfl) hB ⟨(inR_i64 (by omega) (by omega)), trivial⟩ ?_
     exact ae_again _ (by omega) ⟨(bend + (bendI (at_ (dirsL s.Points s.Points.length) ((i - 1).toNat)) (at_ (dirsL s.Points s.Points.length) i.toNat))), (i + 1), rfl, (by omega), (by rw [bendS_succ hb0.1, ← hb1] <;> first | rfl | (unfold bendI; omega)), (by first | omega | (unfold bendI at *; omega)), rfl⟩
    ·have hbt : bend = bendT s := by rw [hb1]; unfold bendT; by_cases e : i = 1; (subst e; rw [bendS_one _ _ (by omega), bendS_one _ _ (by omega)]); (congr 1; omega)
     refine aw_reg [(3, .dec false)] [0, 3, 4, 5, 6, 19] [] [.ptr false [slPoint false s.Points], I (sumS s.Points s.Points.length), slI true (dirsL s.Points s.Points.length), I bend, I i, Bv false] [] [¬ (i < (((dirsL s.Points s.Points.length).length) : Int))] (by kernel_rfl) hB ⟨h3, trivial⟩ ?_
     refine ae_then ?_
     refine aw_false rfl ?_
     refine aw_exit ?_
     refine ae_exit_then ?_
     refine ae_exit_then ?_
     refine ae_exit_same ?_
     refine ae_then ?_
     refine aw_seq ?_
     refine aw_seq ?_
     by_cases h4 : 6 ≤ (bend.natAbs : Int)
     ·by_cases h5 : (4 * (segI (at_ s.Points 0) (at_ s.Points (((s.Points.length : Int) - 1).toNat)))) ≤ (sumS s.Points s.Points.length)
      ·refine aw_reg [(1, .call [(true, I bend)] true (I (bend.natAbs : Int))), (2, .dec true), (22, .call [(true, agPoint (at_ s.Points 0)), (true, agPoint (at_ s.Points (((s.Points.length : Int) - 1).toNat)))] true (I (segI (at_ s.Points 0) (at_ s.Points (((s.Points.length : Int) - 1).toNat))))), (25, .dec true)] [0, 60] [] [.ptr false [slPoint false s.Points], Bv true] [] [Con Tryd.prog 102 [I bend] true (I (bend.natAbs : Int)) ∧ ((I bend : AV) = I bend) ∧ True, 6 ≤ (bend.natAbs : Int), (0 : Int) ≤ 0 ∧ 0 < (s.Points.length : Int), inR .i64 ((s.Points.length : Int) - 1), (0 : Int) ≤ ((s.Points.length : Int) - 1) ∧ ((s.Points.length : Int) - 1) < (s.Points.length : Int), Con Tryd.prog 103 [agPoint (at_ s.Points 0), agPoint (at_ s.Points (((s.Points.length : Int) - 1).toNat))] true (I (segI (at_ s.Points 0) (at_ s.Points (((s.Points.length : Int) - 1).toNat)))) ∧ ((agPoint (at_ s.Points 0) : AV) = agPoint (at_ s.Points 0)) ∧ ((agPoint (at_ s.Points (((s.Points.length : Int) - 1).toNat)) : AV) = agPoint (at_ s.Points (((s.Points.length : Int) - 1).toNat))) ∧ True, inR .i64 (4 * (segI (at_ s.Points 0) (at_ s.Points (((s.Points.length : Int) - 1).toNat)))), (4 * (segI (at_ s.Points 0) (at_ s.Points (((s.Points.length : Int) - 1).toNat)))) ≤ (sumS s.Points s.Points.length)] (by kernel_rfl) hB ⟨⟨(l05Size_ok bend (by omega)), rfl, trivial⟩, h4, ⟨(by omega), (by omega)⟩, (inR_i64 (by omega) (by omega)), ⟨(by omega), (by omega)⟩, ⟨(l05Length_ok (at_ s.Points 0) (at_ s.Points (((s.Points.length : Int) - 1).toNat)) (by assumption) (by assumption)), rfl, rfl, trivial⟩, (inR_i64 (by omega) (by omega)), h5, trivial⟩ ?_
       refine ae_then ?_
       refine aw_true rfl ?_
       refine aw_seq ?_
       refine aw_reg [] [2] [] [I 3] [] [] (by kernel_rfl) hB trivial ?_
       refine ae_then ?_
       refine aw_ret ?_
       refine ae_ret_then ?_
       refine ae_ret hB (I 3) (by kernel_rfl) (.inl (by refine congrArg I ?_; unfold gestI endsI; simp_all [hle]; try omega)) rfl (fun _ => trivial)
      ·refine aw_reg [(1, .call [(true, I bend)] true (I (bend.natAbs : Int))), (2, .dec true), (22, .call [(true, agPoint (at_ s.Points 0)), (true, agPoint (at_ s.Points (((s.Points.length : Int) - 1).toNat)))] true (I (segI (at_ s.Points 0) (at_ s.Points (((s.Points.length : Int) - 1).toNat))))), (25, .dec false)] [0, 60] [] [.ptr false [slPoint false s.Points], Bv false] [] [Con Tryd.prog 102 [I bend] true (I (bend.natAbs : Int)) ∧ ((I bend : AV) = I bend) ∧ True, 6 ≤ (bend.natAbs : Int), (0 : Int) ≤ 0 ∧ 0 < (s.Points.length : Int), inR .i64 ((s.Points.length : Int) - 1), (0 : Int) ≤ ((s.Points.length : Int) - 1) ∧ ((s.Points.length : Int) - 1) < (s.Points.length : Int), Con Tryd.prog 103 [agPoint (at_ s.Points 0), agPoint (at_ s.Points (((s.Points.length : Int) - 1).toNat))] true (I (segI (at_ s.Points 0) (at_ s.Points (((s.Points.length : Int) - 1).toNat)))) ∧ ((agPoint (at_ s.Points 0) : AV) = agPoint (at_ s.Points 0)) ∧ ((agPoint (at_ s.Points (((s.Points.length : Int) - 1).toNat)) : AV) = agPoint (at_ s.Points (((s.Points.length : Int) - 1).toNat))) ∧ True, inR .i64 (4 * (segI (at_ s.Points 0) (at_ s.Points (((s.Points.length : Int) - 1).toNat)))), ¬ ((4 * (segI (at_ s.Points 0) (at_ s.Points (((s.Points.length : Int) - 1).toNat)))) ≤ (sumS s.Points s.Points.length))] (by kernel_rfl) hB ⟨⟨(l05Size_ok bend (by omega)), rfl, trivial⟩, h4, ⟨(by omega), (by omega)⟩, (inR_i64 (by omega) (by omega)), ⟨(by omega), (by omega)⟩, ⟨(l05Length_ok (at_ s.Points 0) (at_ s.Points (((s.Points.length : Int) - 1).toNat)) (by assumption) (by assumption)), rfl, rfl, trivial⟩, (inR_i64 (by omega) (by omega)), h5, trivial⟩ ?_
       refine ae_then ?_
       refine aw_false rfl ?_
       refine aw_skip ?_
       refine ae_then ?_
       refine aw_seq ?_
       refine aw_seq ?_
       rcases Bool.eq_false_or_eq_true (caretB s) with h6 | h6
       ·refine aw_reg [(1, .call [(true, .ptr false [slPoint false s.Points])] true (Bv true))] [0, 62] [] [.ptr false [slPoint false s.Points], Bv true] [] [Con Tryd.prog 104 [.ptr false [slPoint false s.Points]] true (Bv true) ∧ ((.ptr false [slPoint false s.Points] : AV) = .ptr false [slPoint false s.Points]) ∧ True] (by kernel_rfl) hB ⟨⟨(con_bool h6 (l23Caret_ok s ok)), rfl, trivial⟩, trivial⟩ ?_
        refine ae_then ?_
        refine aw_true rfl ?_
        refine aw_seq ?_
        refine aw_reg [] [2] [] [I 4] [] [] (by kernel_rfl) hB trivial ?_
        refine ae_then ?_
        refine aw_ret ?_
        refine ae_ret_then ?_
        refine ae_ret hB (I 4) (by kernel_rfl) (.inl (by refine congrArg I ?_; unfold gestI endsI; simp_all [hle]; try omega)) rfl (fun _ => trivial)
       ·refine aw_reg [(1, .call [(true, .ptr false [slPoint false s.Points])] true (Bv false))] [0, 62] [] [.ptr false [slPoint false s.Points], Bv false] [] [Con Tryd.prog 104 [.ptr false [slPoint false s.Points]] true (Bv false) ∧ ((.ptr false [slPoint false s.Points] : AV) = .ptr false [slPoint false s.Points]) ∧ True] (by kernel_rfl) hB ⟨⟨(con_bool h6 (l23Caret_ok s ok)), rfl, trivial⟩, trivial⟩ ?_
        refine ae_then ?_
        refine aw_false rfl ?_
        refine aw_skip ?_
        refine ae_then ?_
        refine aw_seq ?_
        refine aw_seq ?_
        by_cases h7 : 900 ≤ (strI s)
        ·refine aw_reg [(1, .call [(true, .ptr false [slPoint false s.Points])] true (I (strI s))), (2, .dec true)] [65] [] [Bv true] [] [Con Tryd.prog 105 [.ptr false [slPoint false s.Points]] true (I (strI s)) ∧ ((.ptr false [slPoint false s.Points] : AV) = .ptr false [slPoint false s.Points]) ∧ True, 900 ≤ (strI s)] (by kernel_rfl) hB ⟨⟨(l05Straight_ok s ok), rfl, trivial⟩, h7, trivial⟩ ?_
         refine ae_then ?_
         refine aw_true rfl ?_
         refine aw_seq ?_
         refine aw_reg [] [2] [] [I 5] [] [] (by kernel_rfl) hB trivial ?_
         refine ae_then ?_
         refine aw_ret ?_
         refine ae_ret_then ?_
         refine ae_ret hB (I 5) (by kernel_rfl) (.inl (by refine congrArg I ?_; unfold gestI endsI; simp_all [hle]; try omega)) rfl (fun _ => trivial)
        ·refine aw_reg [(1, .call [(true, .ptr false [slPoint false s.Points])] true (I (strI s))), (2, .dec false)] [65] [] [Bv false] [] [Con Tryd.prog 105 [.ptr false [slPoint false s.Points]] true (I (strI s)) ∧ ((.ptr false [slPoint false s.Points] : AV) = .ptr false [slPoint false s.Points]) ∧ True, ¬ (900 ≤ (strI s))] (by kernel_rfl) hB ⟨⟨(l05Straight_ok s ok), rfl, trivial⟩, h7, trivial⟩ ?_
         refine ae_then ?_
         refine aw_false rfl ?_
         refine aw_skip ?_
         refine ae_then ?_
         refine aw_seq ?_
         refine aw_reg [] [2] [] [I 0] [] [] (by kernel_rfl) hB trivial ?_
         refine ae_then ?_
         refine aw_ret ?_
         refine ae_ret hB (I 0) (by kernel_rfl) (.inl (by refine congrArg I ?_; unfold gestI endsI; simp_all [hle]; try omega)) rfl (fun _ => trivial)
     ·refine aw_reg [(1, .call [(true, I bend)] true (I (bend.natAbs : Int))), (2, .dec false)] [0, 60] [] [.ptr false [slPoint false s.Points], Bv false] [] [Con Tryd.prog 102 [I bend] true (I (bend.natAbs : Int)) ∧ ((I bend : AV) = I bend) ∧ True, ¬ (6 ≤ (bend.natAbs : Int))] (by kernel_rfl) hB ⟨⟨(l05Size_ok bend (by omega)), rfl, trivial⟩, h4, trivial⟩ ?_
      refine ae_then ?_
      refine aw_false rfl ?_
      refine aw_skip ?_
      refine ae_then ?_
      refine aw_seq ?_
      refine aw_seq ?_
      rcases Bool.eq_false_or_eq_true (caretB s) with h8 | h8
      ·refine aw_reg [(1, .call [(true, .ptr false [slPoint false s.Points])] true (Bv true))] [0, 62] [] [.ptr false [slPoint false s.Points], Bv true] [] [Con Tryd.prog 104 [.ptr false [slPoint false s.Points]] true (Bv true) ∧ ((.ptr false [slPoint false s.Points] : AV) = .ptr false [slPoint false s.Points]) ∧ True] (by kernel_rfl) hB ⟨⟨(con_bool h8 (l23Caret_ok s ok)), rfl, trivial⟩, trivial⟩ ?_
       refine ae_then ?_
       refine aw_true rfl ?_
       refine aw_seq ?_
       refine aw_reg [] [2] [] [I 4] [] [] (by kernel_rfl) hB trivial ?_
       refine ae_then ?_
       refine aw_ret ?_
       refine ae_ret_then ?_
       refine ae_ret hB (I 4) (by kernel_rfl) (.inl (by refine congrArg I ?_; unfold gestI endsI; simp_all [hle]; try omega)) rfl (fun _ => trivial)
      ·refine aw_reg [(1, .call [(true, .ptr false [slPoint false s.Points])] true (Bv false))] [0, 62] [] [.ptr false [slPoint false s.Points], Bv false] [] [Con Tryd.prog 104 [.ptr false [slPoint false s.Points]] true (Bv false) ∧ ((.ptr false [slPoint false s.Points] : AV) = .ptr false [slPoint false s.Points]) ∧ True] (by kernel_rfl) hB ⟨⟨(con_bool h8 (l23Caret_ok s ok)), rfl, trivial⟩, trivial⟩ ?_
       refine ae_then ?_
       refine aw_false rfl ?_
       refine aw_skip ?_
       refine ae_then ?_
       refine aw_seq ?_
       refine aw_seq ?_
       by_cases h9 : 900 ≤ (strI s)
       ·refine aw_reg [(1, .call [(true, .ptr false [slPoint false s.Points])] true (I (strI s))), (2, .dec true)] [65] [] [Bv true] [] [Con Tryd.prog 105 [.ptr false [slPoint false s.Points]] true (I (strI s)) ∧ ((.ptr false [slPoint false s.Points] : AV) = .ptr false [slPoint false s.Points]) ∧ True, 900 ≤ (strI s)] (by kernel_rfl) hB ⟨⟨(l05Straight_ok s ok), rfl, trivial⟩, h9, trivial⟩ ?_
        refine ae_then ?_
        refine aw_true rfl ?_
        refine aw_seq ?_
        refine aw_reg [] [2] [] [I 5] [] [] (by kernel_rfl) hB trivial ?_
        refine ae_then ?_
        refine aw_ret ?_
        refine ae_ret_then ?_
        refine ae_ret hB (I 5) (by kernel_rfl) (.inl (by refine congrArg I ?_; unfold gestI endsI; simp_all [hle]; try omega)) rfl (fun _ => trivial)
       ·refine aw_reg [(1, .call [(true, .ptr false [slPoint false s.Points])] true (I (strI s))), (2, .dec false)] [65] [] [Bv false] [] [Con Tryd.prog 105 [.ptr false [slPoint false s.Points]] true (I (strI s)) ∧ ((.ptr false [slPoint false s.Points] : AV) = .ptr false [slPoint false s.Points]) ∧ True, ¬ (900 ≤ (strI s))] (by kernel_rfl) hB ⟨⟨(l05Straight_ok s ok), rfl, trivial⟩, h9, trivial⟩ ?_
        refine ae_then ?_
        refine aw_false rfl ?_
        refine aw_skip ?_
        refine ae_then ?_
        refine aw_seq ?_
        refine aw_reg [] [2] [] [I 0] [] [] (by kernel_rfl) hB trivial ?_
        refine ae_then ?_
        refine aw_ret ?_
        refine ae_ret hB (I 0) (by kernel_rfl) (.inl (by refine congrArg I ?_; unfold gestI endsI; simp_all [hle]; try omega)) rfl (fun _ => trivial)


-- spec.l23Tip
theorem l23Tip_ok (s : Stroke) (ok : okStroke' s = true) : Con Tryd.prog 71 [.ptr false [slPoint false s.Points]] true (I (tipS s.Points s.Points.length : Int)) := by
  have hln := okS_len ok
  refine fn_ok (fn := Tryd.f71) (nt := 33) Tryd.func71 rfl rfl rfl rfl (by simp [taggedL, tagged, tagPoint]) fun B hB => ?_
  refine aw_lens (x := .ptr false [slPoint false s.Points]) 0 rfl (fun len_s => ?_)
  simp [LenOK, LenL, cPoint, fPoint, slPoint] at len_s
  refine aw_seq ?_
  refine aw_reg [] [0] [] [.ptr false [slPoint false s.Points]] [] [] (by kernel_rfl) hB trivial ?_
  refine ae_then ?_
  refine aw_seq ?_
  refine aw_reg [] [0, 3] [] [.ptr false [slPoint false s.Points], I 0] [] [] (by kernel_rfl) hB trivial ?_
  refine ae_then ?_
  refine aw_seq ?_
  refine aw_seq ?_
  refine aw_reg [] [0, 3, 4] [] [.ptr false [slPoint false s.Points], I 0, I 1] [] [] (by kernel_rfl) hB trivial ?_
  refine ae_then ?_
  refine aw_block ?_
  refine aw_loop (fun gn gσ => ∃ (best : Int) (i : Int), gn = ((s.Points.length : Int) - i).toNat ∧ (1 ≤ i ∧ i ≤ (s.Points.length : Int)) ∧ (best = (tipS s.Points i.toNat : Int)) ∧ (0 ≤ best ∧ best < (s.Points.length : Int)) ∧ gσ = mkS [(0, .ptr false [slPoint false s.Points]), (3, I best), (4, I i)] []) (((s.Points.length : Int) - 1).toNat) ⟨0, 1, rfl, (by omega), (by rw [show (1 : Int).toNat = 1 from rfl, tip_one]; rfl), (by omega), rfl⟩ (fun gn gσ hI => ?_)
  obtain ⟨best, i, rfl, hi0, ht1, ht2, rfl⟩ := hI
  refine aw_seq ?_
  refine aw_seq ?_
  by_cases h1 : i < (s.Points.length : Int)
  ·have hi : i.toNat < s.Points.length := by omega
   have hi2 : best.toNat < s.Points.length := by omega
   refine aw_reg [(6, .dec true)] [0, 3, 4, 11] [] [.ptr false [slPoint false s.Points], I best, I i, Bv true] [] [i < (s.Points.length : Int)] (by kernel_rfl) hB ⟨h1, trivial⟩ ?_
   refine ae_then ?_
   refine aw_true rfl ?_
   refine aw_skip ?_
   refine ae_then ?_
   refine aw_seq ?_
   refine aw_block ?_
   refine aw_seq ?_
   by_cases h2 : ((at_ s.Points i.toNat).Y) < ((at_ s.Points best.toNat).Y)
   ·refine aw_reg [(16, .dec true)] [0, 3, 4, 30] [] [.ptr false [slPoint false s.Points], I best, I i, Bv true] [] [(0 : Int) ≤ i ∧ i < (s.Points.length : Int), (0 : Int) ≤ best ∧ best < (s.Points.length : Int), ((at_ s.Points i.toNat).Y) < ((at_ s.Points best.toNat).Y)] (by kernel_rfl) hB ⟨⟨(by omega), (by omega)⟩, ⟨(by omega), (by omega)⟩, h2, trivial⟩ ?_
    refine ae_then ?_
    refine aw_true rfl ?_
    refine aw_reg [] [0, 3, 4] [] [.ptr false [slPoint false s.Points], I i, I i] [] [] (by kernel_rfl) hB trivial ?_
    refine ae_block 1 ?_
    refine ae_then ?_
    refine aw_reg [] [0, 3, 4] [] [.ptr false [slPoint false s.Points], I i, I (i + 1)] [] [inR .i64 (i + 1)] (by kernel_rfl) hB ⟨(inR_i64 (by omega) (by omega)), trivial⟩ ?_
    exact ae_again _ (by omega) ⟨i, (i + 1), rfl, (by omega), (by rw [tip_1 (by omega) ht1]; first | (rw [if_pos (by assumption)]; done) | (rw [if_neg (by assumption)]; done)), (by omega), rfl⟩
   ·refine aw_reg [(16, .dec false)] [0, 3, 4, 30] [] [.ptr false [slPoint false s.Points], I best, I i, Bv false] [] [(0 : Int) ≤ i ∧ i < (s.Points.length : Int), (0 : Int) ≤ best ∧ best < (s.Points.length : Int), ¬ (((at_ s.Points i.toNat).Y) < ((at_ s.Points best.toNat).Y))] (by kernel_rfl) hB ⟨⟨(by omega), (by omega)⟩, ⟨(by omega), (by omega)⟩, h2, trivial⟩ ?_
    refine ae_then ?_
    refine aw_false rfl ?_
    refine aw_skip ?_
    refine ae_block 1 ?_
    refine ae_then ?_
    refine aw_reg [] [0, 3, 4] [] [.ptr false [slPoint false s.Points], I best, I (i + 1)] [] [inR .i64 (i + 1)] (by kernel_rfl) hB ⟨(inR_i64 (by omega) (by omega)), trivial⟩ ?_
    exact ae_again _ (by omega) ⟨best, (i + 1), rfl, (by omega), (by rw [tip_1 (by omega) ht1]; first | (rw [if_pos (by assumption)]; done) | (rw [if_neg (by assumption)]; done)), (by omega), rfl⟩
  ·have hie : i.toNat = s.Points.length := by omega
   rw [hie] at ht1
   refine aw_reg [(6, .dec false)] [0, 3, 4, 11] [] [.ptr false [slPoint false s.Points], I best, I i, Bv false] [] [¬ (i < (s.Points.length : Int))] (by kernel_rfl) hB ⟨h1, trivial⟩ ?_
   refine ae_then ?_
   refine aw_false rfl ?_
   refine aw_exit ?_
   refine ae_exit_then ?_
   refine ae_exit_then ?_
   refine ae_exit_same ?_
   refine ae_then ?_
   refine aw_seq ?_
   refine aw_reg [] [2] [] [I best] [] [] (by kernel_rfl) hB trivial ?_
   refine ae_then ?_
   refine aw_ret ?_
   refine ae_ret hB (I best) (by kernel_rfl) (.inl (by rw [ht1])) rfl (fun _ => trivial)


-- spec.l23Place
theorem l23Place_ok (l : CellRow) (x : Int) (hr0 : okRow l = true) (hx : 0 ≤ x ∧ x ≤ 4095) : Con Tryd.prog 70 [.ptr false [Sv l.Text, I l.X, I l.Y, I l.Cell], I x] true (I (placeS l x l.Text.size)) := by
  have hr := okRow_iff.1 hr0
  refine fn_ok (fn := Tryd.f70) (nt := 47) Tryd.func70 rfl rfl rfl rfl (by simp [taggedL, tagged]) fun B hB => ?_
  refine aw_seq ?_
  refine aw_reg [] [0, 1] [] [.ptr false [Sv l.Text, I l.X, I l.Y, I l.Cell], I x] [] [] (by kernel_rfl) hB trivial ?_
  refine ae_then ?_
  refine aw_seq ?_
  refine aw_reg [] [0, 1, 5] [] [.ptr false [Sv l.Text, I l.X, I l.Y, I l.Cell], I x, I 0] [] [] (by kernel_rfl) hB trivial ?_
  refine ae_then ?_
  refine aw_seq ?_
  refine aw_seq ?_
  refine aw_reg [] [0, 1, 5, 6] [] [.ptr false [Sv l.Text, I l.X, I l.Y, I l.Cell], I x, I 0, I 1] [] [] (by kernel_rfl) hB trivial ?_
  refine ae_then ?_
  refine aw_block ?_
  refine aw_loop (fun gn gσ => ∃ (best : Int) (k : Int), gn = ((l.Text.size : Int) + 1 - k).toNat ∧ (1 ≤ k ∧ k ≤ (l.Text.size : Int) + 1) ∧ (best = placeS l x (k - 1).toNat) ∧ (0 ≤ best ∧ best ≤ k - 1) ∧ gσ = mkS [(0, .ptr false [Sv l.Text, I l.X, I l.Y, I l.Cell]), (1, I x), (5, I best), (6, I k)] []) (((l.Text.size : Int) + 1 - 1).toNat) ⟨0, 1, rfl, (by omega), (by rfl), (by omega), rfl⟩ (fun gn gσ hI => ?_)
  obtain ⟨best, k, rfl, hq0, hp1, hp2, rfl⟩ := hI
  refine aw_seq ?_
  refine aw_seq ?_
  by_cases h1 : k ≤ (l.Text.size : Int)
  ·have hkb := mul60 (a := k) (c := l.Cell) (by omega) (by omega)
   have hbb := mul60 (a := best) (c := l.Cell) (by omega) (by omega)
   refine aw_reg [(6, .dec true)] [0, 1, 5, 6, 13] [] [.ptr false [Sv l.Text, I l.X, I l.Y, I l.Cell], I x, I best, I k, Bv true] [] [k ≤ (l.Text.size : Int)] (by kernel_rfl) hB ⟨h1, trivial⟩ ?_
   refine ae_then ?_
   refine aw_true rfl ?_
   refine aw_skip ?_
   refine ae_then ?_
   refine aw_seq ?_
   refine aw_block ?_
   refine aw_seq ?_
   by_cases h2 : (((x - l.X) - (k * l.Cell)).natAbs : Int) < (((x - l.X) - (best * l.Cell)).natAbs : Int)
   ·refine aw_reg [(13, .call [(true, I ((x - l.X) - (k * l.Cell)))] true (I (((x - l.X) - (k * l.Cell)).natAbs : Int))), (27, .call [(true, I ((x - l.X) - (best * l.Cell)))] true (I (((x - l.X) - (best * l.Cell)).natAbs : Int))), (28, .dec true)] [0, 1, 5, 6, 44] [] [.ptr false [Sv l.Text, I l.X, I l.Y, I l.Cell], I x, I best, I k, Bv true] [] [inR .i64 (x - l.X), inR .i64 (k * l.Cell), inR .i64 ((x - l.X) - (k * l.Cell)), Con Tryd.prog 102 [I ((x - l.X) - (k * l.Cell))] true (I (((x - l.X) - (k * l.Cell)).natAbs : Int)) ∧ ((I ((x - l.X) - (k * l.Cell)) : AV) = I ((x - l.X) - (k * l.Cell))) ∧ True, inR .i64 (x - l.X), inR .i64 (best * l.Cell), inR .i64 ((x - l.X) - (best * l.Cell)), Con Tryd.prog 102 [I ((x - l.X) - (best * l.Cell))] true (I (((x - l.X) - (best * l.Cell)).natAbs : Int)) ∧ ((I ((x - l.X) - (best * l.Cell)) : AV) = I ((x - l.X) - (best * l.Cell))) ∧ True, (((x - l.X) - (k * l.Cell)).natAbs : Int) < (((x - l.X) - (best * l.Cell)).natAbs : Int)] (by kernel_rfl) hB ⟨(inR_i64 (by omega) (by omega)), (inR_i64 (by omega) (by omega)), (inR_i64 (by omega) (by omega)), ⟨(l05Size_ok ((x - l.X) - (k * l.Cell)) (by omega)), rfl, trivial⟩, (inR_i64 (by omega) (by omega)), (inR_i64 (by omega) (by omega)), (inR_i64 (by omega) (by omega)), ⟨(l05Size_ok ((x - l.X) - (best * l.Cell)) (by omega)), rfl, trivial⟩, h2, trivial⟩ ?_
    refine ae_then ?_
    refine aw_true rfl ?_
    refine aw_reg [] [0, 1, 5, 6] [] [.ptr false [Sv l.Text, I l.X, I l.Y, I l.Cell], I x, I k, I k] [] [] (by kernel_rfl) hB trivial ?_
    refine ae_block 1 ?_
    refine ae_then ?_
    refine aw_reg [] [0, 1, 5, 6] [] [.ptr false [Sv l.Text, I l.X, I l.Y, I l.Cell], I x, I k, I (k + 1)] [] [inR .i64 (k + 1)] (by kernel_rfl) hB ⟨(inR_i64 (by omega) (by omega)), trivial⟩ ?_
    exact ae_again _ (by omega) ⟨k, (k + 1), rfl, (by omega), (by rw [placeS_succ hq0.1, ← hp1]; first | rfl | (rw [if_pos (by omega)]; done) | (rw [if_neg (by omega)]; done)), (by omega), rfl⟩
   ·refine aw_reg [(13, .call [(true, I ((x - l.X) - (k * l.Cell)))] true (I (((x - l.X) - (k * l.Cell)).natAbs : Int))), (27, .call [(true, I ((x - l.X) - (best * l.Cell)))] true (I (((x - l.X) - (best * l.Cell)).natAbs : Int))), (28, .dec false)] [0, 1, 5, 6, 44] [] [.ptr false [Sv l.Text, I l.X, I l.Y, I l.Cell], I x, I best, I k, Bv false] [] [inR .i64 (x - l.X), inR .i64 (k * l.Cell), inR .i64 ((x - l.X) - (k * l.Cell)), Con Tryd.prog 102 [I ((x - l.X) - (k * l.Cell))] true (I (((x - l.X) - (k * l.Cell)).natAbs : Int)) ∧ ((I ((x - l.X) - (k * l.Cell)) : AV) = I ((x - l.X) - (k * l.Cell))) ∧ True, inR .i64 (x - l.X), inR .i64 (best * l.Cell), inR .i64 ((x - l.X) - (best * l.Cell)), Con Tryd.prog 102 [I ((x - l.X) - (best * l.Cell))] true (I (((x - l.X) - (best * l.Cell)).natAbs : Int)) ∧ ((I ((x - l.X) - (best * l.Cell)) : AV) = I ((x - l.X) - (best * l.Cell))) ∧ True, ¬ ((((x - l.X) - (k * l.Cell)).natAbs : Int) < (((x - l.X) - (best * l.Cell)).natAbs : Int))] (by kernel_rfl) hB ⟨(inR_i64 (by omega) (by omega)), (inR_i64 (by omega) (by omega)), (inR_i64 (by omega) (by omega)), ⟨(l05Size_ok ((x - l.X) - (k * l.Cell)) (by omega)), rfl, trivial⟩, (inR_i64 (by omega) (by omega)), (inR_i64 (by omega) (by omega)), (inR_i64 (by omega) (by omega)), ⟨(l05Size_ok ((x - l.X) - (best * l.Cell)) (by omega)), rfl, trivial⟩, h2, trivial⟩ ?_
    refine ae_then ?_
    refine aw_false rfl ?_
    refine aw_skip ?_
    refine ae_block 1 ?_
    refine ae_then ?_
    refine aw_reg [] [0, 1, 5, 6] [] [.ptr false [Sv l.Text, I l.X, I l.Y, I l.Cell], I x, I best, I (k + 1)] [] [inR .i64 (k + 1)] (by kernel_rfl) hB ⟨(inR_i64 (by omega) (by omega)), trivial⟩ ?_
    exact ae_again _ (by omega) ⟨best, (k + 1), rfl, (by omega), (by rw [placeS_succ hq0.1, ← hp1]; first | rfl | (rw [if_pos (by omega)]; done) | (rw [if_neg (by omega)]; done)), (by omega), rfl⟩
  ·have hie : (k - 1).toNat = l.Text.size := by omega
   rw [hie] at hp1
   refine aw_reg [(6, .dec false)] [0, 1, 5, 6, 13] [] [.ptr false [Sv l.Text, I l.X, I l.Y, I l.Cell], I x, I best, I k, Bv false] [] [¬ (k ≤ (l.Text.size : Int))] (by kernel_rfl) hB ⟨h1, trivial⟩ ?_
   refine ae_then ?_
   refine aw_false rfl ?_
   refine aw_exit ?_
   refine ae_exit_then ?_
   refine ae_exit_then ?_
   refine ae_exit_same ?_
   refine ae_then ?_
   refine aw_seq ?_
   refine aw_reg [] [4] [] [I best] [] [] (by kernel_rfl) hB trivial ?_
   refine ae_then ?_
   refine aw_ret ?_
   refine ae_ret hB (I best) (by kernel_rfl) (.inl (by rw [hp1])) rfl (fun _ => trivial)


-- spec.l23Span
theorem l23Span_ok (l : CellRow) (b : Box) (hr0 : okRow l = true) (hb : (0 ≤ b.X1 ∧ b.X1 ≤ 4095) ∧ 0 ≤ b.X2 ∧ b.X2 ≤ 4095) : Con Tryd.prog 72 [.ptr false [Sv l.Text, I l.X, I l.Y, I l.Cell], agBox b] true (.tup [I ((spanS l b l.Text.size).1), I ((spanS l b l.Text.size).2)]) := by
  have hr := okRow_iff.1 hr0
  refine fn_ok (fn := Tryd.f72) (nt := 49) Tryd.func72 rfl rfl rfl rfl (by simp [taggedL, tagged]) fun B hB => ?_
  refine aw_seq ?_
  refine aw_reg [(0, .new 3)] [0, 3] [3] [.ptr false [Sv l.Text, I l.X, I l.Y, I l.Cell], .ref 3 0] [some (bxBox b)] [] (by kernel_rfl) hB trivial ?_
  refine ae_then ?_
  refine aw_seq ?_
  refine aw_reg [] [0, 3, 6] [3] [.ptr false [Sv l.Text, I l.X, I l.Y, I l.Cell], .ref 3 0, I 0] [some (bxBox b)] [] (by kernel_rfl) hB trivial ?_
  refine ae_then ?_
  refine aw_seq ?_
  refine aw_reg [] [0, 3, 6, 7] [3] [.ptr false [Sv l.Text, I l.X, I l.Y, I l.Cell], .ref 3 0, I 0, I 0] [some (bxBox b)] [] (by kernel_rfl) hB trivial ?_
  refine ae_then ?_
  refine aw_seq ?_
  refine aw_seq ?_
  refine aw_reg [] [0, 3, 6, 7, 8] [3] [.ptr false [Sv l.Text, I l.X, I l.Y, I l.Cell], .ref 3 0, I 0, I 0, I 0] [some (bxBox b)] [] (by kernel_rfl) hB trivial ?_
  refine ae_then ?_
  refine aw_block ?_
  refine aw_loop (fun gn gσ => ∃ (fr_ : Int) (to_ : Int) (k : Int), gn = ((l.Text.size : Int) - k).toNat ∧ (0 ≤ k ∧ k ≤ (l.Text.size : Int)) ∧ (fr_ = (spanS l b k.toNat).1) ∧ (to_ = (spanS l b k.toNat).2) ∧ (0 ≤ to_ ∧ to_ ≤ k) ∧ gσ = mkS [(0, .ptr false [Sv l.Text, I l.X, I l.Y, I l.Cell]), (3, .ref 3 0), (6, I fr_), (7, I to_), (8, I k)] [(3, bxBox b)]) (((l.Text.size : Int) - 0).toNat) ⟨0, 0, 0, rfl, (by omega), (by rfl), (by rfl), (by omega), rfl⟩ (fun gn gσ hI => ?_)
  obtain ⟨fr_, to_, k, rfl, hi0, hs1, hs2, hs3, rfl⟩ := hI
  refine aw_seq ?_
  refine aw_seq ?_
  by_cases h1 : k < (l.Text.size : Int)
  ·have hkb := mul60 (a := k) (c := l.Cell) (by omega) (by omega)
   have hme := mid_eq k l.Cell
   have he : (2 * (l.X + k * l.Cell)) + l.Cell = 2 * l.X + (2 * k + 1) * l.Cell := by omega
   refine aw_reg [(6, .dec true)] [0, 3, 6, 7, 8, 16] [3] [.ptr false [Sv l.Text, I l.X, I l.Y, I l.Cell], .ref 3 0, I fr_, I to_, I k, Bv true] [some (bxBox b)] [k < (l.Text.size : Int)] (by kernel_rfl) hB ⟨h1, trivial⟩ ?_
   refine ae_then ?_
   refine aw_true rfl ?_
   refine aw_skip ?_
   refine ae_then ?_
   refine aw_seq ?_
   refine aw_block ?_
   refine aw_seq ?_
   refine aw_reg [] [0, 3, 6, 7, 8, 9] [3] [.ptr false [Sv l.Text, I l.X, I l.Y, I l.Cell], .ref 3 0, I fr_, I to_, I k, I ((2 * l.X) + (((2 * k) + 1) * l.Cell))] [some (bxBox b)] [inR .i64 (2 * l.X), inR .i64 (2 * k), inR .i64 ((2 * k) + 1), inR .i64 (((2 * k) + 1) * l.Cell), inR .i64 ((2 * l.X) + (((2 * k) + 1) * l.Cell))] (by kernel_rfl) hB ⟨(inR_i64 (by omega) (by omega)), (inR_i64 (by omega) (by omega)), (inR_i64 (by omega) (by omega)), (inR_i64 (by omega) (by omega)), (inR_i64 (by omega) (by omega)), trivial⟩ ?_
   refine ae_then ?_
   refine aw_seq ?_
   refine aw_seq ?_
   rcases Bool.eq_false_or_eq_true (inB ((2 * l.X) + (((2 * k) + 1) * l.Cell)) (2 * b.X1) (2 * b.X2)) with h2 | h2
   ·refine aw_reg [(7, .call [(true, I ((2 * l.X) + (((2 * k) + 1) * l.Cell))), (true, I (2 * b.X1)), (true, I (2 * b.X2))] true (Bv true))] [0, 3, 6, 7, 8, 41] [3] [.ptr false [Sv l.Text, I l.X, I l.Y, I l.Cell], .ref 3 0, I fr_, I to_, I k, Bv false] [some (bxBox b)] [inR .i64 (2 * b.X1), inR .i64 (2 * b.X2), Con Tryd.prog 48 [I ((2 * l.X) + (((2 * k) + 1) * l.Cell)), I (2 * b.X1), I (2 * b.X2)] true (Bv true) ∧ ((I ((2 * l.X) + (((2 * k) + 1) * l.Cell)) : AV) = I ((2 * l.X) + (((2 * k) + 1) * l.Cell))) ∧ ((I (2 * b.X1) : AV) = I (2 * b.X1)) ∧ ((I (2 * b.X2) : AV) = I (2 * b.X2)) ∧ True] (by kernel_rfl) hB ⟨(inR_i64 (by omega) (by omega)), (inR_i64 (by omega) (by omega)), ⟨(con_bool h2 (l00In_ok ((2 * l.X) + (((2 * k) + 1) * l.Cell)) (2 * b.X1) (2 * b.X2))), rfl, rfl, rfl, trivial⟩, trivial⟩ ?_
    refine ae_then ?_
    refine aw_false rfl ?_
    refine aw_skip ?_
    refine ae_then ?_
    refine aw_seq ?_
    refine aw_seq ?_
    by_cases h3 : to_ = 0
    ·refine aw_reg [(1, .dec true)] [0, 3, 6, 8, 43] [3] [.ptr false [Sv l.Text, I l.X, I l.Y, I l.Cell], .ref 3 0, I fr_, I k, Bv true] [some (bxBox b)] [to_ = 0] (by kernel_rfl) hB ⟨h3, trivial⟩ ?_
     refine ae_then ?_
     refine aw_true rfl ?_
     refine aw_reg [] [0, 3, 6, 8] [3] [.ptr false [Sv l.Text, I l.X, I l.Y, I l.Cell], .ref 3 0, I k, I k] [some (bxBox b)] [] (by kernel_rfl) hB trivial ?_
     refine ae_then ?_
     refine aw_reg [] [0, 3, 6, 7, 8] [3] [.ptr false [Sv l.Text, I l.X, I l.Y, I l.Cell], .ref 3 0, I k, I (k + 1), I k] [some (bxBox b)] [inR .i64 (k + 1)] (by kernel_rfl) hB ⟨(inR_i64 (by omega) (by omega)), trivial⟩ ?_
     refine ae_block 1 ?_
     refine ae_then ?_
     refine aw_reg [] [0, 3, 6, 7, 8] [3] [.ptr false [Sv l.Text, I l.X, I l.Y, I l.Cell], .ref 3 0, I k, I (k + 1), I (k + 1)] [some (bxBox b)] [inR .i64 (k + 1)] (by kernel_rfl) hB ⟨(inR_i64 (by omega) (by omega)), trivial⟩ ?_
     exact ae_again _ (by omega) ⟨k, (k + 1), (k + 1), rfl, (by omega), (by first | (rw [spanS_yes hi0.1 (by assumption), ← hs1, ← hs2]; first | (simp only [if_pos (by assumption : to_ = 0)]; done) | (simp only [if_neg (by assumption : ¬ to_ = 0)]; done)) | (rw [spanS_no hi0.1 (by assumption), ← hs1])), (by first | (rw [spanS_yes hi0.1 (by assumption)]; done) | (rw [spanS_no hi0.1 (by assumption), ← hs2])), (by omega), rfl⟩
    ·refine aw_reg [(1, .dec false)] [0, 3, 6, 8, 43] [3] [.ptr false [Sv l.Text, I l.X, I l.Y, I l.Cell], .ref 3 0, I fr_, I k, Bv false] [some (bxBox b)] [¬ (to_ = 0)] (by kernel_rfl) hB ⟨h3, trivial⟩ ?_
     refine ae_then ?_
     refine aw_false rfl ?_
     refine aw_skip ?_
     refine ae_then ?_
     refine aw_reg [] [0, 3, 6, 7, 8] [3] [.ptr false [Sv l.Text, I l.X, I l.Y, I l.Cell], .ref 3 0, I fr_, I (k + 1), I k] [some (bxBox b)] [inR .i64 (k + 1)] (by kernel_rfl) hB ⟨(inR_i64 (by omega) (by omega)), trivial⟩ ?_
     refine ae_block 1 ?_
     refine ae_then ?_
     refine aw_reg [] [0, 3, 6, 7, 8] [3] [.ptr false [Sv l.Text, I l.X, I l.Y, I l.Cell], .ref 3 0, I fr_, I (k + 1), I (k + 1)] [some (bxBox b)] [inR .i64 (k + 1)] (by kernel_rfl) hB ⟨(inR_i64 (by omega) (by omega)), trivial⟩ ?_
     exact ae_again _ (by omega) ⟨fr_, (k + 1), (k + 1), rfl, (by omega), (by first | (rw [spanS_yes hi0.1 (by assumption), ← hs1, ← hs2]; first | (simp only [if_pos (by assumption : to_ = 0)]; done) | (simp only [if_neg (by assumption : ¬ to_ = 0)]; done)) | (rw [spanS_no hi0.1 (by assumption), ← hs1])), (by first | (rw [spanS_yes hi0.1 (by assumption)]; done) | (rw [spanS_no hi0.1 (by assumption), ← hs2])), (by omega), rfl⟩
   ·refine aw_reg [(7, .call [(true, I ((2 * l.X) + (((2 * k) + 1) * l.Cell))), (true, I (2 * b.X1)), (true, I (2 * b.X2))] true (Bv false))] [0, 3, 6, 7, 8, 41] [3] [.ptr false [Sv l.Text, I l.X, I l.Y, I l.Cell], .ref 3 0, I fr_, I to_, I k, Bv true] [some (bxBox b)] [inR .i64 (2 * b.X1), inR .i64 (2 * b.X2), Con Tryd.prog 48 [I ((2 * l.X) + (((2 * k) + 1) * l.Cell)), I (2 * b.X1), I (2 * b.X2)] true (Bv false) ∧ ((I ((2 * l.X) + (((2 * k) + 1) * l.Cell)) : AV) = I ((2 * l.X) + (((2 * k) + 1) * l.Cell))) ∧ ((I (2 * b.X1) : AV) = I (2 * b.X1)) ∧ ((I (2 * b.X2) : AV) = I (2 * b.X2)) ∧ True] (by kernel_rfl) hB ⟨(inR_i64 (by omega) (by omega)), (inR_i64 (by omega) (by omega)), ⟨(con_bool h2 (l00In_ok ((2 * l.X) + (((2 * k) + 1) * l.Cell)) (2 * b.X1) (2 * b.X2))), rfl, rfl, rfl, trivial⟩, trivial⟩ ?_
    refine ae_then ?_
    refine aw_true rfl ?_
    refine aw_exit ?_
    refine ae_exit_then ?_
    refine ae_exit_same ?_
    refine ae_then ?_
    refine aw_reg [] [0, 3, 6, 7, 8] [3] [.ptr false [Sv l.Text, I l.X, I l.Y, I l.Cell], .ref 3 0, I fr_, I to_, I (k + 1)] [some (bxBox b)] [inR .i64 (k + 1)] (by kernel_rfl) hB ⟨(inR_i64 (by omega) (by omega)), trivial⟩ ?_
    exact ae_again _ (by omega) ⟨fr_, to_, (k + 1), rfl, (by omega), (by first | (rw [spanS_yes hi0.1 (by assumption), ← hs1, ← hs2]; first | (simp only [if_pos (by assumption : to_ = 0)]; done) | (simp only [if_neg (by assumption : ¬ to_ = 0)]; done)) | (rw [spanS_no hi0.1 (by assumption), ← hs1])), (by first | (rw [spanS_yes hi0.1 (by assumption)]; done) | (rw [spanS_no hi0.1 (by assumption), ← hs2])), (by omega), rfl⟩
  ·have hie : k.toNat = l.Text.size := by omega
   rw [hie] at hs1 hs2
   refine aw_reg [(6, .dec false)] [0, 3, 6, 7, 8, 16] [3] [.ptr false [Sv l.Text, I l.X, I l.Y, I l.Cell], .ref 3 0, I fr_, I to_, I k, Bv false] [some (bxBox b)] [¬ (k < (l.Text.size : Int))] (by kernel_rfl) hB ⟨h1, trivial⟩ ?_
   refine ae_then ?_
   refine aw_false rfl ?_
   refine aw_exit ?_
   refine ae_exit_then ?_
   refine ae_exit_then ?_
   refine ae_exit_same ?_
   refine ae_then ?_
   refine aw_seq ?_
   refine aw_reg [] [4, 5] [] [I fr_, I to_] [] [] (by kernel_rfl) hB trivial ?_
   refine ae_then ?_
   refine aw_ret ?_
   refine ae_ret hB (.tup [I fr_, I to_]) (by kernel_rfl) (.inl (by rw [hs1, hs2])) rfl (fun _ => (by simp [tagged, taggedL]))


-- spec.l23Edit
theorem l23Edit_ok (l : CellRow) (s : Stroke) (hr0 : okRow l = true) (ok : okStroke' s = true) : Con Tryd.prog 43 [.ptr false [Sv l.Text, I l.X, I l.Y, I l.Cell], .ptr false [slPoint false s.Points]] true (.tup [agEdit ((editR l s).1), I ((editR l s).2)]) := by
  have hr := okRow_iff.1 hr0
  have hln := okS_len ok
  have hbx := boxS_all ok
  unfold okBox at hbx
  have hpd := okP_iff.1 (okS_at ok (j := tipS s.Points s.Points.length) (tip_lt (by omega)))
  have htl := tip_lt (xs := s.Points) (by omega)
  have htn : ((tipS s.Points s.Points.length : Nat) : Int).toNat = tipS s.Points s.Points.length := Int.toNat_natCast _
  have hpd2 := hpd
  rw [← htn] at hpd2
  have hsp := spanS_bd l (boxS s.Points s.Points.length) l.Text.size
  refine fn_ok (fn := Tryd.f43) (nt := 76) Tryd.func43 rfl rfl rfl rfl (by simp [taggedL, tagged, tagPoint]) fun B hB => ?_
  refine aw_lens (x := .ptr false [slPoint false s.Points]) 1 rfl (fun len_s => ?_)
  simp [LenOK, LenL, cPoint, fPoint, slPoint] at len_s
  refine aw_seq ?_
  refine aw_reg [(0, .new 4)] [0, 1, 4] [4] [.ptr false [Sv l.Text, I l.X, I l.Y, I l.Cell], .ptr false [slPoint false s.Points], .ref 4 0] [some (.box [I 0, I 0, I 0])] [] (by kernel_rfl) hB trivial ?_
  refine ae_then ?_
  refine aw_seq ?_
  refine aw_reg [] [0, 1, 4] [4] [.ptr false [Sv l.Text, I l.X, I l.Y, I l.Cell], .ptr false [slPoint false s.Points], .ref 4 0] [some (.box [I 0, I 0, I 0])] [] (by kernel_rfl) hB trivial ?_
  refine ae_then ?_
  refine aw_seq ?_
  refine aw_seq ?_
  refine aw_reg [(1, .call [(true, .ptr false [slPoint false s.Points])] true (I (gestI s)))] [0, 1, 4, 12] [4] [.ptr false [Sv l.Text, I l.X, I l.Y, I l.Cell], .ptr false [slPoint false s.Points], .ref 4 0, I (gestI s)] [some (.box [I 0, I 0, I 0])] [Con Tryd.prog 68 [.ptr false [slPoint false s.Points]] true (I (gestI s)) ∧ ((.ptr false [slPoint false s.Points] : AV) = .ptr false [slPoint false s.Points]) ∧ True] (by kernel_rfl) hB ⟨⟨(l23Gesture_ok s ok), rfl, trivial⟩, trivial⟩ ?_
  refine ae_then ?_
  refine aw_block ?_
  refine aw_seq ?_
  by_cases h1 : (gestI s) = 2
  ·refine aw_reg [(0, .dec true)] [0, 1, 4, 12, 14] [4] [.ptr false [Sv l.Text, I l.X, I l.Y, I l.Cell], .ptr false [slPoint false s.Points], .ref 4 0, I (gestI s), Bv true] [some (.box [I 0, I 0, I 0])] [(gestI s) = 2] (by kernel_rfl) hB ⟨h1, trivial⟩ ?_
   refine ae_then ?_
   refine aw_true rfl ?_
   refine aw_reg [] [0, 1, 4, 6] [4] [.ptr false [Sv l.Text, I l.X, I l.Y, I l.Cell], .ptr false [slPoint false s.Points], .ref 4 0, I 1] [some (.box [I 0, I 0, I 0])] [] (by kernel_rfl) hB trivial ?_
   refine ae_block 0 ?_
   refine ae_then ?_
   refine aw_seq ?_
   refine aw_reg [(1, .call [(true, .ptr false [slPoint false s.Points])] true (agBox (boxS s.Points s.Points.length))), (2, .new 7)] [0, 1, 4, 6, 7] [4, 7] [.ptr false [Sv l.Text, I l.X, I l.Y, I l.Cell], .ptr false [slPoint false s.Points], .ref 4 0, I 1, .ref 7 0] [some (.box [I 0, I 0, I 0]), some (bxBox (boxS s.Points s.Points.length))] [Con Tryd.prog 69 [.ptr false [slPoint false s.Points]] true (agBox (boxS s.Points s.Points.length)) ∧ ((.ptr false [slPoint false s.Points] : AV) = .ptr false [slPoint false s.Points]) ∧ True] (by kernel_rfl) hB ⟨⟨(l02BoxOf_ok s ok), rfl, trivial⟩, trivial⟩ ?_
   refine ae_then ?_
   refine aw_seq ?_
   refine aw_seq ?_
   by_cases h2 : ((boxS s.Points s.Points.length).Y2) < l.Y
   ·refine aw_reg [(6, .dec true)] [0, 1, 4, 6, 7, 43] [4, 7] [.ptr false [Sv l.Text, I l.X, I l.Y, I l.Cell], .ptr false [slPoint false s.Points], .ref 4 0, I 1, .ref 7 0, Bv true] [some (.box [I 0, I 0, I 0]), some (bxBox (boxS s.Points s.Points.length))] [((boxS s.Points s.Points.length).Y2) < l.Y] (by kernel_rfl) hB ⟨h2, trivial⟩ ?_
    refine ae_then ?_
    refine aw_true rfl ?_
    refine aw_seq ?_
    refine aw_reg [] [4, 5] [4] [.ref 4 0, I 3] [some (.box [I 0, I 0, I 0])] [] (by kernel_rfl) hB trivial ?_
    refine ae_then ?_
    refine aw_ret ?_
    refine ae_ret_then ?_
    refine ae_ret hB (.tup [.agg [I 0, I 0, I 0], I 3]) (by kernel_rfl) (.inl (by simp [editR, kindI, *])) rfl (fun _ => (by simp [tagged, taggedL]))
   ·by_cases h3 : (l.Y + (2 * l.Cell)) < ((boxS s.Points s.Points.length).Y1)
    ·refine aw_reg [(6, .dec false), (20, .dec true)] [0, 1, 4, 6, 7, 43] [4, 7] [.ptr false [Sv l.Text, I l.X, I l.Y, I l.Cell], .ptr false [slPoint false s.Points], .ref 4 0, I 1, .ref 7 0, Bv true] [some (.box [I 0, I 0, I 0]), some (bxBox (boxS s.Points s.Points.length))] [¬ (((boxS s.Points s.Points.length).Y2) < l.Y), inR .i64 (2 * l.Cell), inR .i64 (l.Y + (2 * l.Cell)), (l.Y + (2 * l.Cell)) < ((boxS s.Points s.Points.length).Y1)] (by kernel_rfl) hB ⟨h2, (inR_i64 (by omega) (by omega)), (inR_i64 (by omega) (by omega)), h3, trivial⟩ ?_
     refine ae_then ?_
     refine aw_true rfl ?_
     refine aw_seq ?_
     refine aw_reg [] [4, 5] [4] [.ref 4 0, I 3] [some (.box [I 0, I 0, I 0])] [] (by kernel_rfl) hB trivial ?_
     refine ae_then ?_
     refine aw_ret ?_
     refine ae_ret_then ?_
     refine ae_ret hB (.tup [.agg [I 0, I 0, I 0], I 3]) (by kernel_rfl) (.inl (by simp [editR, kindI, *])) rfl (fun _ => (by simp [tagged, taggedL]))
    ·refine aw_reg [(6, .dec false), (20, .dec false)] [0, 1, 4, 6, 7, 43] [4, 7] [.ptr false [Sv l.Text, I l.X, I l.Y, I l.Cell], .ptr false [slPoint false s.Points], .ref 4 0, I 1, .ref 7 0, Bv false] [some (.box [I 0, I 0, I 0]), some (bxBox (boxS s.Points s.Points.length))] [¬ (((boxS s.Points s.Points.length).Y2) < l.Y), inR .i64 (2 * l.Cell), inR .i64 (l.Y + (2 * l.Cell)), ¬ ((l.Y + (2 * l.Cell)) < ((boxS s.Points s.Points.length).Y1))] (by kernel_rfl) hB ⟨h2, (inR_i64 (by omega) (by omega)), (inR_i64 (by omega) (by omega)), h3, trivial⟩ ?_
     refine ae_then ?_
     refine aw_false rfl ?_
     refine aw_skip ?_
     refine ae_then ?_
     refine aw_seq ?_
     refine aw_seq ?_
     refine aw_reg [(1, .dec false)] [0, 1, 4, 6, 7, 46] [4, 7] [.ptr false [Sv l.Text, I l.X, I l.Y, I l.Cell], .ptr false [slPoint false s.Points], .ref 4 0, I 1, .ref 7 0, Bv false] [some (.box [I 0, I 0, I 0]), some (bxBox (boxS s.Points s.Points.length))] [¬ ((1 : Int) = 3)] (by kernel_rfl) hB ⟨(by decide), trivial⟩ ?_
     refine ae_then ?_
     refine aw_false rfl ?_
     refine aw_skip ?_
     refine ae_then ?_
     refine aw_seq ?_
     refine aw_reg [(2, .call [(true, .ptr false [Sv l.Text, I l.X, I l.Y, I l.Cell]), (true, agBox (boxS s.Points s.Points.length))] true (.tup [I ((spanS l (boxS s.Points s.Points.length) l.Text.size).1), I ((spanS l (boxS s.Points s.Points.length) l.Text.size).2)]))] [4, 6, 9, 10] [4] [.ref 4 0, I 1, I ((spanS l (boxS s.Points s.Points.length) l.Text.size).1), I ((spanS l (boxS s.Points s.Points.length) l.Text.size).2)] [some (.box [I 0, I 0, I 0])] [Con Tryd.prog 72 [.ptr false [Sv l.Text, I l.X, I l.Y, I l.Cell], agBox (boxS s.Points s.Points.length)] true (.tup [I ((spanS l (boxS s.Points s.Points.length) l.Text.size).1), I ((spanS l (boxS s.Points s.Points.length) l.Text.size).2)]) ∧ ((.ptr false [Sv l.Text, I l.X, I l.Y, I l.Cell] : AV) = .ptr false [Sv l.Text, I l.X, I l.Y, I l.Cell]) ∧ ((agBox (boxS s.Points s.Points.length) : AV) = agBox (boxS s.Points s.Points.length)) ∧ True] (by kernel_rfl) hB ⟨⟨(l23Span_ok l (boxS s.Points s.Points.length) hr0 (by omega)), rfl, rfl, trivial⟩, trivial⟩ ?_
     refine ae_then ?_
     refine aw_seq ?_
     refine aw_seq ?_
     by_cases h4 : ((spanS l (boxS s.Points s.Points.length) l.Text.size).1) = ((spanS l (boxS s.Points s.Points.length) l.Text.size).2)
     ·have hz : (spanS l (boxS s.Points s.Points.length) l.Text.size).2 = 0 := by omega
      refine aw_reg [(2, .dec true)] [4, 6, 9, 10, 70] [4] [.ref 4 0, I 1, I ((spanS l (boxS s.Points s.Points.length) l.Text.size).1), I ((spanS l (boxS s.Points s.Points.length) l.Text.size).2), Bv true] [some (.box [I 0, I 0, I 0])] [((spanS l (boxS s.Points s.Points.length) l.Text.size).1) = ((spanS l (boxS s.Points s.Points.length) l.Text.size).2)] (by kernel_rfl) hB ⟨h4, trivial⟩ ?_
      refine ae_then ?_
      refine aw_true rfl ?_
      refine aw_seq ?_
      refine aw_reg [] [4, 5] [4] [.ref 4 0, I 3] [some (.box [I 0, I 0, I 0])] [] (by kernel_rfl) hB trivial ?_
      refine ae_then ?_
      refine aw_ret ?_
      refine ae_ret_then ?_
      refine ae_ret hB (.tup [.agg [I 0, I 0, I 0], I 3]) (by kernel_rfl) (.inl (by simp [editR, kindI, *])) rfl (fun _ => (by simp [tagged, taggedL]))
     ·have hz : ¬ (spanS l (boxS s.Points s.Points.length) l.Text.size).2 = 0 := by omega
      refine aw_reg [(2, .dec false)] [4, 6, 9, 10, 70] [4] [.ref 4 0, I 1, I ((spanS l (boxS s.Points s.Points.length) l.Text.size).1), I ((spanS l (boxS s.Points s.Points.length) l.Text.size).2), Bv false] [some (.box [I 0, I 0, I 0])] [¬ (((spanS l (boxS s.Points s.Points.length) l.Text.size).1) = ((spanS l (boxS s.Points s.Points.length) l.Text.size).2))] (by kernel_rfl) hB ⟨h4, trivial⟩ ?_
      refine ae_then ?_
      refine aw_false rfl ?_
      refine aw_skip ?_
      refine ae_then ?_
      refine aw_seq ?_
      refine aw_reg [] [4, 5] [4] [.ref 4 0, I 0] [some (.box [I 1, I ((spanS l (boxS s.Points s.Points.length) l.Text.size).1), I ((spanS l (boxS s.Points s.Points.length) l.Text.size).2)])] [] (by kernel_rfl) hB trivial ?_
      refine ae_then ?_
      refine aw_ret ?_
      refine ae_ret hB (.tup [.agg [I 1, I ((spanS l (boxS s.Points s.Points.length) l.Text.size).1), I ((spanS l (boxS s.Points s.Points.length) l.Text.size).2)], I 0]) (by kernel_rfl) (.inl (by simp [editR, kindI, *])) rfl (fun _ => (by simp [tagged, taggedL]))
  ·refine aw_reg [(0, .dec false)] [0, 1, 4, 12, 14] [4] [.ptr false [Sv l.Text, I l.X, I l.Y, I l.Cell], .ptr false [slPoint false s.Points], .ref 4 0, I (gestI s), Bv false] [some (.box [I 0, I 0, I 0])] [¬ ((gestI s) = 2)] (by kernel_rfl) hB ⟨h1, trivial⟩ ?_
   refine ae_then ?_
   refine aw_false rfl ?_
   refine aw_seq ?_
   by_cases h5 : (gestI s) = 3
   ·refine aw_reg [(0, .dec true)] [0, 1, 4, 12, 16] [4] [.ptr false [Sv l.Text, I l.X, I l.Y, I l.Cell], .ptr false [slPoint false s.Points], .ref 4 0, I (gestI s), Bv true] [some (.box [I 0, I 0, I 0])] [(gestI s) = 3] (by kernel_rfl) hB ⟨h5, trivial⟩ ?_
    refine ae_then ?_
    refine aw_true rfl ?_
    refine aw_reg [] [0, 1, 4, 6] [4] [.ptr false [Sv l.Text, I l.X, I l.Y, I l.Cell], .ptr false [slPoint false s.Points], .ref 4 0, I 2] [some (.box [I 0, I 0, I 0])] [] (by kernel_rfl) hB trivial ?_
    refine ae_block 0 ?_
    refine ae_then ?_
    refine aw_seq ?_
    refine aw_reg [(1, .call [(true, .ptr false [slPoint false s.Points])] true (agBox (boxS s.Points s.Points.length))), (2, .new 7)] [0, 1, 4, 6, 7] [4, 7] [.ptr false [Sv l.Text, I l.X, I l.Y, I l.Cell], .ptr false [slPoint false s.Points], .ref 4 0, I 2, .ref 7 0] [some (.box [I 0, I 0, I 0]), some (bxBox (boxS s.Points s.Points.length))] [Con Tryd.prog 69 [.ptr false [slPoint false s.Points]] true (agBox (boxS s.Points s.Points.length)) ∧ ((.ptr false [slPoint false s.Points] : AV) = .ptr false [slPoint false s.Points]) ∧ True] (by kernel_rfl) hB ⟨⟨(l02BoxOf_ok s ok), rfl, trivial⟩, trivial⟩ ?_
    refine ae_then ?_
    refine aw_seq ?_
    refine aw_seq ?_
    by_cases h6 : ((boxS s.Points s.Points.length).Y2) < l.Y
    ·refine aw_reg [(6, .dec true)] [0, 1, 4, 6, 7, 43] [4, 7] [.ptr false [Sv l.Text, I l.X, I l.Y, I l.Cell], .ptr false [slPoint false s.Points], .ref 4 0, I 2, .ref 7 0, Bv true] [some (.box [I 0, I 0, I 0]), some (bxBox (boxS s.Points s.Points.length))] [((boxS s.Points s.Points.length).Y2) < l.Y] (by kernel_rfl) hB ⟨h6, trivial⟩ ?_
     refine ae_then ?_
     refine aw_true rfl ?_
     refine aw_seq ?_
     refine aw_reg [] [4, 5] [4] [.ref 4 0, I 3] [some (.box [I 0, I 0, I 0])] [] (by kernel_rfl) hB trivial ?_
     refine ae_then ?_
     refine aw_ret ?_
     refine ae_ret_then ?_
     refine ae_ret hB (.tup [.agg [I 0, I 0, I 0], I 3]) (by kernel_rfl) (.inl (by simp [editR, kindI, *])) rfl (fun _ => (by simp [tagged, taggedL]))
    ·by_cases h7 : (l.Y + (2 * l.Cell)) < ((boxS s.Points s.Points.length).Y1)
     ·refine aw_reg [(6, .dec false), (20, .dec true)] [0, 1, 4, 6, 7, 43] [4, 7] [.ptr false [Sv l.Text, I l.X, I l.Y, I l.Cell], .ptr false [slPoint false s.Points], .ref 4 0, I 2, .ref 7 0, Bv true] [some (.box [I 0, I 0, I 0]), some (bxBox (boxS s.Points s.Points.length))] [¬ (((boxS s.Points s.Points.length).Y2) < l.Y), inR .i64 (2 * l.Cell), inR .i64 (l.Y + (2 * l.Cell)), (l.Y + (2 * l.Cell)) < ((boxS s.Points s.Points.length).Y1)] (by kernel_rfl) hB ⟨h6, (inR_i64 (by omega) (by omega)), (inR_i64 (by omega) (by omega)), h7, trivial⟩ ?_
      refine ae_then ?_
      refine aw_true rfl ?_
      refine aw_seq ?_
      refine aw_reg [] [4, 5] [4] [.ref 4 0, I 3] [some (.box [I 0, I 0, I 0])] [] (by kernel_rfl) hB trivial ?_
      refine ae_then ?_
      refine aw_ret ?_
      refine ae_ret_then ?_
      refine ae_ret hB (.tup [.agg [I 0, I 0, I 0], I 3]) (by kernel_rfl) (.inl (by simp [editR, kindI, *])) rfl (fun _ => (by simp [tagged, taggedL]))
     ·refine aw_reg [(6, .dec false), (20, .dec false)] [0, 1, 4, 6, 7, 43] [4, 7] [.ptr false [Sv l.Text, I l.X, I l.Y, I l.Cell], .ptr false [slPoint false s.Points], .ref 4 0, I 2, .ref 7 0, Bv false] [some (.box [I 0, I 0, I 0]), some (bxBox (boxS s.Points s.Points.length))] [¬ (((boxS s.Points s.Points.length).Y2) < l.Y), inR .i64 (2 * l.Cell), inR .i64 (l.Y + (2 * l.Cell)), ¬ ((l.Y + (2 * l.Cell)) < ((boxS s.Points s.Points.length).Y1))] (by kernel_rfl) hB ⟨h6, (inR_i64 (by omega) (by omega)), (inR_i64 (by omega) (by omega)), h7, trivial⟩ ?_
      refine ae_then ?_
      refine aw_false rfl ?_
      refine aw_skip ?_
      refine ae_then ?_
      refine aw_seq ?_
      refine aw_seq ?_
      refine aw_reg [(1, .dec false)] [0, 1, 4, 6, 7, 46] [4, 7] [.ptr false [Sv l.Text, I l.X, I l.Y, I l.Cell], .ptr false [slPoint false s.Points], .ref 4 0, I 2, .ref 7 0, Bv false] [some (.box [I 0, I 0, I 0]), some (bxBox (boxS s.Points s.Points.length))] [¬ ((2 : Int) = 3)] (by kernel_rfl) hB ⟨(by decide), trivial⟩ ?_
      refine ae_then ?_
      refine aw_false rfl ?_
      refine aw_skip ?_
      refine ae_then ?_
      refine aw_seq ?_
      refine aw_reg [(2, .call [(true, .ptr false [Sv l.Text, I l.X, I l.Y, I l.Cell]), (true, agBox (boxS s.Points s.Points.length))] true (.tup [I ((spanS l (boxS s.Points s.Points.length) l.Text.size).1), I ((spanS l (boxS s.Points s.Points.length) l.Text.size).2)]))] [4, 6, 9, 10] [4] [.ref 4 0, I 2, I ((spanS l (boxS s.Points s.Points.length) l.Text.size).1), I ((spanS l (boxS s.Points s.Points.length) l.Text.size).2)] [some (.box [I 0, I 0, I 0])] [Con Tryd.prog 72 [.ptr false [Sv l.Text, I l.X, I l.Y, I l.Cell], agBox (boxS s.Points s.Points.length)] true (.tup [I ((spanS l (boxS s.Points s.Points.length) l.Text.size).1), I ((spanS l (boxS s.Points s.Points.length) l.Text.size).2)]) ∧ ((.ptr false [Sv l.Text, I l.X, I l.Y, I l.Cell] : AV) = .ptr false [Sv l.Text, I l.X, I l.Y, I l.Cell]) ∧ ((agBox (boxS s.Points s.Points.length) : AV) = agBox (boxS s.Points s.Points.length)) ∧ True] (by kernel_rfl) hB ⟨⟨(l23Span_ok l (boxS s.Points s.Points.length) hr0 (by omega)), rfl, rfl, trivial⟩, trivial⟩ ?_
      refine ae_then ?_
      refine aw_seq ?_
      refine aw_seq ?_
      by_cases h8 : ((spanS l (boxS s.Points s.Points.length) l.Text.size).1) = ((spanS l (boxS s.Points s.Points.length) l.Text.size).2)
      ·have hz : (spanS l (boxS s.Points s.Points.length) l.Text.size).2 = 0 := by omega
       refine aw_reg [(2, .dec true)] [4, 6, 9, 10, 70] [4] [.ref 4 0, I 2, I ((spanS l (boxS s.Points s.Points.length) l.Text.size).1), I ((spanS l (boxS s.Points s.Points.length) l.Text.size).2), Bv true] [some (.box [I 0, I 0, I 0])] [((spanS l (boxS s.Points s.Points.length) l.Text.size).1) = ((spanS l (boxS s.Points s.Points.length) l.Text.size).2)] (by kernel_rfl) hB ⟨h8, trivial⟩ ?_
       refine ae_then ?_
       refine aw_true rfl ?_
       refine aw_seq ?_
       refine aw_reg [] [4, 5] [4] [.ref 4 0, I 3] [some (.box [I 0, I 0, I 0])] [] (by kernel_rfl) hB trivial ?_
       refine ae_then ?_
       refine aw_ret ?_
       refine ae_ret_then ?_
       refine ae_ret hB (.tup [.agg [I 0, I 0, I 0], I 3]) (by kernel_rfl) (.inl (by simp [editR, kindI, *])) rfl (fun _ => (by simp [tagged, taggedL]))
      ·have hz : ¬ (spanS l (boxS s.Points s.Points.length) l.Text.size).2 = 0 := by omega
       refine aw_reg [(2, .dec false)] [4, 6, 9, 10, 70] [4] [.ref 4 0, I 2, I ((spanS l (boxS s.Points s.Points.length) l.Text.size).1), I ((spanS l (boxS s.Points s.Points.length) l.Text.size).2), Bv false] [some (.box [I 0, I 0, I 0])] [¬ (((spanS l (boxS s.Points s.Points.length) l.Text.size).1) = ((spanS l (boxS s.Points s.Points.length) l.Text.size).2))] (by kernel_rfl) hB ⟨h8, trivial⟩ ?_
       refine ae_then ?_
       refine aw_false rfl ?_
       refine aw_skip ?_
       refine ae_then ?_
       refine aw_seq ?_
       refine aw_reg [] [4, 5] [4] [.ref 4 0, I 0] [some (.box [I 2, I ((spanS l (boxS s.Points s.Points.length) l.Text.size).1), I ((spanS l (boxS s.Points s.Points.length) l.Text.size).2)])] [] (by kernel_rfl) hB trivial ?_
       refine ae_then ?_
       refine aw_ret ?_
       refine ae_ret hB (.tup [.agg [I 2, I ((spanS l (boxS s.Points s.Points.length) l.Text.size).1), I ((spanS l (boxS s.Points s.Points.length) l.Text.size).2)], I 0]) (by kernel_rfl) (.inl (by simp [editR, kindI, *])) rfl (fun _ => (by simp [tagged, taggedL]))
   ·refine aw_reg [(0, .dec false)] [0, 1, 4, 12, 16] [4] [.ptr false [Sv l.Text, I l.X, I l.Y, I l.Cell], .ptr false [slPoint false s.Points], .ref 4 0, I (gestI s), Bv false] [some (.box [I 0, I 0, I 0])] [¬ ((gestI s) = 3)] (by kernel_rfl) hB ⟨h5, trivial⟩ ?_
    refine ae_then ?_
    refine aw_false rfl ?_
    refine aw_seq ?_
    by_cases h9 : (gestI s) = 4
    ·refine aw_reg [(0, .dec true)] [0, 1, 4, 18] [4] [.ptr false [Sv l.Text, I l.X, I l.Y, I l.Cell], .ptr false [slPoint false s.Points], .ref 4 0, Bv true] [some (.box [I 0, I 0, I 0])] [(gestI s) = 4] (by kernel_rfl) hB ⟨h9, trivial⟩ ?_
     refine ae_then ?_
     refine aw_true rfl ?_
     refine aw_reg [] [0, 1, 4, 6] [4] [.ptr false [Sv l.Text, I l.X, I l.Y, I l.Cell], .ptr false [slPoint false s.Points], .ref 4 0, I 3] [some (.box [I 0, I 0, I 0])] [] (by kernel_rfl) hB trivial ?_
     refine ae_block 0 ?_
     refine ae_then ?_
     refine aw_seq ?_
     refine aw_reg [(1, .call [(true, .ptr false [slPoint false s.Points])] true (agBox (boxS s.Points s.Points.length))), (2, .new 7)] [0, 1, 4, 6, 7] [4, 7] [.ptr false [Sv l.Text, I l.X, I l.Y, I l.Cell], .ptr false [slPoint false s.Points], .ref 4 0, I 3, .ref 7 0] [some (.box [I 0, I 0, I 0]), some (bxBox (boxS s.Points s.Points.length))] [Con Tryd.prog 69 [.ptr false [slPoint false s.Points]] true (agBox (boxS s.Points s.Points.length)) ∧ ((.ptr false [slPoint false s.Points] : AV) = .ptr false [slPoint false s.Points]) ∧ True] (by kernel_rfl) hB ⟨⟨(l02BoxOf_ok s ok), rfl, trivial⟩, trivial⟩ ?_
     refine ae_then ?_
     refine aw_seq ?_
     refine aw_seq ?_
     by_cases h10 : ((boxS s.Points s.Points.length).Y2) < l.Y
     ·refine aw_reg [(6, .dec true)] [0, 1, 4, 6, 7, 43] [4, 7] [.ptr false [Sv l.Text, I l.X, I l.Y, I l.Cell], .ptr false [slPoint false s.Points], .ref 4 0, I 3, .ref 7 0, Bv true] [some (.box [I 0, I 0, I 0]), some (bxBox (boxS s.Points s.Points.length))] [((boxS s.Points s.Points.length).Y2) < l.Y] (by kernel_rfl) hB ⟨h10, trivial⟩ ?_
      refine ae_then ?_
      refine aw_true rfl ?_
      refine aw_seq ?_
      refine aw_reg [] [4, 5] [4] [.ref 4 0, I 3] [some (.box [I 0, I 0, I 0])] [] (by kernel_rfl) hB trivial ?_
      refine ae_then ?_
      refine aw_ret ?_
      refine ae_ret_then ?_
      refine ae_ret hB (.tup [.agg [I 0, I 0, I 0], I 3]) (by kernel_rfl) (.inl (by simp [editR, kindI, *])) rfl (fun _ => (by simp [tagged, taggedL]))
     ·by_cases h11 : (l.Y + (2 * l.Cell)) < ((boxS s.Points s.Points.length).Y1)
      ·refine aw_reg [(6, .dec false), (20, .dec true)] [0, 1, 4, 6, 7, 43] [4, 7] [.ptr false [Sv l.Text, I l.X, I l.Y, I l.Cell], .ptr false [slPoint false s.Points], .ref 4 0, I 3, .ref 7 0, Bv true] [some (.box [I 0, I 0, I 0]), some (bxBox (boxS s.Points s.Points.length))] [¬ (((boxS s.Points s.Points.length).Y2) < l.Y), inR .i64 (2 * l.Cell), inR .i64 (l.Y + (2 * l.Cell)), (l.Y + (2 * l.Cell)) < ((boxS s.Points s.Points.length).Y1)] (by kernel_rfl) hB ⟨h10, (inR_i64 (by omega) (by omega)), (inR_i64 (by omega) (by omega)), h11, trivial⟩ ?_
       refine ae_then ?_
       refine aw_true rfl ?_
       refine aw_seq ?_
       refine aw_reg [] [4, 5] [4] [.ref 4 0, I 3] [some (.box [I 0, I 0, I 0])] [] (by kernel_rfl) hB trivial ?_
       refine ae_then ?_
       refine aw_ret ?_
       refine ae_ret_then ?_
       refine ae_ret hB (.tup [.agg [I 0, I 0, I 0], I 3]) (by kernel_rfl) (.inl (by simp [editR, kindI, *])) rfl (fun _ => (by simp [tagged, taggedL]))
      ·refine aw_reg [(6, .dec false), (20, .dec false)] [0, 1, 4, 6, 7, 43] [4, 7] [.ptr false [Sv l.Text, I l.X, I l.Y, I l.Cell], .ptr false [slPoint false s.Points], .ref 4 0, I 3, .ref 7 0, Bv false] [some (.box [I 0, I 0, I 0]), some (bxBox (boxS s.Points s.Points.length))] [¬ (((boxS s.Points s.Points.length).Y2) < l.Y), inR .i64 (2 * l.Cell), inR .i64 (l.Y + (2 * l.Cell)), ¬ ((l.Y + (2 * l.Cell)) < ((boxS s.Points s.Points.length).Y1))] (by kernel_rfl) hB ⟨h10, (inR_i64 (by omega) (by omega)), (inR_i64 (by omega) (by omega)), h11, trivial⟩ ?_
       refine ae_then ?_
       refine aw_false rfl ?_
       refine aw_skip ?_
       refine ae_then ?_
       refine aw_seq ?_
       refine aw_seq ?_
       refine aw_reg [(1, .dec true)] [0, 1, 4, 6, 7, 46] [4, 7] [.ptr false [Sv l.Text, I l.X, I l.Y, I l.Cell], .ptr false [slPoint false s.Points], .ref 4 0, I 3, .ref 7 0, Bv true] [some (.box [I 0, I 0, I 0]), some (bxBox (boxS s.Points s.Points.length))] [(3 : Int) = 3] (by kernel_rfl) hB ⟨(by decide), trivial⟩ ?_
       refine ae_then ?_
       refine aw_true rfl ?_
       refine aw_seq ?_
       refine aw_reg [(6, .call [(true, .ptr false [slPoint false s.Points])] true (I (tipS s.Points s.Points.length : Int))), (10, .call [(true, .ptr false [Sv l.Text, I l.X, I l.Y, I l.Cell]), (true, I ((at_ s.Points ((tipS s.Points s.Points.length : Int).toNat)).X))] true (I (placeS l ((at_ s.Points ((tipS s.Points s.Points.length : Int).toNat)).X) l.Text.size)))] [4, 6, 8] [4] [.ref 4 0, I 3, I (placeS l ((at_ s.Points ((tipS s.Points s.Points.length : Int).toNat)).X) l.Text.size)] [some (.box [I 0, I 0, I 0])] [Con Tryd.prog 71 [.ptr false [slPoint false s.Points]] true (I (tipS s.Points s.Points.length : Int)) ∧ ((.ptr false [slPoint false s.Points] : AV) = .ptr false [slPoint false s.Points]) ∧ True, (0 : Int) ≤ (tipS s.Points s.Points.length : Int) ∧ (tipS s.Points s.Points.length : Int) < (s.Points.length : Int), Con Tryd.prog 70 [.ptr false [Sv l.Text, I l.X, I l.Y, I l.Cell], I ((at_ s.Points ((tipS s.Points s.Points.length : Int).toNat)).X)] true (I (placeS l ((at_ s.Points ((tipS s.Points s.Points.length : Int).toNat)).X) l.Text.size)) ∧ ((.ptr false [Sv l.Text, I l.X, I l.Y, I l.Cell] : AV) = .ptr false [Sv l.Text, I l.X, I l.Y, I l.Cell]) ∧ ((I ((at_ s.Points ((tipS s.Points s.Points.length : Int).toNat)).X) : AV) = I ((at_ s.Points ((tipS s.Points s.Points.length : Int).toNat)).X)) ∧ True] (by kernel_rfl) hB ⟨⟨(l23Tip_ok s ok), rfl, trivial⟩, ⟨(by omega), (by omega)⟩, ⟨(l23Place_ok l ((at_ s.Points ((tipS s.Points s.Points.length : Int).toNat)).X) hr0 (by omega)), rfl, rfl, trivial⟩, trivial⟩ ?_
       refine ae_then ?_
       refine aw_seq ?_
       refine aw_reg [] [4, 5] [4] [.ref 4 0, I 0] [some (.box [I 3, I (placeS l ((at_ s.Points ((tipS s.Points s.Points.length : Int).toNat)).X) l.Text.size), I (placeS l ((at_ s.Points ((tipS s.Points s.Points.length : Int).toNat)).X) l.Text.size)])] [] (by kernel_rfl) hB trivial ?_
       refine ae_then ?_
       refine aw_ret ?_
       refine ae_ret_then ?_
       refine ae_ret hB (.tup [.agg [I 3, I (placeS l ((at_ s.Points ((tipS s.Points s.Points.length : Int).toNat)).X) l.Text.size), I (placeS l ((at_ s.Points ((tipS s.Points s.Points.length : Int).toNat)).X) l.Text.size)], I 0]) (by kernel_rfl) (.inl (by simp [editR, kindI, *])) rfl (fun _ => (by simp [tagged, taggedL]))
    ·refine aw_reg [(0, .dec false)] [0, 1, 4, 18] [4] [.ptr false [Sv l.Text, I l.X, I l.Y, I l.Cell], .ptr false [slPoint false s.Points], .ref 4 0, Bv false] [some (.box [I 0, I 0, I 0])] [¬ ((gestI s) = 4)] (by kernel_rfl) hB ⟨h9, trivial⟩ ?_
     refine ae_then ?_
     refine aw_false rfl ?_
     refine aw_seq ?_
     refine aw_reg [] [4, 5] [4] [.ref 4 0, I 6] [some (.box [I 0, I 0, I 0])] [] (by kernel_rfl) hB trivial ?_
     refine ae_then ?_
     refine aw_ret ?_
     refine ae_ret_block (ae_ret_then ?_)
     refine ae_ret hB (.tup [.agg [I 0, I 0, I 0], I 6]) (by kernel_rfl) (.inl (by simp [editR, kindI, *])) rfl (fun _ => (by simp [tagged, taggedL]))


-- spec.l23Check
theorem l23Check_ok (l : CellRow) (e : Edit) (insert : ByteArray) (okl : l.Text.size ≤ 9223372036854775807) (oki : insert.size ≤ 1048576) : Con Tryd.prog 44 [.ptr false [Sv l.Text, I l.X, I l.Y, I l.Cell], agEdit e, Sv insert] true (I (chkI l e insert)) := by
  refine fn_ok (fn := Tryd.f44) (nt := 69) Tryd.func44 rfl rfl rfl rfl (by simp [taggedL, tagged]) fun B hB => ?_
  refine aw_seq ?_
  refine aw_reg [(0, .new 4)] [0, 2, 4] [4] [.ptr false [Sv l.Text, I l.X, I l.Y, I l.Cell], Sv insert, .ref 4 0] [some (bxEdit e)] [] (by kernel_rfl) hB trivial ?_
  refine ae_then ?_
  refine aw_seq ?_
  refine aw_seq ?_
  rcases Bool.eq_false_or_eq_true (okRow l) with h1 | h1
  ·have hr := okRow_iff.1 h1
   rcases Bool.eq_false_or_eq_true (lettersB insert) with h2 | h2
   ·rcases Bool.eq_false_or_eq_true (inB e.Kind 1 3) with h3 | h3
    ·have hinh3 := inB_iff.1 h3
     refine aw_reg [(1, .call [(true, .ptr false [Sv l.Text, I l.X, I l.Y, I l.Cell])] true (Bv true)), (5, .call [(true, Sv insert)] true (Bv true)), (11, .call [(true, I e.Kind), (true, I 1), (true, I 3)] true (Bv true))] [0, 2, 4, 20] [4] [.ptr false [Sv l.Text, I l.X, I l.Y, I l.Cell], Sv insert, .ref 4 0, Bv false] [some (bxEdit e)] [Con Tryd.prog 40 [.ptr false [Sv l.Text, I l.X, I l.Y, I l.Cell]] true (Bv true) ∧ ((.ptr false [Sv l.Text, I l.X, I l.Y, I l.Cell] : AV) = .ptr false [Sv l.Text, I l.X, I l.Y, I l.Cell]) ∧ True, Con Tryd.prog 41 [Sv insert] true (Bv true) ∧ ((Sv insert : AV) = Sv insert) ∧ True, Con Tryd.prog 48 [I e.Kind, I 1, I 3] true (Bv true) ∧ ((I e.Kind : AV) = I e.Kind) ∧ ((I 1 : AV) = I 1) ∧ ((I 3 : AV) = I 3) ∧ True] (by kernel_rfl) hB ⟨⟨(con_bool h1 (l23Ok_ok l okl)), rfl, trivial⟩, ⟨(con_bool h2 (l23Letters_ok insert (by omega))), rfl, trivial⟩, ⟨(con_bool h3 (l00In_ok e.Kind 1 3)), rfl, rfl, rfl, trivial⟩, trivial⟩ ?_
     refine ae_then ?_
     refine aw_false rfl ?_
     refine aw_skip ?_
     refine ae_then ?_
     refine aw_seq ?_
     refine aw_seq ?_
     rcases Bool.eq_false_or_eq_true (inB e.From 0 e.To) with h4 | h4
     ·have hinh4 := inB_iff.1 h4
      by_cases h5 : (l.Text.size : Int) < e.To
      ·refine aw_reg [(4, .call [(true, I e.From), (true, I 0), (true, I e.To)] true (Bv true)), (14, .dec true)] [0, 2, 4, 48] [4] [.ptr false [Sv l.Text, I l.X, I l.Y, I l.Cell], Sv insert, .ref 4 0, Bv true] [some (bxEdit e)] [Con Tryd.prog 48 [I e.From, I 0, I e.To] true (Bv true) ∧ ((I e.From : AV) = I e.From) ∧ ((I 0 : AV) = I 0) ∧ ((I e.To : AV) = I e.To) ∧ True, (l.Text.size : Int) < e.To] (by kernel_rfl) hB ⟨⟨(con_bool h4 (l00In_ok e.From 0 e.To)), rfl, rfl, rfl, trivial⟩, h5, trivial⟩ ?_
       refine ae_then ?_
       refine aw_true rfl ?_
       refine aw_seq ?_
       refine aw_reg [] [6] [] [I 2] [] [] (by kernel_rfl) hB trivial ?_
       refine ae_then ?_
       refine aw_ret ?_
       refine ae_ret_then ?_
       refine ae_ret hB (I 2) (by kernel_rfl) (.inl (by refine congrArg I ?_; first | exact (chk_1 (by simp [*])).symm | exact (chk_2 (by assumption) (by assumption) (by assumption) (by omega)).symm | exact (chk_5 (by assumption) (by assumption) (by assumption) (by omega) (by omega)).symm | exact (chk_0 (by assumption) (by assumption) (by assumption) (by omega) (by omega)).symm)) rfl (fun _ => trivial)
      ·by_cases h6 : e.Kind = 3
       ·by_cases h7 : e.From = e.To
        ·refine aw_reg [(4, .call [(true, I e.From), (true, I 0), (true, I e.To)] true (Bv true)), (14, .dec false), (19, .dec true), (25, .dec false)] [0, 2, 4, 48] [4] [.ptr false [Sv l.Text, I l.X, I l.Y, I l.Cell], Sv insert, .ref 4 0, Bv false] [some (bxEdit e)] [Con Tryd.prog 48 [I e.From, I 0, I e.To] true (Bv true) ∧ ((I e.From : AV) = I e.From) ∧ ((I 0 : AV) = I 0) ∧ ((I e.To : AV) = I e.To) ∧ True, ¬ ((l.Text.size : Int) < e.To), e.Kind = 3, ¬ (e.From ≠ e.To)] (by kernel_rfl) hB ⟨⟨(con_bool h4 (l00In_ok e.From 0 e.To)), rfl, rfl, rfl, trivial⟩, h5, h6, (fun hq => hq h7), trivial⟩ ?_
         refine ae_then ?_
         refine aw_false rfl ?_
         refine aw_skip ?_
         refine ae_then ?_
         refine aw_seq ?_
         refine aw_seq ?_
         by_cases h8 : e.Kind = 1
         ·refine aw_reg [(2, .dec false)] [68] [] [Bv false] [] [¬ (e.Kind ≠ 1)] (by kernel_rfl) hB ⟨(fun hq => hq h8), trivial⟩ ?_
          refine ae_then ?_
          refine aw_false rfl ?_
          refine aw_skip ?_
          refine ae_then ?_
          refine aw_seq ?_
          refine aw_reg [] [6] [] [I 0] [] [] (by kernel_rfl) hB trivial ?_
          refine ae_then ?_
          refine aw_ret ?_
          refine ae_ret hB (I 0) (by kernel_rfl) (.inl (by refine congrArg I ?_; first | exact (chk_1 (by simp [*])).symm | exact (chk_2 (by assumption) (by assumption) (by assumption) (by omega)).symm | exact (chk_5 (by assumption) (by assumption) (by assumption) (by omega) (by omega)).symm | exact (chk_0 (by assumption) (by assumption) (by assumption) (by omega) (by omega)).symm)) rfl (fun _ => trivial)
         ·by_cases h9 : 60 < (((l.Text.size : Int) + (insert.size : Int)) - (e.To - e.From))
          ·refine aw_reg [(2, .dec true), (18, .dec true)] [68] [] [Bv true] [] [e.Kind ≠ 1, inR .i64 ((l.Text.size : Int) + (insert.size : Int)), inR .i64 (e.To - e.From), inR .i64 (((l.Text.size : Int) + (insert.size : Int)) - (e.To - e.From)), 60 < (((l.Text.size : Int) + (insert.size : Int)) - (e.To - e.From))] (by kernel_rfl) hB ⟨h8, (inR_i64 (by omega) (by omega)), (inR_i64 (by omega) (by omega)), (inR_i64 (by omega) (by omega)), h9, trivial⟩ ?_
           refine ae_then ?_
           refine aw_true rfl ?_
           refine aw_seq ?_
           refine aw_reg [] [6] [] [I 5] [] [] (by kernel_rfl) hB trivial ?_
           refine ae_then ?_
           refine aw_ret ?_
           refine ae_ret_then ?_
           refine ae_ret hB (I 5) (by kernel_rfl) (.inl (by refine congrArg I ?_; first | exact (chk_1 (by simp [*])).symm | exact (chk_2 (by assumption) (by assumption) (by assumption) (by omega)).symm | exact (chk_5 (by assumption) (by assumption) (by assumption) (by omega) (by omega)).symm | exact (chk_0 (by assumption) (by assumption) (by assumption) (by omega) (by omega)).symm)) rfl (fun _ => trivial)
          ·refine aw_reg [(2, .dec true), (18, .dec false)] [68] [] [Bv false] [] [e.Kind ≠ 1, inR .i64 ((l.Text.size : Int) + (insert.size : Int)), inR .i64 (e.To - e.From), inR .i64 (((l.Text.size : Int) + (insert.size : Int)) - (e.To - e.From)), ¬ (60 < (((l.Text.size : Int) + (insert.size : Int)) - (e.To - e.From)))] (by kernel_rfl) hB ⟨h8, (inR_i64 (by omega) (by omega)), (inR_i64 (by omega) (by omega)), (inR_i64 (by omega) (by omega)), h9, trivial⟩ ?_
           refine ae_then ?_
           refine aw_false rfl ?_
           refine aw_skip ?_
           refine ae_then ?_
           refine aw_seq ?_
           refine aw_reg [] [6] [] [I 0] [] [] (by kernel_rfl) hB trivial ?_
           refine ae_then ?_
           refine aw_ret ?_
           refine ae_ret hB (I 0) (by kernel_rfl) (.inl (by refine congrArg I ?_; first | exact (chk_1 (by simp [*])).symm | exact (chk_2 (by assumption) (by assumption) (by assumption) (by omega)).symm | exact (chk_5 (by assumption) (by assumption) (by assumption) (by omega) (by omega)).symm | exact (chk_0 (by assumption) (by assumption) (by assumption) (by omega) (by omega)).symm)) rfl (fun _ => trivial)
        ·refine aw_reg [(4, .call [(true, I e.From), (true, I 0), (true, I e.To)] true (Bv true)), (14, .dec false), (19, .dec true), (25, .dec true)] [0, 2, 4, 48] [4] [.ptr false [Sv l.Text, I l.X, I l.Y, I l.Cell], Sv insert, .ref 4 0, Bv true] [some (bxEdit e)] [Con Tryd.prog 48 [I e.From, I 0, I e.To] true (Bv true) ∧ ((I e.From : AV) = I e.From) ∧ ((I 0 : AV) = I 0) ∧ ((I e.To : AV) = I e.To) ∧ True, ¬ ((l.Text.size : Int) < e.To), e.Kind = 3, e.From ≠ e.To] (by kernel_rfl) hB ⟨⟨(con_bool h4 (l00In_ok e.From 0 e.To)), rfl, rfl, rfl, trivial⟩, h5, h6, h7, trivial⟩ ?_
         refine ae_then ?_
         refine aw_true rfl ?_
         refine aw_seq ?_
         refine aw_reg [] [6] [] [I 2] [] [] (by kernel_rfl) hB trivial ?_
         refine ae_then ?_
         refine aw_ret ?_
         refine ae_ret_then ?_
         refine ae_ret hB (I 2) (by kernel_rfl) (.inl (by refine congrArg I ?_; first | exact (chk_1 (by simp [*])).symm | exact (chk_2 (by assumption) (by assumption) (by assumption) (by omega)).symm | exact (chk_5 (by assumption) (by assumption) (by assumption) (by omega) (by omega)).symm | exact (chk_0 (by assumption) (by assumption) (by assumption) (by omega) (by omega)).symm)) rfl (fun _ => trivial)
       ·refine aw_reg [(4, .call [(true, I e.From), (true, I 0), (true, I e.To)] true (Bv true)), (14, .dec false), (19, .dec false)] [0, 2, 4, 48] [4] [.ptr false [Sv l.Text, I l.X, I l.Y, I l.Cell], Sv insert, .ref 4 0, Bv false] [some (bxEdit e)] [Con Tryd.prog 48 [I e.From, I 0, I e.To] true (Bv true) ∧ ((I e.From : AV) = I e.From) ∧ ((I 0 : AV) = I 0) ∧ ((I e.To : AV) = I e.To) ∧ True, ¬ ((l.Text.size : Int) < e.To), ¬ (e.Kind = 3)] (by kernel_rfl) hB ⟨⟨(con_bool h4 (l00In_ok e.From 0 e.To)), rfl, rfl, rfl, trivial⟩, h5, h6, trivial⟩ ?_
        refine ae_then ?_
        refine aw_false rfl ?_
        refine aw_skip ?_
        refine ae_then ?_
        refine aw_seq ?_
        refine aw_seq ?_
        by_cases h10 : e.Kind = 1
        ·refine aw_reg [(2, .dec false)] [68] [] [Bv false] [] [¬ (e.Kind ≠ 1)] (by kernel_rfl) hB ⟨(fun hq => hq h10), trivial⟩ ?_
         refine ae_then ?_
         refine aw_false rfl ?_
         refine aw_skip ?_
         refine ae_then ?_
         refine aw_seq ?_
         refine aw_reg [] [6] [] [I 0] [] [] (by kernel_rfl) hB trivial ?_
         refine ae_then ?_
         refine aw_ret ?_
         refine ae_ret hB (I 0) (by kernel_rfl) (.inl (by refine congrArg I ?_; first | exact (chk_1 (by simp [*])).symm | exact (chk_2 (by assumption) (by assumption) (by assumption) (by omega)).symm | exact (chk_5 (by assumption) (by assumption) (by assumption) (by omega) (by omega)).symm | exact (chk_0 (by assumption) (by assumption) (by assumption) (by omega) (by omega)).symm)) rfl (fun _ => trivial)
        ·by_cases h11 : 60 < (((l.Text.size : Int) + (insert.size : Int)) - (e.To - e.From))
         ·refine aw_reg [(2, .dec true), (18, .dec true)] [68] [] [Bv true] [] [e.Kind ≠ 1, inR .i64 ((l.Text.size : Int) + (insert.size : Int)), inR .i64 (e.To - e.From), inR .i64 (((l.Text.size : Int) + (insert.size : Int)) - (e.To - e.From)), 60 < (((l.Text.size : Int) + (insert.size : Int)) - (e.To - e.From))] (by kernel_rfl) hB ⟨h10, (inR_i64 (by omega) (by omega)), (inR_i64 (by omega) (by omega)), (inR_i64 (by omega) (by omega)), h11, trivial⟩ ?_
          refine ae_then ?_
          refine aw_true rfl ?_
          refine aw_seq ?_
          refine aw_reg [] [6] [] [I 5] [] [] (by kernel_rfl) hB trivial ?_
          refine ae_then ?_
          refine aw_ret ?_
          refine ae_ret_then ?_
          refine ae_ret hB (I 5) (by kernel_rfl) (.inl (by refine congrArg I ?_; first | exact (chk_1 (by simp [*])).symm | exact (chk_2 (by assumption) (by assumption) (by assumption) (by omega)).symm | exact (chk_5 (by assumption) (by assumption) (by assumption) (by omega) (by omega)).symm | exact (chk_0 (by assumption) (by assumption) (by assumption) (by omega) (by omega)).symm)) rfl (fun _ => trivial)
         ·refine aw_reg [(2, .dec true), (18, .dec false)] [68] [] [Bv false] [] [e.Kind ≠ 1, inR .i64 ((l.Text.size : Int) + (insert.size : Int)), inR .i64 (e.To - e.From), inR .i64 (((l.Text.size : Int) + (insert.size : Int)) - (e.To - e.From)), ¬ (60 < (((l.Text.size : Int) + (insert.size : Int)) - (e.To - e.From)))] (by kernel_rfl) hB ⟨h10, (inR_i64 (by omega) (by omega)), (inR_i64 (by omega) (by omega)), (inR_i64 (by omega) (by omega)), h11, trivial⟩ ?_
          refine ae_then ?_
          refine aw_false rfl ?_
          refine aw_skip ?_
          refine ae_then ?_
          refine aw_seq ?_
          refine aw_reg [] [6] [] [I 0] [] [] (by kernel_rfl) hB trivial ?_
          refine ae_then ?_
          refine aw_ret ?_
          refine ae_ret hB (I 0) (by kernel_rfl) (.inl (by refine congrArg I ?_; first | exact (chk_1 (by simp [*])).symm | exact (chk_2 (by assumption) (by assumption) (by assumption) (by omega)).symm | exact (chk_5 (by assumption) (by assumption) (by assumption) (by omega) (by omega)).symm | exact (chk_0 (by assumption) (by assumption) (by assumption) (by omega) (by omega)).symm)) rfl (fun _ => trivial)
     ·have hinh4 := (not_congr inB_iff).1 (Bool.eq_false_iff.1 h4)
      refine aw_reg [(4, .call [(true, I e.From), (true, I 0), (true, I e.To)] true (Bv false))] [0, 2, 4, 48] [4] [.ptr false [Sv l.Text, I l.X, I l.Y, I l.Cell], Sv insert, .ref 4 0, Bv true] [some (bxEdit e)] [Con Tryd.prog 48 [I e.From, I 0, I e.To] true (Bv false) ∧ ((I e.From : AV) = I e.From) ∧ ((I 0 : AV) = I 0) ∧ ((I e.To : AV) = I e.To) ∧ True] (by kernel_rfl) hB ⟨⟨(con_bool h4 (l00In_ok e.From 0 e.To)), rfl, rfl, rfl, trivial⟩, trivial⟩ ?_
      refine ae_then ?_
      refine aw_true rfl ?_
      refine aw_seq ?_
      refine aw_reg [] [6] [] [I 2] [] [] (by kernel_rfl) hB trivial ?_
      refine ae_then ?_
      refine aw_ret ?_
      refine ae_ret_then ?_
      refine ae_ret hB (I 2) (by kernel_rfl) (.inl (by refine congrArg I ?_; first | exact (chk_1 (by simp [*])).symm | exact (chk_2 (by assumption) (by assumption) (by assumption) (by omega)).symm | exact (chk_5 (by assumption) (by assumption) (by assumption) (by omega) (by omega)).symm | exact (chk_0 (by assumption) (by assumption) (by assumption) (by omega) (by omega)).symm)) rfl (fun _ => trivial)
    ·have hinh3 := (not_congr inB_iff).1 (Bool.eq_false_iff.1 h3)
     refine aw_reg [(1, .call [(true, .ptr false [Sv l.Text, I l.X, I l.Y, I l.Cell])] true (Bv true)), (5, .call [(true, Sv insert)] true (Bv true)), (11, .call [(true, I e.Kind), (true, I 1), (true, I 3)] true (Bv false))] [0, 2, 4, 20] [4] [.ptr false [Sv l.Text, I l.X, I l.Y, I l.Cell], Sv insert, .ref 4 0, Bv true] [some (bxEdit e)] [Con Tryd.prog 40 [.ptr false [Sv l.Text, I l.X, I l.Y, I l.Cell]] true (Bv true) ∧ ((.ptr false [Sv l.Text, I l.X, I l.Y, I l.Cell] : AV) = .ptr false [Sv l.Text, I l.X, I l.Y, I l.Cell]) ∧ True, Con Tryd.prog 41 [Sv insert] true (Bv true) ∧ ((Sv insert : AV) = Sv insert) ∧ True, Con Tryd.prog 48 [I e.Kind, I 1, I 3] true (Bv false) ∧ ((I e.Kind : AV) = I e.Kind) ∧ ((I 1 : AV) = I 1) ∧ ((I 3 : AV) = I 3) ∧ True] (by kernel_rfl) hB ⟨⟨(con_bool h1 (l23Ok_ok l okl)), rfl, trivial⟩, ⟨(con_bool h2 (l23Letters_ok insert (by omega))), rfl, trivial⟩, ⟨(con_bool h3 (l00In_ok e.Kind 1 3)), rfl, rfl, rfl, trivial⟩, trivial⟩ ?_
     refine ae_then ?_
     refine aw_true rfl ?_
     refine aw_seq ?_
     refine aw_reg [] [6] [] [I 1] [] [] (by kernel_rfl) hB trivial ?_
     refine ae_then ?_
     refine aw_ret ?_
     refine ae_ret_then ?_
     refine ae_ret hB (I 1) (by kernel_rfl) (.inl (by refine congrArg I ?_; first | exact (chk_1 (by simp [*])).symm | exact (chk_2 (by assumption) (by assumption) (by assumption) (by omega)).symm | exact (chk_5 (by assumption) (by assumption) (by assumption) (by omega) (by omega)).symm | exact (chk_0 (by assumption) (by assumption) (by assumption) (by omega) (by omega)).symm)) rfl (fun _ => trivial)
   ·refine aw_reg [(1, .call [(true, .ptr false [Sv l.Text, I l.X, I l.Y, I l.Cell])] true (Bv true)), (5, .call [(true, Sv insert)] true (Bv false))] [0, 2, 4, 20] [4] [.ptr false [Sv l.Text, I l.X, I l.Y, I l.Cell], Sv insert, .ref 4 0, Bv true] [some (bxEdit e)] [Con Tryd.prog 40 [.ptr false [Sv l.Text, I l.X, I l.Y, I l.Cell]] true (Bv true) ∧ ((.ptr false [Sv l.Text, I l.X, I l.Y, I l.Cell] : AV) = .ptr false [Sv l.Text, I l.X, I l.Y, I l.Cell]) ∧ True, Con Tryd.prog 41 [Sv insert] true (Bv false) ∧ ((Sv insert : AV) = Sv insert) ∧ True] (by kernel_rfl) hB ⟨⟨(con_bool h1 (l23Ok_ok l okl)), rfl, trivial⟩, ⟨(con_bool h2 (l23Letters_ok insert (by omega))), rfl, trivial⟩, trivial⟩ ?_
    refine ae_then ?_
    refine aw_true rfl ?_
    refine aw_seq ?_
    refine aw_reg [] [6] [] [I 1] [] [] (by kernel_rfl) hB trivial ?_
    refine ae_then ?_
    refine aw_ret ?_
    refine ae_ret_then ?_
    refine ae_ret hB (I 1) (by kernel_rfl) (.inl (by refine congrArg I ?_; first | exact (chk_1 (by simp [*])).symm | exact (chk_2 (by assumption) (by assumption) (by assumption) (by omega)).symm | exact (chk_5 (by assumption) (by assumption) (by assumption) (by omega) (by omega)).symm | exact (chk_0 (by assumption) (by assumption) (by assumption) (by omega) (by omega)).symm)) rfl (fun _ => trivial)
  ·refine aw_reg [(1, .call [(true, .ptr false [Sv l.Text, I l.X, I l.Y, I l.Cell])] true (Bv false))] [0, 2, 4, 20] [4] [.ptr false [Sv l.Text, I l.X, I l.Y, I l.Cell], Sv insert, .ref 4 0, Bv true] [some (bxEdit e)] [Con Tryd.prog 40 [.ptr false [Sv l.Text, I l.X, I l.Y, I l.Cell]] true (Bv false) ∧ ((.ptr false [Sv l.Text, I l.X, I l.Y, I l.Cell] : AV) = .ptr false [Sv l.Text, I l.X, I l.Y, I l.Cell]) ∧ True] (by kernel_rfl) hB ⟨⟨(con_bool h1 (l23Ok_ok l okl)), rfl, trivial⟩, trivial⟩ ?_
   refine ae_then ?_
   refine aw_true rfl ?_
   refine aw_seq ?_
   refine aw_reg [] [6] [] [I 1] [] [] (by kernel_rfl) hB trivial ?_
   refine ae_then ?_
   refine aw_ret ?_
   refine ae_ret_then ?_
   refine ae_ret hB (I 1) (by kernel_rfl) (.inl (by refine congrArg I ?_; first | exact (chk_1 (by simp [*])).symm | exact (chk_2 (by assumption) (by assumption) (by assumption) (by omega)).symm | exact (chk_5 (by assumption) (by assumption) (by assumption) (by omega) (by omega)).symm | exact (chk_0 (by assumption) (by assumption) (by assumption) (by omega) (by omega)).symm)) rfl (fun _ => trivial)


-- spec.l23Apply
theorem l23Apply_ok (l : CellRow) (e : Edit) (insert : ByteArray) (okl : l.Text.size ≤ 9223372036854775807) (oki : insert.size ≤ 1048576) (hck0 : chkI l e insert = 0) : Con Tryd.prog 45 [agCellRow l, agEdit e, Sv insert] true (agCellRow (applyL l e insert)) := by
  have hck := chk_ok hck0
  have hr := okRow_iff.1 hck.1
  refine fn_ok (fn := Tryd.f45) (nt := 25) Tryd.func45 rfl rfl rfl rfl (by simp [taggedL, tagged]) fun B hB => ?_
  refine aw_seq ?_
  refine aw_reg [(0, .new 3), (1, .new 4), (2, .new 6)] [2, 3, 4, 6] [3, 4, 6] [Sv insert, .ref 3 0, .ref 4 0, .ref 6 0] [some (bxCellRow l), some (bxEdit e), some (.box [Sv (⟨#[]⟩ : ByteArray), I 0, I 0, I 0])] [] (by kernel_rfl) hB trivial ?_
  refine ae_then ?_
  refine aw_seq ?_
  refine aw_seq ?_
  by_cases h1 : e.Kind = 1
  ·refine aw_reg [(2, .dec true)] [2, 3, 4, 6, 9] [3, 4, 6] [Sv insert, .ref 3 0, .ref 4 0, .ref 6 0, Bv true] [some (bxCellRow l), some (bxEdit e), some (.box [Sv (⟨#[]⟩ : ByteArray), I 0, I 0, I 0])] [e.Kind = 1] (by kernel_rfl) hB ⟨h1, trivial⟩ ?_
   refine ae_then ?_
   refine aw_true rfl ?_
   refine aw_reg [] [2, 3, 4, 6] [3, 4, 6] [Sv (⟨#[]⟩ : ByteArray), .ref 3 0, .ref 4 0, .ref 6 0] [some (bxCellRow l), some (bxEdit e), some (.box [Sv (⟨#[]⟩ : ByteArray), I 0, I 0, I 0])] [] (by kernel_rfl) hB trivial ?_
   refine ae_then ?_
   refine aw_seq ?_
   refine aw_reg [] [3, 6] [3, 6] [.ref 3 0, .ref 6 0] [some (.box [Sv (((l.Text.extract 0 e.From.toNat) ++ (⟨#[]⟩ : ByteArray)) ++ (l.Text.extract e.To.toNat (l.Text.size : Int).toNat)), I l.X, I l.Y, I l.Cell]), some (.box [Sv (⟨#[]⟩ : ByteArray), I 0, I 0, I 0])] [(0 : Int) ≤ 0 ∧ (0 : Int) ≤ e.From ∧ e.From ≤ (l.Text.size : Int), (l.Text.extract 0 e.From.toNat).size + (⟨#[]⟩ : ByteArray).size ≤ 9223372036854775807, (0 : Int) ≤ e.To ∧ e.To ≤ (l.Text.size : Int) ∧ (l.Text.size : Int) ≤ (l.Text.size : Int), ((l.Text.extract 0 e.From.toNat) ++ (⟨#[]⟩ : ByteArray)).size + (l.Text.extract e.To.toNat (l.Text.size : Int).toNat).size ≤ 9223372036854775807] (by kernel_rfl) hB ⟨⟨(by omega), (by omega), (by omega)⟩, (by first | omega | (simp only [ByteArray.size_append, ba_ext, ba_nil]; omega)), ⟨(by omega), (by omega), (by omega)⟩, (by first | omega | (simp only [ByteArray.size_append, ba_ext, ba_nil]; omega)), trivial⟩ ?_
   refine ae_then ?_
   refine aw_seq ?_
   refine aw_reg [] [6] [6] [.ref 6 0] [some (.box [Sv (((l.Text.extract 0 e.From.toNat) ++ (⟨#[]⟩ : ByteArray)) ++ (l.Text.extract e.To.toNat (l.Text.size : Int).toNat)), I l.X, I l.Y, I l.Cell])] [] (by kernel_rfl) hB trivial ?_
   refine ae_then ?_
   refine aw_ret ?_
   refine ae_ret hB (.agg [Sv (((l.Text.extract 0 e.From.toNat) ++ (⟨#[]⟩ : ByteArray)) ++ (l.Text.extract e.To.toNat (l.Text.size : Int).toNat)), I l.X, I l.Y, I l.Cell]) (by kernel_rfl) (.inl (by simp [applyL, applyT, *])) rfl (fun _ => (by simp [tagged, taggedL]))
  ·refine aw_reg [(2, .dec false)] [2, 3, 4, 6, 9] [3, 4, 6] [Sv insert, .ref 3 0, .ref 4 0, .ref 6 0, Bv false] [some (bxCellRow l), some (bxEdit e), some (.box [Sv (⟨#[]⟩ : ByteArray), I 0, I 0, I 0])] [¬ (e.Kind = 1)] (by kernel_rfl) hB ⟨h1, trivial⟩ ?_
   refine ae_then ?_
   refine aw_false rfl ?_
   refine aw_skip ?_
   refine ae_then ?_
   refine aw_seq ?_
   refine aw_reg [] [3, 6] [3, 6] [.ref 3 0, .ref 6 0] [some (.box [Sv (((l.Text.extract 0 e.From.toNat) ++ insert) ++ (l.Text.extract e.To.toNat (l.Text.size : Int).toNat)), I l.X, I l.Y, I l.Cell]), some (.box [Sv (⟨#[]⟩ : ByteArray), I 0, I 0, I 0])] [(0 : Int) ≤ 0 ∧ (0 : Int) ≤ e.From ∧ e.From ≤ (l.Text.size : Int), (l.Text.extract 0 e.From.toNat).size + insert.size ≤ 9223372036854775807, (0 : Int) ≤ e.To ∧ e.To ≤ (l.Text.size : Int) ∧ (l.Text.size : Int) ≤ (l.Text.size : Int), ((l.Text.extract 0 e.From.toNat) ++ insert).size + (l.Text.extract e.To.toNat (l.Text.size : Int).toNat).size ≤ 9223372036854775807] (by kernel_rfl) hB ⟨⟨(by omega), (by omega), (by omega)⟩, (by first | omega | (simp only [ByteArray.size_append, ba_ext, ba_nil]; omega)), ⟨(by omega), (by omega), (by omega)⟩, (by first | omega | (simp only [ByteArray.size_append, ba_ext, ba_nil]; omega)), trivial⟩ ?_
   refine ae_then ?_
   refine aw_seq ?_
   refine aw_reg [] [6] [6] [.ref 6 0] [some (.box [Sv (((l.Text.extract 0 e.From.toNat) ++ insert) ++ (l.Text.extract e.To.toNat (l.Text.size : Int).toNat)), I l.X, I l.Y, I l.Cell])] [] (by kernel_rfl) hB trivial ?_
   refine ae_then ?_
   refine aw_ret ?_
   refine ae_ret hB (.agg [Sv (((l.Text.extract 0 e.From.toNat) ++ insert) ++ (l.Text.extract e.To.toNat (l.Text.size : Int).toNat)), I l.X, I l.Y, I l.Cell]) (by kernel_rfl) (.inl (by simp [applyL, applyT, *])) rfl (fun _ => (by simp [tagged, taggedL]))


-- spec.RunGestures
set_option maxHeartbeats 2000000 in
theorem specRunGestures_ok (l : CellRow) (strokes : List Stroke) (insert : ByteArray) (okl : l.Text.size ≤ 9223372036854775807) (oki : insert.size ≤ 1048576) : Con Tryd.prog 17 [agCellRow l, slStroke false strokes, Sv insert] true (.tup [agCellRow ((runR l strokes insert).1), I ((runR l strokes insert).2.1), I ((runR l strokes insert).2.2)]) := by
  refine fn_ok (fn := Tryd.f17) (nt := 62) Tryd.func17 rfl rfl rfl rfl (by simp [taggedL, tagged, tagStroke]) fun B hB => ?_
  refine aw_lens (x := slStroke false strokes) 1 rfl (fun len_strokes => ?_)
  simp [LenOK, LenL, cPoint, cStroke, fPoint, fStroke, slPoint, slStroke] at len_strokes
  refine aw_seq ?_
  refine aw_reg [(0, .new 3), (1, .new 6)] [1, 2, 3, 6] [3, 6] [slStroke false strokes, Sv insert, .ref 3 0, .ref 6 0] [some (bxCellRow l), some (.box [Sv (⟨#[]⟩ : ByteArray), I 0, I 0, I 0])] [] (by kernel_rfl) hB trivial ?_
  refine ae_then ?_
  refine aw_seq ?_
  refine aw_seq ?_
  rcases Bool.eq_false_or_eq_true (okRow l) with h1 | h1
  ·rcases Bool.eq_false_or_eq_true (lettersB insert) with h2 | h2
   ·refine aw_reg [(0, .call [(false, .ptr false [Sv l.Text, I l.X, I l.Y, I l.Cell])] true (Bv true)), (4, .call [(true, Sv insert)] true (Bv true))] [1, 2, 3, 6, 20] [3, 6] [slStroke false strokes, Sv insert, .ref 3 0, .ref 6 0, Bv false] [some (bxCellRow l), some (.box [Sv (⟨#[]⟩ : ByteArray), I 0, I 0, I 0])] [Con Tryd.prog 40 [.ptr false [Sv l.Text, I l.X, I l.Y, I l.Cell]] true (Bv true) ∧ ((false = true → true = true) ∧ AV.idsL [Sv l.Text, I l.X, I l.Y, I l.Cell] = [] ∧ (valOf (Sv l.Text) = valOf (Sv l.Text)) ∧ (valOf (I l.X) = valOf (I l.X)) ∧ (valOf (I l.Y) = valOf (I l.Y)) ∧ (valOf (I l.Cell) = valOf (I l.Cell)) ∧ ([] : List AV) = []) ∧ True, Con Tryd.prog 41 [Sv insert] true (Bv true) ∧ ((Sv insert : AV) = Sv insert) ∧ True] (by kernel_rfl) hB ⟨⟨(con_bool h1 (l23Ok_ok l okl)), ⟨(fun h => by cases h), rfl, ⟨rfl, ⟨rfl, ⟨rfl, ⟨rfl, rfl⟩⟩⟩⟩⟩, trivial⟩, ⟨(con_bool h2 (l23Letters_ok insert (by omega))), rfl, trivial⟩, trivial⟩ ?_
    refine ae_then ?_
    refine aw_false rfl ?_
    refine aw_skip ?_
    refine ae_then ?_
    refine aw_seq ?_
    refine aw_seq ?_
    refine aw_reg [] [1, 2, 3, 6, 9] [3, 6] [slStroke false strokes, Sv insert, .ref 3 0, .ref 6 0, I 0] [some (bxCellRow l), some (.box [Sv (⟨#[]⟩ : ByteArray), I 0, I 0, I 0])] [] (by kernel_rfl) hB trivial ?_
    refine ae_then ?_
    refine aw_block ?_
    refine aw_loop (fun gn gσ => ∃ (i : Int) (b6_0 : ByteArray) (b6_1 : Int) (b6_2 : Int) (b6_3 : Int), gn = ((strokes.length : Int) - i).toNat ∧ (0 ≤ i ∧ i ≤ (strokes.length : Int)) ∧ (∀ j : Nat, (j : Int) < i → okStroke' (at_ strokes j) = true) ∧ gσ = mkS [(1, slStroke false strokes), (2, Sv insert), (3, .ref 3 0), (6, .ref 6 0), (9, I i)] [(3, bxCellRow l), (6, .box [Sv b6_0, I b6_1, I b6_2, I b6_3])]) (((strokes.length : Int) - 0).toNat) ⟨0, (⟨#[]⟩ : ByteArray), 0, 0, 0, rfl, (by omega), (by intro j hj; omega), rfl⟩ (fun gn gσ hI => ?_)
    obtain ⟨i, b6_0, b6_1, b6_2, b6_3, rfl, hi0, hall0, rfl⟩ := hI
    refine aw_seq ?_
    refine aw_seq ?_
    by_cases h3 : i < (strokes.length : Int)
    ·have hi : i.toNat < strokes.length := by omega
     refine aw_reg [(3, .dec true)] [1, 2, 3, 6, 9, 25] [3, 6] [slStroke false strokes, Sv insert, .ref 3 0, .ref 6 0, I i, Bv true] [some (bxCellRow l), some (.box [Sv b6_0, I b6_1, I b6_2, I b6_3])] [i < (strokes.length : Int)] (by kernel_rfl) hB ⟨h3, trivial⟩ ?_
     refine ae_then ?_
     refine aw_true rfl ?_
     refine aw_skip ?_
     refine ae_then ?_
     refine aw_seq ?_
     refine aw_block ?_
     refine aw_seq ?_
     rcases Bool.eq_false_or_eq_true (okStroke' (at_ strokes i.toNat)) with h4 | h4
     ·refine aw_reg [(3, .call [(true, .ptr false [slPoint false ((at_ strokes i.toNat).Points)])] true (Bv true))] [1, 2, 3, 6, 9, 32] [3, 6] [slStroke false strokes, Sv insert, .ref 3 0, .ref 6 0, I i, Bv false] [some (bxCellRow l), some (.box [Sv b6_0, I b6_1, I b6_2, I b6_3])] [(0 : Int) ≤ i ∧ i < (strokes.length : Int), Con Tryd.prog 42 [.ptr false [slPoint false ((at_ strokes i.toNat).Points)]] true (Bv true) ∧ ((.ptr false [slPoint false ((at_ strokes i.toNat).Points)] : AV) = .ptr false [slPoint false ((at_ strokes i.toNat).Points)]) ∧ True] (by kernel_rfl) hB ⟨⟨(by omega), (by omega)⟩, ⟨(con_bool h4 (l02Stroke_ok (at_ strokes i.toNat))), rfl, trivial⟩, trivial⟩ ?_
      refine ae_then ?_
      refine aw_false rfl ?_
      refine aw_skip ?_
      refine ae_block 1 ?_
      refine ae_then ?_
      refine aw_reg [] [1, 2, 3, 6, 9] [3, 6] [slStroke false strokes, Sv insert, .ref 3 0, .ref 6 0, I (i + 1)] [some (bxCellRow l), some (.box [Sv b6_0, I b6_1, I b6_2, I b6_3])] [inR .i64 (i + 1)] (by kernel_rfl) hB ⟨(inR_i64 (by omega) (by omega)), trivial⟩ ?_
      exact ae_again _ (by omega) ⟨(i + 1), b6_0, b6_1, b6_2, b6_3, rfl, (by omega), (by intro j hj; by_cases ej : j = i.toNat; (subst ej; first | assumption | exact hok); exact hall0 j (by omega)), rfl⟩
     ·have hall : allN strokes.length (fun j => okStroke' (at_ strokes j)) = false := allN_not hi h4
      refine aw_reg [(3, .call [(true, .ptr false [slPoint false ((at_ strokes i.toNat).Points)])] true (Bv false))] [1, 2, 3, 6, 9, 32] [3, 6] [slStroke false strokes, Sv insert, .ref 3 0, .ref 6 0, I i, Bv true] [some (bxCellRow l), some (.box [Sv b6_0, I b6_1, I b6_2, I b6_3])] [(0 : Int) ≤ i ∧ i < (strokes.length : Int), Con Tryd.prog 42 [.ptr false [slPoint false ((at_ strokes i.toNat).Points)]] true (Bv false) ∧ ((.ptr false [slPoint false ((at_ strokes i.toNat).Points)] : AV) = .ptr false [slPoint false ((at_ strokes i.toNat).Points)]) ∧ True] (by kernel_rfl) hB ⟨⟨(by omega), (by omega)⟩, ⟨(con_bool h4 (l02Stroke_ok (at_ strokes i.toNat))), rfl, trivial⟩, trivial⟩ ?_
      refine ae_then ?_
      refine aw_true rfl ?_
      refine aw_seq ?_
      refine aw_reg [] [6, 7, 8] [6] [.ref 6 0, I 0, I 1] [some (.box [Sv (⟨#[]⟩ : ByteArray), I 0, I 0, I 0])] [] (by kernel_rfl) hB trivial ?_
      refine ae_then ?_
      refine aw_ret ?_
      refine ae_ret_block (ae_ret_then (ae_ret_then (ae_ret_block (ae_ret_then ?_))))
      refine ae_ret hB (.tup [.agg [Sv (⟨#[]⟩ : ByteArray), I 0, I 0, I 0], I 0, I 1]) (by kernel_rfl) (.inl (by first | (rw [runR_yes (by assumption) (by assumption) (by assumption), hg1]; rfl) | (rw [runR_yes (by assumption) (by assumption) (by assumption), hfull]; rfl) | (rw [runR_no (by simp [*])]; done))) rfl (fun _ => (by simp [tagged, taggedL]))
    ·have hall : allN strokes.length (fun j => okStroke' (at_ strokes j)) = true := allN_at (fun j hj => hall0 j (by omega))
     refine aw_reg [(3, .dec false)] [1, 2, 3, 6, 9, 25] [3, 6] [slStroke false strokes, Sv insert, .ref 3 0, .ref 6 0, I i, Bv false] [some (bxCellRow l), some (.box [Sv b6_0, I b6_1, I b6_2, I b6_3])] [¬ (i < (strokes.length : Int))] (by kernel_rfl) hB ⟨h3, trivial⟩ ?_
     refine ae_then ?_
     refine aw_false rfl ?_
     refine aw_exit ?_
     refine ae_exit_then ?_
     refine ae_exit_then ?_
     refine ae_exit_same ?_
     refine ae_then ?_
     refine aw_seq ?_
     refine aw_reg [] [1, 2, 3, 6, 10] [3, 6] [slStroke false strokes, Sv insert, .ref 3 0, .ref 6 0, I 0] [some (bxCellRow l), some (.box [Sv b6_0, I b6_1, I b6_2, I b6_3])] [] (by kernel_rfl) hB trivial ?_
     refine ae_then ?_
     refine aw_seq ?_
     refine aw_seq ?_
     refine aw_reg [] [1, 2, 3, 6, 10, 11] [3, 6] [slStroke false strokes, Sv insert, .ref 3 0, .ref 6 0, I 0, I 0] [some (bxCellRow l), some (.box [Sv b6_0, I b6_1, I b6_2, I b6_3])] [] (by kernel_rfl) hB trivial ?_
     refine ae_then ?_
     refine aw_block ?_
     refine aw_loop (fun gn gσ => ∃ (n : Int) (i' : Int) (b6_0' : ByteArray) (b6_1' : Int) (b6_2' : Int) (b6_3' : Int) (tx_ : ByteArray) (lx_ : Int) (ly_ : Int) (lc_ : Int), gn = ((strokes.length : Int) - i').toNat ∧ (0 ≤ i' ∧ i' ≤ (strokes.length : Int)) ∧ (runG l strokes insert i'.toNat = some ((CellRow.mk tx_ lx_ ly_ lc_), n)) ∧ (okRow (CellRow.mk tx_ lx_ ly_ lc_) = true) ∧ (0 ≤ n ∧ n ≤ i') ∧ gσ = mkS [(1, slStroke false strokes), (2, Sv insert), (3, .ref 3 0), (6, .ref 6 0), (10, I n), (11, I i')] [(3, .box [Sv tx_, I lx_, I ly_, I lc_]), (6, .box [Sv b6_0', I b6_1', I b6_2', I b6_3'])]) (((strokes.length : Int) - 0).toNat) ⟨0, 0, b6_0, b6_1, b6_2, b6_3, l.Text, l.X, l.Y, l.Cell, rfl, (by omega), (by rfl), (by assumption), (by omega), rfl⟩ (fun gn gσ hI => ?_)
     obtain ⟨n, i', b6_0', b6_1', b6_2', b6_3', tx_, lx_, ly_, lc_, rfl, hj0, hg1, hg2, hg3, rfl⟩ := hI
     refine aw_seq ?_
     refine aw_seq ?_
     by_cases h5 : i' < (strokes.length : Int)
     ·have hi : i'.toNat < strokes.length := by omega
      have hst := allN_get hall (k := i'.toNat) hi
      have hrr := okRow_iff.1 hg2
      have hrs : tx_.size ≤ 9223372036854775807 := by have := hrr.2.1; simp only at this; omega
      have hee := editOf_eq (s := at_ strokes i'.toNat) hg2 hst
      refine aw_reg [(3, .dec true)] [1, 2, 3, 6, 10, 11, 37] [3, 6] [slStroke false strokes, Sv insert, .ref 3 0, .ref 6 0, I n, I i', Bv true] [some (.box [Sv tx_, I lx_, I ly_, I lc_]), some (.box [Sv b6_0', I b6_1', I b6_2', I b6_3'])] [i' < (strokes.length : Int)] (by kernel_rfl) hB ⟨h5, trivial⟩ ?_
      refine ae_then ?_
      refine aw_true rfl ?_
      refine aw_skip ?_
      refine ae_then ?_
      refine aw_seq ?_
      refine aw_block ?_
      refine aw_seq ?_
      refine aw_reg [(3, .call [(false, .ptr false [Sv tx_, I lx_, I ly_, I lc_]), (true, .ptr false [slPoint false ((at_ strokes i'.toNat).Points)])] true (.tup [agEdit ((editR (CellRow.mk tx_ lx_ ly_ lc_) (at_ strokes i'.toNat)).1), I ((editR (CellRow.mk tx_ lx_ ly_ lc_) (at_ strokes i'.toNat)).2)])), (7, .new 12)] [1, 2, 3, 6, 10, 11, 12, 13] [3, 6, 12] [slStroke false strokes, Sv insert, .ref 3 0, .ref 6 0, I n, I i', .ref 12 0, I ((editR (CellRow.mk tx_ lx_ ly_ lc_) (at_ strokes i'.toNat)).2)] [some (.box [Sv tx_, I lx_, I ly_, I lc_]), some (.box [Sv b6_0', I b6_1', I b6_2', I b6_3']), some (bxEdit ((editR (CellRow.mk tx_ lx_ ly_ lc_) (at_ strokes i'.toNat)).1))] [(0 : Int) ≤ i' ∧ i' < (strokes.length : Int), Con Tryd.prog 43 [.ptr false [Sv tx_, I lx_, I ly_, I lc_], .ptr false [slPoint false ((at_ strokes i'.toNat).Points)]] true (.tup [agEdit ((editR (CellRow.mk tx_ lx_ ly_ lc_) (at_ strokes i'.toNat)).1), I ((editR (CellRow.mk tx_ lx_ ly_ lc_) (at_ strokes i'.toNat)).2)]) ∧ ((false = true → true = true) ∧ AV.idsL [Sv tx_, I lx_, I ly_, I lc_] = [] ∧ (valOf (Sv tx_) = valOf (Sv tx_)) ∧ (valOf (I lx_) = valOf (I lx_)) ∧ (valOf (I ly_) = valOf (I ly_)) ∧ (valOf (I lc_) = valOf (I lc_)) ∧ ([] : List AV) = []) ∧ ((.ptr false [slPoint false ((at_ strokes i'.toNat).Points)] : AV) = .ptr false [slPoint false ((at_ strokes i'.toNat).Points)]) ∧ True] (by kernel_rfl) hB ⟨⟨(by omega), (by omega)⟩, ⟨(l23Edit_ok (CellRow.mk tx_ lx_ ly_ lc_) (at_ strokes i'.toNat) hg2 hst), ⟨(fun h => by cases h), rfl, ⟨rfl, ⟨rfl, ⟨rfl, ⟨rfl, rfl⟩⟩⟩⟩⟩, rfl, trivial⟩, trivial⟩ ?_
      refine ae_then ?_
      refine aw_seq ?_
      refine aw_seq ?_
      by_cases h6 : ((editR (CellRow.mk tx_ lx_ ly_ lc_) (at_ strokes i'.toNat)).2) = 0
      ·have qh6 := h6
       rw [← hee] at qh6
       refine aw_reg [(1, .dec false)] [1, 2, 3, 6, 10, 11, 12, 48] [3, 6, 12] [slStroke false strokes, Sv insert, .ref 3 0, .ref 6 0, I n, I i', .ref 12 0, Bv false] [some (.box [Sv tx_, I lx_, I ly_, I lc_]), some (.box [Sv b6_0', I b6_1', I b6_2', I b6_3']), some (bxEdit ((editR (CellRow.mk tx_ lx_ ly_ lc_) (at_ strokes i'.toNat)).1))] [¬ (((editR (CellRow.mk tx_ lx_ ly_ lc_) (at_ strokes i'.toNat)).2) ≠ 0)] (by kernel_rfl) hB ⟨(fun hq => hq h6), trivial⟩ ?_
       refine ae_then ?_
       refine aw_false rfl ?_
       refine aw_skip ?_
       refine ae_then ?_
       refine aw_seq ?_
       refine aw_seq ?_
       by_cases h7 : (chkI (CellRow.mk tx_ lx_ ly_ lc_) ((editR (CellRow.mk tx_ lx_ ly_ lc_) (at_ strokes i'.toNat)).1) insert) = 0
       ·have qh7 := h7
        rw [← hee] at qh7
        have hstep := runG_step hj0.1 hg1 (by assumption) qh7
        have hokn := applyL_ok qh7
        rw [hee] at hstep hokn
        refine aw_reg [(2, .call [(false, .ptr false [Sv tx_, I lx_, I ly_, I lc_]), (true, agEdit ((editR (CellRow.mk tx_ lx_ ly_ lc_) (at_ strokes i'.toNat)).1)), (true, Sv insert)] true (I (chkI (CellRow.mk tx_ lx_ ly_ lc_) ((editR (CellRow.mk tx_ lx_ ly_ lc_) (at_ strokes i'.toNat)).1) insert))), (3, .dec false)] [1, 2, 3, 6, 10, 11, 12, 52] [3, 6, 12] [slStroke false strokes, Sv insert, .ref 3 0, .ref 6 0, I n, I i', .ref 12 0, Bv false] [some (.box [Sv tx_, I lx_, I ly_, I lc_]), some (.box [Sv b6_0', I b6_1', I b6_2', I b6_3']), some (bxEdit ((editR (CellRow.mk tx_ lx_ ly_ lc_) (at_ strokes i'.toNat)).1))] [Con Tryd.prog 44 [.ptr false [Sv tx_, I lx_, I ly_, I lc_], agEdit ((editR (CellRow.mk tx_ lx_ ly_ lc_) (at_ strokes i'.toNat)).1), Sv insert] true (I (chkI (CellRow.mk tx_ lx_ ly_ lc_) ((editR (CellRow.mk tx_ lx_ ly_ lc_) (at_ strokes i'.toNat)).1) insert)) ∧ ((false = true → true = true) ∧ AV.idsL [Sv tx_, I lx_, I ly_, I lc_] = [] ∧ (valOf (Sv tx_) = valOf (Sv tx_)) ∧ (valOf (I lx_) = valOf (I lx_)) ∧ (valOf (I ly_) = valOf (I ly_)) ∧ (valOf (I lc_) = valOf (I lc_)) ∧ ([] : List AV) = []) ∧ ((agEdit ((editR (CellRow.mk tx_ lx_ ly_ lc_) (at_ strokes i'.toNat)).1) : AV) = agEdit ((editR (CellRow.mk tx_ lx_ ly_ lc_) (at_ strokes i'.toNat)).1)) ∧ ((Sv insert : AV) = Sv insert) ∧ True, ¬ ((chkI (CellRow.mk tx_ lx_ ly_ lc_) ((editR (CellRow.mk tx_ lx_ ly_ lc_) (at_ strokes i'.toNat)).1) insert) ≠ 0)] (by kernel_rfl) hB ⟨⟨(l23Check_ok (CellRow.mk tx_ lx_ ly_ lc_) ((editR (CellRow.mk tx_ lx_ ly_ lc_) (at_ strokes i'.toNat)).1) insert hrs oki), ⟨(fun h => by cases h), rfl, ⟨rfl, ⟨rfl, ⟨rfl, ⟨rfl, rfl⟩⟩⟩⟩⟩, rfl, rfl, trivial⟩, (fun hq => hq h7), trivial⟩ ?_
        refine ae_then ?_
        refine aw_false rfl ?_
        refine aw_skip ?_
        refine ae_then ?_
        refine aw_seq ?_
        refine aw_reg [(3, .call [(true, .agg [Sv tx_, I lx_, I ly_, I lc_]), (true, agEdit ((editR (CellRow.mk tx_ lx_ ly_ lc_) (at_ strokes i'.toNat)).1)), (true, Sv insert)] true (agCellRow (applyL (CellRow.mk tx_ lx_ ly_ lc_) ((editR (CellRow.mk tx_ lx_ ly_ lc_) (at_ strokes i'.toNat)).1) insert)))] [1, 2, 3, 6, 10, 11] [3, 6] [slStroke false strokes, Sv insert, .ref 3 0, .ref 6 0, I n, I i'] [some (bxCellRow (applyL (CellRow.mk tx_ lx_ ly_ lc_) ((editR (CellRow.mk tx_ lx_ ly_ lc_) (at_ strokes i'.toNat)).1) insert)), some (.box [Sv b6_0', I b6_1', I b6_2', I b6_3'])] [Con Tryd.prog 45 [.agg [Sv tx_, I lx_, I ly_, I lc_], agEdit ((editR (CellRow.mk tx_ lx_ ly_ lc_) (at_ strokes i'.toNat)).1), Sv insert] true (agCellRow (applyL (CellRow.mk tx_ lx_ ly_ lc_) ((editR (CellRow.mk tx_ lx_ ly_ lc_) (at_ strokes i'.toNat)).1) insert)) ∧ ((.agg [Sv tx_, I lx_, I ly_, I lc_] : AV) = .agg [Sv tx_, I lx_, I ly_, I lc_]) ∧ ((agEdit ((editR (CellRow.mk tx_ lx_ ly_ lc_) (at_ strokes i'.toNat)).1) : AV) = agEdit ((editR (CellRow.mk tx_ lx_ ly_ lc_) (at_ strokes i'.toNat)).1)) ∧ ((Sv insert : AV) = Sv insert) ∧ True] (by kernel_rfl) hB ⟨⟨(l23Apply_ok (CellRow.mk tx_ lx_ ly_ lc_) ((editR (CellRow.mk tx_ lx_ ly_ lc_) (at_ strokes i'.toNat)).1) insert hrs oki (by assumption)), rfl, rfl, rfl, trivial⟩, trivial⟩ ?_
        refine ae_then ?_
        refine aw_reg [] [1, 2, 3, 6, 10, 11] [3, 6] [slStroke false strokes, Sv insert, .ref 3 0, .ref 6 0, I (n + 1), I i'] [some (bxCellRow (applyL (CellRow.mk tx_ lx_ ly_ lc_) ((editR (CellRow.mk tx_ lx_ ly_ lc_) (at_ strokes i'.toNat)).1) insert)), some (.box [Sv b6_0', I b6_1', I b6_2', I b6_3'])] [inR .i64 (n + 1)] (by kernel_rfl) hB ⟨(inR_i64 (by omega) (by omega)), trivial⟩ ?_
        refine ae_block 3 ?_
        refine ae_then ?_
        refine aw_reg [] [1, 2, 3, 6, 10, 11] [3, 6] [slStroke false strokes, Sv insert, .ref 3 0, .ref 6 0, I (n + 1), I (i' + 1)] [some (bxCellRow (applyL (CellRow.mk tx_ lx_ ly_ lc_) ((editR (CellRow.mk tx_ lx_ ly_ lc_) (at_ strokes i'.toNat)).1) insert)), some (.box [Sv b6_0', I b6_1', I b6_2', I b6_3'])] [inR .i64 (i' + 1)] (by kernel_rfl) hB ⟨(inR_i64 (by omega) (by omega)), trivial⟩ ?_
        refine ae_weak hB [] (T := [(1, slStroke false strokes), (2, Sv insert), (3, .ref 3 0), (6, .ref 6 0), (10, I (n + 1)), (11, I (i' + 1))]) (O := [(3, .box [Sv ((applyL (CellRow.mk tx_ lx_ ly_ lc_) ((editR (CellRow.mk tx_ lx_ ly_ lc_) (at_ strokes i'.toNat)).1) insert).Text), I ((applyL (CellRow.mk tx_ lx_ ly_ lc_) ((editR (CellRow.mk tx_ lx_ ly_ lc_) (at_ strokes i'.toNat)).1) insert).X), I ((applyL (CellRow.mk tx_ lx_ ly_ lc_) ((editR (CellRow.mk tx_ lx_ ly_ lc_) (at_ strokes i'.toNat)).1) insert).Y), I ((applyL (CellRow.mk tx_ lx_ ly_ lc_) ((editR (CellRow.mk tx_ lx_ ly_ lc_) (at_ strokes i'.toNat)).1) insert).Cell)]), (6, .box [Sv b6_0', I b6_1', I b6_2', I b6_3'])]) rfl (⟨.inl rfl, .inl rfl, .inl rfl, .inl rfl, .inl rfl, .inl rfl, trivial⟩) (⟨.inr ⟨rfl, ⟨rfl, ⟨rfl, ⟨rfl, rfl⟩⟩⟩⟩, .inl rfl, trivial⟩) (ae_again _ (by omega) ⟨(n + 1), (i' + 1), b6_0', b6_1', b6_2', b6_3', (applyL (CellRow.mk tx_ lx_ ly_ lc_) ((editR (CellRow.mk tx_ lx_ ly_ lc_) (at_ strokes i'.toNat)).1) insert).Text, (applyL (CellRow.mk tx_ lx_ ly_ lc_) ((editR (CellRow.mk tx_ lx_ ly_ lc_) (at_ strokes i'.toNat)).1) insert).X, (applyL (CellRow.mk tx_ lx_ ly_ lc_) ((editR (CellRow.mk tx_ lx_ ly_ lc_) (at_ strokes i'.toNat)).1) insert).Y, (applyL (CellRow.mk tx_ lx_ ly_ lc_) ((editR (CellRow.mk tx_ lx_ ly_ lc_) (at_ strokes i'.toNat)).1) insert).Cell, rfl, (by omega), (by first | exact runG_skip hj0.1 hg1 (by assumption) | exact hstep), (by first | exact hg2 | exact hokn), (by omega), rfl⟩)
       ·have qh7 := h7
        rw [← hee] at qh7
        have hfull := runG_none (runG_full hj0.1 hg1 (by assumption) qh7) (m := strokes.length) (by omega)
        refine aw_reg [(2, .call [(false, .ptr false [Sv tx_, I lx_, I ly_, I lc_]), (true, agEdit ((editR (CellRow.mk tx_ lx_ ly_ lc_) (at_ strokes i'.toNat)).1)), (true, Sv insert)] true (I (chkI (CellRow.mk tx_ lx_ ly_ lc_) ((editR (CellRow.mk tx_ lx_ ly_ lc_) (at_ strokes i'.toNat)).1) insert))), (3, .dec true)] [1, 2, 3, 6, 10, 11, 12, 52] [3, 6, 12] [slStroke false strokes, Sv insert, .ref 3 0, .ref 6 0, I n, I i', .ref 12 0, Bv true] [some (.box [Sv tx_, I lx_, I ly_, I lc_]), some (.box [Sv b6_0', I b6_1', I b6_2', I b6_3']), some (bxEdit ((editR (CellRow.mk tx_ lx_ ly_ lc_) (at_ strokes i'.toNat)).1))] [Con Tryd.prog 44 [.ptr false [Sv tx_, I lx_, I ly_, I lc_], agEdit ((editR (CellRow.mk tx_ lx_ ly_ lc_) (at_ strokes i'.toNat)).1), Sv insert] true (I (chkI (CellRow.mk tx_ lx_ ly_ lc_) ((editR (CellRow.mk tx_ lx_ ly_ lc_) (at_ strokes i'.toNat)).1) insert)) ∧ ((false = true → true = true) ∧ AV.idsL [Sv tx_, I lx_, I ly_, I lc_] = [] ∧ (valOf (Sv tx_) = valOf (Sv tx_)) ∧ (valOf (I lx_) = valOf (I lx_)) ∧ (valOf (I ly_) = valOf (I ly_)) ∧ (valOf (I lc_) = valOf (I lc_)) ∧ ([] : List AV) = []) ∧ ((agEdit ((editR (CellRow.mk tx_ lx_ ly_ lc_) (at_ strokes i'.toNat)).1) : AV) = agEdit ((editR (CellRow.mk tx_ lx_ ly_ lc_) (at_ strokes i'.toNat)).1)) ∧ ((Sv insert : AV) = Sv insert) ∧ True, (chkI (CellRow.mk tx_ lx_ ly_ lc_) ((editR (CellRow.mk tx_ lx_ ly_ lc_) (at_ strokes i'.toNat)).1) insert) ≠ 0] (by kernel_rfl) hB ⟨⟨(l23Check_ok (CellRow.mk tx_ lx_ ly_ lc_) ((editR (CellRow.mk tx_ lx_ ly_ lc_) (at_ strokes i'.toNat)).1) insert hrs oki), ⟨(fun h => by cases h), rfl, ⟨rfl, ⟨rfl, ⟨rfl, ⟨rfl, rfl⟩⟩⟩⟩⟩, rfl, rfl, trivial⟩, h7, trivial⟩ ?_
        refine ae_then ?_
        refine aw_true rfl ?_
        refine aw_seq ?_
        refine aw_reg [] [6, 7, 8] [6] [.ref 6 0, I 0, I 5] [some (.box [Sv (⟨#[]⟩ : ByteArray), I 0, I 0, I 0])] [] (by kernel_rfl) hB trivial ?_
        refine ae_then ?_
        refine aw_ret ?_
        refine ae_ret_then (ae_ret_block (ae_ret_then (ae_ret_then (ae_ret_block (ae_ret_then ?_)))))
        refine ae_ret hB (.tup [.agg [Sv (⟨#[]⟩ : ByteArray), I 0, I 0, I 0], I 0, I 5]) (by kernel_rfl) (.inl (by first | (rw [runR_yes (by assumption) (by assumption) (by assumption), hg1]; rfl) | (rw [runR_yes (by assumption) (by assumption) (by assumption), hfull]; rfl) | (rw [runR_no (by simp [*])]; done))) rfl (fun _ => (by simp [tagged, taggedL]))
      ·have qh6 := h6
       rw [← hee] at qh6
       refine aw_reg [(1, .dec true)] [1, 2, 3, 6, 10, 11, 12, 48] [3, 6, 12] [slStroke false strokes, Sv insert, .ref 3 0, .ref 6 0, I n, I i', .ref 12 0, Bv true] [some (.box [Sv tx_, I lx_, I ly_, I lc_]), some (.box [Sv b6_0', I b6_1', I b6_2', I b6_3']), some (bxEdit ((editR (CellRow.mk tx_ lx_ ly_ lc_) (at_ strokes i'.toNat)).1))] [((editR (CellRow.mk tx_ lx_ ly_ lc_) (at_ strokes i'.toNat)).2) ≠ 0] (by kernel_rfl) hB ⟨h6, trivial⟩ ?_
       refine ae_then ?_
       refine aw_true rfl ?_
       refine aw_exit ?_
       refine ae_exit_then ?_
       refine ae_exit_same ?_
       refine ae_then ?_
       refine aw_reg [] [1, 2, 3, 6, 10, 11] [3, 6] [slStroke false strokes, Sv insert, .ref 3 0, .ref 6 0, I n, I (i' + 1)] [some (.box [Sv tx_, I lx_, I ly_, I lc_]), some (.box [Sv b6_0', I b6_1', I b6_2', I b6_3'])] [inR .i64 (i' + 1)] (by kernel_rfl) hB ⟨(inR_i64 (by omega) (by omega)), trivial⟩ ?_
       exact ae_again _ (by omega) ⟨n, (i' + 1), b6_0', b6_1', b6_2', b6_3', tx_, lx_, ly_, lc_, rfl, (by omega), (by first | exact runG_skip hj0.1 hg1 (by assumption) | exact hstep), (by first | exact hg2 | exact hokn), (by omega), rfl⟩
     ·have hie : i'.toNat = strokes.length := by omega
      rw [hie] at hg1
      refine aw_reg [(3, .dec false)] [1, 2, 3, 6, 10, 11, 37] [3, 6] [slStroke false strokes, Sv insert, .ref 3 0, .ref 6 0, I n, I i', Bv false] [some (.box [Sv tx_, I lx_, I ly_, I lc_]), some (.box [Sv b6_0', I b6_1', I b6_2', I b6_3'])] [¬ (i' < (strokes.length : Int))] (by kernel_rfl) hB ⟨h5, trivial⟩ ?_
      refine ae_then ?_
      refine aw_false rfl ?_
      refine aw_exit ?_
      refine ae_exit_then ?_
      refine ae_exit_then ?_
      refine ae_exit_same ?_
      refine ae_then ?_
      refine aw_seq ?_
      refine aw_reg [] [6, 7, 8] [6] [.ref 6 0, I n, I 0] [some (.box [Sv tx_, I lx_, I ly_, I lc_])] [] (by kernel_rfl) hB trivial ?_
      refine ae_then ?_
      refine aw_ret ?_
      refine ae_ret hB (.tup [.agg [Sv tx_, I lx_, I ly_, I lc_], I n, I 0]) (by kernel_rfl) (.inl (by first | (rw [runR_yes (by assumption) (by assumption) (by assumption), hg1]; rfl) | (rw [runR_yes (by assumption) (by assumption) (by assumption), hfull]; rfl) | (rw [runR_no (by simp [*])]; done))) rfl (fun _ => (by simp [tagged, taggedL]))
   ·refine aw_reg [(0, .call [(false, .ptr false [Sv l.Text, I l.X, I l.Y, I l.Cell])] true (Bv true)), (4, .call [(true, Sv insert)] true (Bv false))] [1, 2, 3, 6, 20] [3, 6] [slStroke false strokes, Sv insert, .ref 3 0, .ref 6 0, Bv true] [some (bxCellRow l), some (.box [Sv (⟨#[]⟩ : ByteArray), I 0, I 0, I 0])] [Con Tryd.prog 40 [.ptr false [Sv l.Text, I l.X, I l.Y, I l.Cell]] true (Bv true) ∧ ((false = true → true = true) ∧ AV.idsL [Sv l.Text, I l.X, I l.Y, I l.Cell] = [] ∧ (valOf (Sv l.Text) = valOf (Sv l.Text)) ∧ (valOf (I l.X) = valOf (I l.X)) ∧ (valOf (I l.Y) = valOf (I l.Y)) ∧ (valOf (I l.Cell) = valOf (I l.Cell)) ∧ ([] : List AV) = []) ∧ True, Con Tryd.prog 41 [Sv insert] true (Bv false) ∧ ((Sv insert : AV) = Sv insert) ∧ True] (by kernel_rfl) hB ⟨⟨(con_bool h1 (l23Ok_ok l okl)), ⟨(fun h => by cases h), rfl, ⟨rfl, ⟨rfl, ⟨rfl, ⟨rfl, rfl⟩⟩⟩⟩⟩, trivial⟩, ⟨(con_bool h2 (l23Letters_ok insert (by omega))), rfl, trivial⟩, trivial⟩ ?_
    refine ae_then ?_
    refine aw_true rfl ?_
    refine aw_seq ?_
    refine aw_reg [] [6, 7, 8] [6] [.ref 6 0, I 0, I 1] [some (.box [Sv (⟨#[]⟩ : ByteArray), I 0, I 0, I 0])] [] (by kernel_rfl) hB trivial ?_
    refine ae_then ?_
    refine aw_ret ?_
    refine ae_ret_then ?_
    refine ae_ret hB (.tup [.agg [Sv (⟨#[]⟩ : ByteArray), I 0, I 0, I 0], I 0, I 1]) (by kernel_rfl) (.inl (by first | (rw [runR_yes (by assumption) (by assumption) (by assumption), hg1]; rfl) | (rw [runR_yes (by assumption) (by assumption) (by assumption), hfull]; rfl) | (rw [runR_no (by simp [*])]; done))) rfl (fun _ => (by simp [tagged, taggedL]))
  ·refine aw_reg [(0, .call [(false, .ptr false [Sv l.Text, I l.X, I l.Y, I l.Cell])] true (Bv false))] [1, 2, 3, 6, 20] [3, 6] [slStroke false strokes, Sv insert, .ref 3 0, .ref 6 0, Bv true] [some (bxCellRow l), some (.box [Sv (⟨#[]⟩ : ByteArray), I 0, I 0, I 0])] [Con Tryd.prog 40 [.ptr false [Sv l.Text, I l.X, I l.Y, I l.Cell]] true (Bv false) ∧ ((false = true → true = true) ∧ AV.idsL [Sv l.Text, I l.X, I l.Y, I l.Cell] = [] ∧ (valOf (Sv l.Text) = valOf (Sv l.Text)) ∧ (valOf (I l.X) = valOf (I l.X)) ∧ (valOf (I l.Y) = valOf (I l.Y)) ∧ (valOf (I l.Cell) = valOf (I l.Cell)) ∧ ([] : List AV) = []) ∧ True] (by kernel_rfl) hB ⟨⟨(con_bool h1 (l23Ok_ok l okl)), ⟨(fun h => by cases h), rfl, ⟨rfl, ⟨rfl, ⟨rfl, ⟨rfl, rfl⟩⟩⟩⟩⟩, trivial⟩, trivial⟩ ?_
   refine ae_then ?_
   refine aw_true rfl ?_
   refine aw_seq ?_
   refine aw_reg [] [6, 7, 8] [6] [.ref 6 0, I 0, I 1] [some (.box [Sv (⟨#[]⟩ : ByteArray), I 0, I 0, I 0])] [] (by kernel_rfl) hB trivial ?_
   refine ae_then ?_
   refine aw_ret ?_
   refine ae_ret_then ?_
   refine ae_ret hB (.tup [.agg [Sv (⟨#[]⟩ : ByteArray), I 0, I 0, I 0], I 0, I 1]) (by kernel_rfl) (.inl (by first | (rw [runR_yes (by assumption) (by assumption) (by assumption), hg1]; rfl) | (rw [runR_yes (by assumption) (by assumption) (by assumption), hfull]; rfl) | (rw [runR_no (by simp [*])]; done))) rfl (fun _ => (by simp [tagged, taggedL]))


theorem and_16777215 (a : Int) : 0 ≤ bitsI .and .u64 a 16777215 ∧ bitsI .and .u64 a 16777215 ≤ 16777215 := by
  obtain ⟨n, hn⟩ : ∃ n : Nat, n = (BitVec.ofInt 64 a &&& BitVec.ofInt 64 16777215).toNat := ⟨_, rfl⟩
  have h : n ≤ 16777215 := by rw [hn, BitVec.toNat_and]; exact Nat.and_le_right
  have e : bitsI .and .u64 a 16777215 = IntKind.u64.wrap (n : Int) := by rw [hn]; rfl
  have w : IntKind.u64.wrap (n : Int) = n := wrap_in (inR_u64 (by omega) (by omega))
  rw [e, w]; omega
/-- A dice in order. -/
def okDice (d : f6dice) : Prop := (∀ j, j < d.b.length → 0 ≤ at_ d.b j ∧ at_ d.b j ≤ 255) ∧ (0 ≤ d.i ∧ d.i ≤ (d.b.length : Int)) ∧ d.b.length ≤ 4611686018427387904

-- laws.f6roll
theorem f6roll_ok (code : List Int) (seed : Int) (hc : (∀ j, j < code.length → 0 ≤ at_ code j ∧ at_ code j ≤ 255) ∧ code.length ≤ 4611686018427387904) (hsd : 0 ≤ seed ∧ seed ≤ 18446744073709551615) : ∃ (d' : f6dice), (okDice d') ∧ CallOK Tryd.prog 18 [slU8 false code, .val (.int .u64 seed)] (lookO []) false (.ref 7002 0) (lookO [(7002, bxf6dice d')]) := by
  have hh : ∃ r : f6dice, ((okDice r) ∧ (True)) ∧ CallOK Tryd.prog 18 [slU8 false code, .val (.int .u64 seed)] (lookO []) false (.ref 7002 0) (lookO [(7002, bxf6dice r)]) := by
    refine fn_okX (Φ := fun r : f6dice => (okDice r) ∧ (True)) [] (fun r => [(7002, bxf6dice r)]) (fn := Tryd.f18) (nt := 38) Tryd.func18 rfl rfl (args := [slU8 false code, .val (.int .u64 seed)]) rfl (allcons (.inl ⟨rfl, tagU8 false _⟩) (allcons (.inl ⟨rfl, trivial⟩) allnil)) (res := fun r => .ref 7002 0) ?_
    refine x_seq ?_
    refine x_reg [] [0, 1] [] [slU8 false code, .val (.int .u64 seed)] [] [] (by kernel_rfl) trivial ?_
    refine xe_then ?_
    refine x_seq ?_
    refine x_reg [(2, .wrap), (6, .wrap), (8, .new 7002)] [0, 5] [7002] [slU8 false code, .ref 7002 0] [some (.box [slU8 false code, I 0, .val (.int .u64 (IntKind.u64.wrap ((IntKind.u64.wrap (seed * 7919)) + (code.length : Int))))])] [inR .u64 (code.length : Int)] (by kernel_rfl) ⟨(inR_u64 (by omega) (by omega)), trivial⟩ ?_
    refine xe_then ?_
    refine x_seq ?_
    refine x_seq ?_
    refine x_reg [] [0, 5, 6] [7002] [slU8 false code, .ref 7002 0, I 0] [some (.box [slU8 false code, I 0, .val (.int .u64 (IntKind.u64.wrap ((IntKind.u64.wrap (seed * 7919)) + (code.length : Int))))])] [] (by kernel_rfl) trivial ?_
    refine xe_then ?_
    refine x_block ?_
    refine x_weak [] (T := [(0, slU8 false code), (5, .ref 7002 0), (6, I 0)]) (O := [(7002, .box [.sl false 1 ((f6dice.mk code 0 (IntKind.u64.wrap ((IntKind.u64.wrap (seed * 7919)) + (code.length : Int)))).b.length) (fU8 ((f6dice.mk code 0 (IntKind.u64.wrap ((IntKind.u64.wrap (seed * 7919)) + (code.length : Int)))).b)), I ((f6dice.mk code 0 (IntKind.u64.wrap ((IntKind.u64.wrap (seed * 7919)) + (code.length : Int)))).i), .val (.int .u64 ((f6dice.mk code 0 (IntKind.u64.wrap ((IntKind.u64.wrap (seed * 7919)) + (code.length : Int)))).h))])]) rfl (⟨.inl rfl, .inl rfl, .inl rfl, trivial⟩) (⟨.inr ⟨⟨(fun h => by cases h), rfl, (by first | rfl | (simp; done) | (simp; omega) | omega), fun i hi => .inl (by first | rfl | fail)⟩, ⟨(by first | rfl | (simp [valOf]; done) | (simp [valOf]; omega)), ⟨(by first | rfl | (simp [valOf]; done) | (simp [valOf]; omega)), rfl⟩⟩⟩, trivial⟩) ?_
    refine x_loop (X := Int × f6dice) (fun x => mkS [(0, slU8 false code), (5, .ref 7002 0), (6, I x.1)] [(7002, bxf6dice x.2)]) (fun x => (0 ≤ x.1 ∧ x.1 ≤ (code.length : Int)) ∧ (x.2.b = code ∧ x.2.i = 0) ∧ True) (fun x => ((code.length : Int) - x.1).toNat) (0, (f6dice.mk code 0 (IntKind.u64.wrap ((IntKind.u64.wrap (seed * 7919)) + (code.length : Int))))) rfl (show (0 ≤ (0 : Int) ∧ (0 : Int) ≤ (code.length : Int)) ∧ ((f6dice.mk code 0 (IntKind.u64.wrap ((IntKind.u64.wrap (seed * 7919)) + (code.length : Int)))).b = code ∧ (f6dice.mk code 0 (IntKind.u64.wrap ((IntKind.u64.wrap (seed * 7919)) + (code.length : Int)))).i = 0) ∧ True from ⟨(by omega), (by exact ⟨rfl, rfl⟩), trivial⟩) (fun x hI => ?_)
    obtain ⟨i, di⟩ := x
    obtain ⟨hi0, hd0, _⟩ : (0 ≤ i ∧ i ≤ (code.length : Int)) ∧ (di.b = code ∧ di.i = 0) ∧ True := hI
    show XW _ _ _ _ (mkS [(0, slU8 false code), (5, .ref 7002 0), (6, I i)] [(7002, bxf6dice di)]) _ _
    refine x_seq ?_
    refine x_seq ?_
    by_cases h1 : i < (code.length : Int)
    ·have hbt := hc.1 i.toNat (by omega)
     refine x_reg [(3, .dec true)] [0, 5, 6, 19] [7002] [slU8 false code, .ref 7002 0, I i, Bv true] [some (bxf6dice di)] [i < (code.length : Int)] (by kernel_rfl) ⟨h1, trivial⟩ ?_
     refine xe_then ?_
     refine x_true rfl ?_
     refine x_skip ?_
     refine xe_then ?_
     refine x_seq ?_
     refine x_block ?_
     refine x_reg [(5, .wrap), (11, .wrap), (12, .wrap)] [0, 5, 6] [7002] [slU8 false code, .ref 7002 0, I i] [some (.box [slU8 false di.b, I di.i, .val (.int .u64 (IntKind.u64.wrap ((IntKind.u64.wrap ((IntKind.u64.wrap (di.h * 1099511628211)) + (at_ code i.toNat))) + 3)))])] [(0 : Int) ≤ i ∧ i < (code.length : Int), inR .u64 (at_ code i.toNat)] (by kernel_rfl) ⟨⟨(by omega), (by omega)⟩, (inR_u64 (by omega) (by omega)), trivial⟩ ?_
     refine xe_block 1 ?_
     refine xe_then ?_
     refine x_reg [] [0, 5, 6] [7002] [slU8 false code, .ref 7002 0, I (i + 1)] [some (.box [slU8 false di.b, I di.i, .val (.int .u64 (IntKind.u64.wrap ((IntKind.u64.wrap ((IntKind.u64.wrap (di.h * 1099511628211)) + (at_ code i.toNat))) + 3)))])] [inR .i64 (i + 1)] (by kernel_rfl) ⟨(inR_i64 (by omega) (by omega)), trivial⟩ ?_
     refine xe_weak [] (T := [(0, slU8 false code), (5, .ref 7002 0), (6, I (i + 1))]) (O := [(7002, .box [.sl false 1 ((f6dice.mk di.b di.i (IntKind.u64.wrap ((IntKind.u64.wrap ((IntKind.u64.wrap (di.h * 1099511628211)) + (at_ code i.toNat))) + 3))).b.length) (fU8 ((f6dice.mk di.b di.i (IntKind.u64.wrap ((IntKind.u64.wrap ((IntKind.u64.wrap (di.h * 1099511628211)) + (at_ code i.toNat))) + 3))).b)), I ((f6dice.mk di.b di.i (IntKind.u64.wrap ((IntKind.u64.wrap ((IntKind.u64.wrap (di.h * 1099511628211)) + (at_ code i.toNat))) + 3))).i), .val (.int .u64 ((f6dice.mk di.b di.i (IntKind.u64.wrap ((IntKind.u64.wrap ((IntKind.u64.wrap (di.h * 1099511628211)) + (at_ code i.toNat))) + 3))).h))])]) rfl (⟨.inl rfl, .inl rfl, .inl rfl, trivial⟩) (⟨.inr ⟨⟨(fun h => by cases h), rfl, (by first | rfl | (simp; done) | (simp; omega) | omega), fun i hi => .inl (by first | rfl | fail)⟩, ⟨(by first | rfl | (simp [valOf]; done) | (simp [valOf]; omega)), ⟨(by first | rfl | (simp [valOf]; done) | (simp [valOf]; omega)), rfl⟩⟩⟩, trivial⟩) (xe_again ((i + 1), (f6dice.mk di.b di.i (IntKind.u64.wrap ((IntKind.u64.wrap ((IntKind.u64.wrap (di.h * 1099511628211)) + (at_ code i.toNat))) + 3)))) rfl (show (0 ≤ (i + 1) ∧ (i + 1) ≤ (code.length : Int)) ∧ ((f6dice.mk di.b di.i (IntKind.u64.wrap ((IntKind.u64.wrap ((IntKind.u64.wrap (di.h * 1099511628211)) + (at_ code i.toNat))) + 3))).b = code ∧ (f6dice.mk di.b di.i (IntKind.u64.wrap ((IntKind.u64.wrap ((IntKind.u64.wrap (di.h * 1099511628211)) + (at_ code i.toNat))) + 3))).i = 0) ∧ True from ⟨(by omega), (by exact hd0), trivial⟩) (by show (((code.length : Int) - (i + 1)).toNat : Nat) < ((code.length : Int) - i).toNat; omega))
    ·refine x_reg [(3, .dec false)] [0, 5, 6, 19] [7002] [slU8 false code, .ref 7002 0, I i, Bv false] [some (bxf6dice di)] [¬ (i < (code.length : Int))] (by kernel_rfl) ⟨h1, trivial⟩ ?_
     refine xe_then ?_
     refine x_false rfl ?_
     refine x_exit ?_
     refine xe_exit_then ?_
     refine xe_loop_exit ?_
     refine xe_exit_same ?_
     refine xe_then ?_
     refine x_seq ?_
     refine x_reg [] [4] [7002] [.ref 7002 0] [some (bxf6dice di)] [] (by kernel_rfl) trivial ?_
     refine xe_then ?_
     refine x_ret ?_
     refine xe_end di (show (okDice di) ∧ (True) from ⟨(by exact ⟨by rw [hd0.1]; exact hc.1, by rw [hd0.1, hd0.2]; omega, by rw [hd0.1]; exact hc.2⟩), trivial⟩) (⟨.inl rfl, trivial⟩) (.ref 7002 0) (by kernel_rfl) (.inl rfl) (fun h => by cases h) (fun h => by cases h)
  obtain ⟨d', ⟨hh0, _⟩, hc⟩ := hh
  exact ⟨d', hh0, hc⟩


-- laws.f6dice).below
theorem below_ok (d : f6dice) (n : Int) (hd : okDice d) (hn : 1 ≤ n ∧ n ≤ 9000000000000000000) : ∃ (v : Int) (d' : f6dice), (0 ≤ v ∧ v < n) ∧ (okDice d') ∧ CallOK Tryd.prog 19 [.ref 7002 0, I n] (lookO [(7002, bxf6dice d)]) true (I v) (lookO [(7002, bxf6dice d')]) := by
  have hd1 := hd.2.1
  have hd2 := hd.2.2
  have hh : ∃ r : Int × f6dice, ((0 ≤ r.1 ∧ r.1 < n) ∧ (okDice r.2) ∧ (True)) ∧ CallOK Tryd.prog 19 [.ref 7002 0, I n] (lookO [(7002, bxf6dice d)]) true (I r.1) (lookO [(7002, bxf6dice r.2)]) := by
    refine fn_okX (Φ := fun r : Int × f6dice => (0 ≤ r.1 ∧ r.1 < n) ∧ (okDice r.2) ∧ (True)) [(7002, bxf6dice d)] (fun r => [(7002, bxf6dice r.2)]) (fn := Tryd.f19) (nt := 56) Tryd.func19 rfl rfl (args := [.ref 7002 0, I n]) rfl (allcons (.inr trivial) (allcons (.inl ⟨rfl, trivial⟩) allnil)) (res := fun r => I r.1) ?_
    refine x_seq ?_
    refine x_reg [] [0, 1] [7002] [.ref 7002 0, I n] [some (bxf6dice d)] [] (by kernel_rfl) trivial ?_
    refine xe_then ?_
    refine x_seq ?_
    refine x_reg [(5, .wrap), (6, .wrap)] [0, 1] [7002] [.ref 7002 0, I n] [some (.box [slU8 false d.b, I d.i, .val (.int .u64 (IntKind.u64.wrap ((IntKind.u64.wrap (d.h * 6364136223846793005)) + 1442695040888963407)))])] [] (by kernel_rfl) trivial ?_
    refine xe_then ?_
    refine x_seq ?_
    have hb1 := and_16777215 ((IntKind.u64.wrap ((IntKind.u64.wrap (d.h * 6364136223846793005)) + 1442695040888963407)) / 8589934592)
    refine x_reg [] [0, 1, 5] [7002] [.ref 7002 0, I n, I (bitsI .and .u64 ((IntKind.u64.wrap ((IntKind.u64.wrap (d.h * 6364136223846793005)) + 1442695040888963407)) / 8589934592) 16777215)] [some (.box [slU8 false d.b, I d.i, .val (.int .u64 (IntKind.u64.wrap ((IntKind.u64.wrap (d.h * 6364136223846793005)) + 1442695040888963407)))])] [(0 : Int) ≤ 33 ∧ (33 : Int) ≤ ((IntKind.bits .u64 : Nat) : Int), inR .i64 (bitsI .and .u64 ((IntKind.u64.wrap ((IntKind.u64.wrap (d.h * 6364136223846793005)) + 1442695040888963407)) / 8589934592) 16777215)] (by kernel_rfl) ⟨⟨(by decide), (by decide)⟩, (inR_i64 (by omega) (by omega)), trivial⟩ ?_
    refine xe_then ?_
    refine x_seq ?_
    refine x_seq ?_
    by_cases h1 : d.i < (d.b.length : Int)
    ·have hbt := hd.1 d.i.toNat (by omega)
     refine x_reg [(9, .dec true)] [0, 1, 5, 31] [7002] [.ref 7002 0, I n, I (bitsI .and .u64 ((IntKind.u64.wrap ((IntKind.u64.wrap (d.h * 6364136223846793005)) + 1442695040888963407)) / 8589934592) 16777215), Bv true] [some (.box [slU8 false d.b, I d.i, .val (.int .u64 (IntKind.u64.wrap ((IntKind.u64.wrap (d.h * 6364136223846793005)) + 1442695040888963407)))])] [d.i < (d.b.length : Int)] (by kernel_rfl) ⟨h1, trivial⟩ ?_
     refine xe_then ?_
     refine x_true rfl ?_
     refine x_seq ?_
     refine x_reg [] [0, 1, 5] [7002] [.ref 7002 0, I n, I ((bitsI .and .u64 ((IntKind.u64.wrap ((IntKind.u64.wrap (d.h * 6364136223846793005)) + 1442695040888963407)) / 8589934592) 16777215) + (at_ d.b d.i.toNat))] [some (.box [slU8 false d.b, I d.i, .val (.int .u64 (IntKind.u64.wrap ((IntKind.u64.wrap (d.h * 6364136223846793005)) + 1442695040888963407)))])] [(0 : Int) ≤ d.i ∧ d.i < (d.b.length : Int), inR .i64 (at_ d.b d.i.toNat), inR .i64 ((bitsI .and .u64 ((IntKind.u64.wrap ((IntKind.u64.wrap (d.h * 6364136223846793005)) + 1442695040888963407)) / 8589934592) 16777215) + (at_ d.b d.i.toNat))] (by kernel_rfl) ⟨⟨(by omega), (by omega)⟩, (inR_i64 (by omega) (by omega)), (inR_i64 (by omega) (by omega)), trivial⟩ ?_
     refine xe_then ?_
     refine x_reg [] [1, 5] [7002] [I n, I ((bitsI .and .u64 ((IntKind.u64.wrap ((IntKind.u64.wrap (d.h * 6364136223846793005)) + 1442695040888963407)) / 8589934592) 16777215) + (at_ d.b d.i.toNat))] [some (.box [slU8 false d.b, I (d.i + 1), .val (.int .u64 (IntKind.u64.wrap ((IntKind.u64.wrap (d.h * 6364136223846793005)) + 1442695040888963407)))])] [inR .i64 (d.i + 1)] (by kernel_rfl) ⟨(inR_i64 (by omega) (by omega)), trivial⟩ ?_
     refine xe_then ?_
     refine x_seq ?_
     refine x_reg [(2, .nn)] [4] [7002] [I (((bitsI .and .u64 ((IntKind.u64.wrap ((IntKind.u64.wrap (d.h * 6364136223846793005)) + 1442695040888963407)) / 8589934592) 16777215) + (at_ d.b d.i.toNat)) % n)] [some (.box [slU8 false d.b, I (d.i + 1), .val (.int .u64 (IntKind.u64.wrap ((IntKind.u64.wrap (d.h * 6364136223846793005)) + 1442695040888963407)))])] [(0 : Int) ≤ ((bitsI .and .u64 ((IntKind.u64.wrap ((IntKind.u64.wrap (d.h * 6364136223846793005)) + 1442695040888963407)) / 8589934592) 16777215) + (at_ d.b d.i.toNat)) ∧ (0 : Int) < n] (by kernel_rfl) ⟨⟨(by omega), (by omega)⟩, trivial⟩ ?_
     refine xe_then ?_
     refine x_ret ?_
     refine xe_end ((((bitsI .and .u64 ((IntKind.u64.wrap ((IntKind.u64.wrap (d.h * 6364136223846793005)) + 1442695040888963407)) / 8589934592) 16777215) + (at_ d.b d.i.toNat)) % n), (f6dice.mk d.b (d.i + 1) (IntKind.u64.wrap ((IntKind.u64.wrap (d.h * 6364136223846793005)) + 1442695040888963407)))) (show (0 ≤ (((bitsI .and .u64 ((IntKind.u64.wrap ((IntKind.u64.wrap (d.h * 6364136223846793005)) + 1442695040888963407)) / 8589934592) 16777215) + (at_ d.b d.i.toNat)) % n) ∧ (((bitsI .and .u64 ((IntKind.u64.wrap ((IntKind.u64.wrap (d.h * 6364136223846793005)) + 1442695040888963407)) / 8589934592) 16777215) + (at_ d.b d.i.toNat)) % n) < n) ∧ (okDice (f6dice.mk d.b (d.i + 1) (IntKind.u64.wrap ((IntKind.u64.wrap (d.h * 6364136223846793005)) + 1442695040888963407)))) ∧ (True) from ⟨(by first | (exact ⟨Int.emod_nonneg _ (by omega), Int.emod_lt_of_pos _ (by omega)⟩) | exact hd | exact ⟨hd.1, (by dsimp only; omega), hd2⟩), (by first | (exact ⟨Int.emod_nonneg _ (by omega), Int.emod_lt_of_pos _ (by omega)⟩) | exact hd | exact ⟨hd.1, (by dsimp only; omega), hd2⟩), trivial⟩) (⟨.inl rfl, trivial⟩) (I (((bitsI .and .u64 ((IntKind.u64.wrap ((IntKind.u64.wrap (d.h * 6364136223846793005)) + 1442695040888963407)) / 8589934592) 16777215) + (at_ d.b d.i.toNat)) % n)) (by kernel_rfl) (.inl rfl) (fun _ => rfl) (fun _ => trivial)
    ·refine x_reg [(9, .dec false)] [0, 1, 5, 31] [7002] [.ref 7002 0, I n, I (bitsI .and .u64 ((IntKind.u64.wrap ((IntKind.u64.wrap (d.h * 6364136223846793005)) + 1442695040888963407)) / 8589934592) 16777215), Bv false] [some (.box [slU8 false d.b, I d.i, .val (.int .u64 (IntKind.u64.wrap ((IntKind.u64.wrap (d.h * 6364136223846793005)) + 1442695040888963407)))])] [¬ (d.i < (d.b.length : Int))] (by kernel_rfl) ⟨h1, trivial⟩ ?_
     refine xe_then ?_
     refine x_false rfl ?_
     refine x_skip ?_
     refine xe_then ?_
     refine x_seq ?_
     refine x_reg [(2, .nn)] [4] [7002] [I ((bitsI .and .u64 ((IntKind.u64.wrap ((IntKind.u64.wrap (d.h * 6364136223846793005)) + 1442695040888963407)) / 8589934592) 16777215) % n)] [some (.box [slU8 false d.b, I d.i, .val (.int .u64 (IntKind.u64.wrap ((IntKind.u64.wrap (d.h * 6364136223846793005)) + 1442695040888963407)))])] [(0 : Int) ≤ (bitsI .and .u64 ((IntKind.u64.wrap ((IntKind.u64.wrap (d.h * 6364136223846793005)) + 1442695040888963407)) / 8589934592) 16777215) ∧ (0 : Int) < n] (by kernel_rfl) ⟨⟨(by omega), (by omega)⟩, trivial⟩ ?_
     refine xe_then ?_
     refine x_ret ?_
     refine xe_end (((bitsI .and .u64 ((IntKind.u64.wrap ((IntKind.u64.wrap (d.h * 6364136223846793005)) + 1442695040888963407)) / 8589934592) 16777215) % n), (f6dice.mk d.b d.i (IntKind.u64.wrap ((IntKind.u64.wrap (d.h * 6364136223846793005)) + 1442695040888963407)))) (show (0 ≤ ((bitsI .and .u64 ((IntKind.u64.wrap ((IntKind.u64.wrap (d.h * 6364136223846793005)) + 1442695040888963407)) / 8589934592) 16777215) % n) ∧ ((bitsI .and .u64 ((IntKind.u64.wrap ((IntKind.u64.wrap (d.h * 6364136223846793005)) + 1442695040888963407)) / 8589934592) 16777215) % n) < n) ∧ (okDice (f6dice.mk d.b d.i (IntKind.u64.wrap ((IntKind.u64.wrap (d.h * 6364136223846793005)) + 1442695040888963407)))) ∧ (True) from ⟨(by first | (exact ⟨Int.emod_nonneg _ (by omega), Int.emod_lt_of_pos _ (by omega)⟩) | exact hd | exact ⟨hd.1, (by dsimp only; omega), hd2⟩), (by first | (exact ⟨Int.emod_nonneg _ (by omega), Int.emod_lt_of_pos _ (by omega)⟩) | exact hd | exact ⟨hd.1, (by dsimp only; omega), hd2⟩), trivial⟩) (⟨.inl rfl, trivial⟩) (I ((bitsI .and .u64 ((IntKind.u64.wrap ((IntKind.u64.wrap (d.h * 6364136223846793005)) + 1442695040888963407)) / 8589934592) 16777215) % n)) (by kernel_rfl) (.inl rfl) (fun _ => rfl) (fun _ => trivial)
  obtain ⟨⟨v, d'⟩, ⟨hh0, hh1, _⟩, hc⟩ := hh
  exact ⟨v, d', hh0, hh1, hc⟩


theorem at_take {α : Type} [Inhabited α] {xs : List α} {k j : Nat} (h : j < k) : at_ (xs.take k) j = at_ xs j := by simp [at_, List.getElem?_take, h]
theorem at_drop {α : Type} [Inhabited α] (xs : List α) (k j : Nat) : at_ (xs.drop k) j = at_ xs (k + j) := by simp [at_]
section
variable {l : CellRow} {xs : List Stroke} {ins : ByteArray}
theorem runG_take {k : Nat} : ∀ m, m ≤ k → runG l (xs.take k) ins m = runG l xs ins m
  | 0, _ => rfl
  | m + 1, h => by rw [runG, runG, runG_take m (by omega), at_take (by omega)]
theorem runG_from {k : Nat} {y : CellRow} {a : Int} (hk : runG l xs ins k = some (y, a)) : ∀ m, runG l xs ins (k + m) = (runG y (xs.drop k) ins m).map fun q => (q.1, a + q.2)
  | 0 => by rw [Nat.add_zero, hk]; simp [runG]
  | m + 1 => by
    rw [← Nat.add_assoc, runG, runG_from hk m, runG, at_drop]
    cases runG y (xs.drop k) ins m with
    | none => rfl
    | some q =>
      obtain ⟨l', d⟩ := q
      simp only [Option.map_some]
      split
      · split
        · simp only [Option.map_some]; congr 2; omega
        · rfl
      · rfl
theorem runG_row (hl : okRow l = true) : ∀ {m : Nat} {y : CellRow} {a : Int}, runG l xs ins m = some (y, a) → okRow y = true
  | 0, y, a, h => by simp only [runG, Option.some.injEq, Prod.mk.injEq] at h; rw [← h.1]; exact hl
  | m + 1, y, a, h => by
    rw [runG] at h
    cases e : runG l xs ins m with
    | none => rw [e] at h; cases h
    | some q =>
      obtain ⟨l', d⟩ := q
      rw [e] at h
      simp only at h
      split at h
      · split at h
        · rename_i h3
          simp only [Option.some.injEq, Prod.mk.injEq] at h
          rw [← h.1]; exact applyL_ok h3
        · cases h
      · simp only [Option.some.injEq, Prod.mk.injEq] at h
        rw [← h.1]; exact runG_row hl e
theorem runG_bd : ∀ {m : Nat} {y : CellRow} {a : Int}, runG l xs ins m = some (y, a) → 0 ≤ a ∧ a ≤ (m : Int)
  | 0, y, a, h => by simp only [runG, Option.some.injEq, Prod.mk.injEq] at h; rw [← h.2]; exact ⟨Int.le_refl _, Int.le_refl _⟩
  | m + 1, y, a, h => by
    rw [runG] at h
    cases e : runG l xs ins m with
    | none => rw [e] at h; cases h
    | some q =>
      obtain ⟨l', d⟩ := q
      have ih := runG_bd e
      rw [e] at h
      simp only at h
      split at h
      · split at h
        · simp only [Option.some.injEq, Prod.mk.injEq] at h
          rw [← h.2]; omega
        · cases h
      · simp only [Option.some.injEq, Prod.mk.injEq] at h
        rw [← h.2]; omega
theorem run_bd (l : CellRow) (xs : List Stroke) (ins : ByteArray) : (runR l xs ins).1.Text.size ≤ 60 ∧ 0 ≤ (runR l xs ins).2.1 ∧ (runR l xs ins).2.1 ≤ (xs.length : Int) := by
  have h0 : (⟨#[]⟩ : ByteArray).size = 0 := rfl
  by_cases hc : okRow l = true ∧ lettersB ins = true ∧ allN xs.length (fun j => okStroke' (at_ xs j)) = true
  · rw [runR_yes hc.1 hc.2.1 hc.2.2]
    cases e : runG l xs ins xs.length with
    | none => exact ⟨by show (⟨#[]⟩ : ByteArray).size ≤ 60; omega, Int.le_refl _, by show (0 : Int) ≤ _; omega⟩
    | some q =>
      obtain ⟨y, a⟩ := q
      have := runG_bd e
      have hr := (okRow_iff.1 (runG_row hc.1 e)).2.1
      exact ⟨by show y.Text.size ≤ 60; omega, this.1, this.2⟩
  · rw [runR_no hc]
    exact ⟨by show (⟨#[]⟩ : ByteArray).size ≤ 60; omega, Int.le_refl _, by show (0 : Int) ≤ _; omega⟩
/-- Strokes may be applied in two parts. -/
theorem run_split (h : (runR l xs ins).2.2 = 0) (k : Nat) (hk : k ≤ xs.length) : (runR l (xs.take k) ins).2.2 = 0 ∧ (runR (runR l (xs.take k) ins).1 (xs.drop k) ins).2.2 = 0 ∧
    (runR l (xs.take k) ins).2.1 + (runR (runR l (xs.take k) ins).1 (xs.drop k) ins).2.1 = (runR l xs ins).2.1 ∧ (runR (runR l (xs.take k) ins).1 (xs.drop k) ins).1 = (runR l xs ins).1 := by
  by_cases hc : okRow l = true ∧ lettersB ins = true ∧ allN xs.length (fun j => okStroke' (at_ xs j)) = true
  · obtain ⟨c1, c2, c3⟩ := hc
    rw [runR_yes c1 c2 c3] at h
    have c3' := allN_iff.1 c3
    have hg : ∃ q, runG l xs ins xs.length = some q := by
      cases e : runG l xs ins xs.length with
      | none => rw [e] at h; cases h
      | some q => exact ⟨q, rfl⟩
    obtain ⟨⟨x, n⟩, hg⟩ := hg
    have hy : ∃ q, runG l xs ins k = some q := by
      cases e : runG l xs ins k with
      | none => rw [runG_none e hk] at hg; cases hg
      | some q => exact ⟨q, rfl⟩
    obtain ⟨⟨y, a⟩, hy⟩ := hy
    have hlt : (xs.take k).length = k := by simp; omega
    have t3 : allN (xs.take k).length (fun j => okStroke' (at_ (xs.take k) j)) = true := allN_iff.2 fun j hj => by
      rw [hlt] at hj
      rw [at_take hj]; exact c3' j (by omega)
    have e1 : runR l (xs.take k) ins = (y, a, 0) := by
      rw [runR_yes c1 c2 t3, hlt, runG_take k (Nat.le_refl _), hy]; rfl
    have hld : (xs.drop k).length = xs.length - k := by simp
    have d3 : allN (xs.drop k).length (fun j => okStroke' (at_ (xs.drop k) j)) = true := allN_iff.2 fun j hj => by
      rw [hld] at hj
      rw [at_drop]; exact c3' (k + j) (by omega)
    have hf := runG_from hy (xs.length - k)
    rw [show k + (xs.length - k) = xs.length by omega, hg] at hf
    rw [e1]
    show (0 : Int) = 0 ∧ (runR y (xs.drop k) ins).2.2 = 0 ∧ a + (runR y (xs.drop k) ins).2.1 = (runR l xs ins).2.1 ∧ (runR y (xs.drop k) ins).1 = (runR l xs ins).1
    rw [runR_yes (runG_row c1 hy) c2 d3, hld, runR_yes c1 c2 c3, hg]
    cases e : runG y (xs.drop k) ins (xs.length - k) with
    | none => rw [e] at hf; cases hf
    | some q =>
      obtain ⟨z, b⟩ := q
      rw [e] at hf
      simp only [Option.map_some, Option.some.injEq, Prod.mk.injEq] at hf
      exact ⟨rfl, rfl, hf.2.symm, hf.1.symm⟩
  · rw [runR_no hc] at h; cases h
end

/-- What is known of a line that was drawn. -/
def drawnRow (l : CellRow) : Prop := l.Text.size ≤ 300 ∧ (-1 ≤ l.X ∧ l.X ≤ 4096) ∧ (-1 ≤ l.Y ∧ l.Y ≤ 4096) ∧ (1 ≤ l.Cell ∧ l.Cell ≤ 61)

-- laws.FnRunGestures
theorem fnRunGestures_con (code : List Int) (ok_code : ∀ y ∈ code, inR .u8 y) : Con Tryd.prog 4 [slU8 false code] true (Bv true) := by
  refine fn_ok (fn := Tryd.f4) (nt := 102) Tryd.func4 rfl rfl rfl rfl (by simp [taggedL, tagged, tagU8]) fun B hB => ?_
  refine aw_lens (x := slU8 false code) 0 rfl (fun len_code => ?_)
  simp [LenOK, LenL, cU8, fU8, slU8] at len_code
  refine aw_seq ?_
  refine aw_reg [] [0] [] [slU8 false code] [] [] (by kernel_rfl) hB trivial ?_
  refine ae_then ?_
  refine aw_seq ?_
  refine aw_seq ?_
  rcases Bool.eq_false_or_eq_true (decide (4096 < (code.length : Int))) with h1 | h1
  ·refine aw_reg [(1, .call [(true, slU8 false code)] true (Bv true))] [0, 20] [] [slU8 false code, Bv true] [] [Con Tryd.prog 14 [slU8 false code] true (Bv true) ∧ ((slU8 false code : AV) = slU8 false code) ∧ True] (by kernel_rfl) hB ⟨⟨(con_bool h1 (f6big_ok code)), rfl, trivial⟩, trivial⟩ ?_
   refine ae_then ?_
   refine aw_true rfl ?_
   refine aw_seq ?_
   refine aw_reg [] [2] [] [Bv true] [] [] (by kernel_rfl) hB trivial ?_
   refine ae_then ?_
   refine aw_ret ?_
   refine ae_ret_then ?_
   refine ae_ret hB (Bv true) (by kernel_rfl) (.inl rfl) rfl (fun _ => trivial)
  ·have hc : (∀ j, j < code.length → 0 ≤ at_ code j ∧ at_ code j ≤ 255) ∧ code.length ≤ 4611686018427387904 := ⟨fun j hj => ok_code _ (at_mem hj), by first | omega | (simp at h1; omega)⟩
   refine aw_reg [(1, .call [(true, slU8 false code)] true (Bv false))] [0, 20] [] [slU8 false code, Bv false] [] [Con Tryd.prog 14 [slU8 false code] true (Bv false) ∧ ((slU8 false code : AV) = slU8 false code) ∧ True] (by kernel_rfl) hB ⟨⟨(con_bool h1 (f6big_ok code)), rfl, trivial⟩, trivial⟩ ?_
   refine ae_then ?_
   refine aw_false rfl ?_
   refine aw_skip ?_
   refine ae_then ?_
   refine aw_seq ?_
   obtain ⟨l_1, strokes_1, v_1, hx1_0, hx1_1, hx1_2, hc1⟩ := DrawRunGestures_ok code (by assumption)
   refine aw_reg [(1, .call [(true, slU8 false code)] true (.tup [agCellRow l_1, slStroke true strokes_1, Sv v_1])), (6, .new 3)] [0, 3, 4, 5] [3] [slU8 false code, .ref 3 0, slStroke true strokes_1, Sv v_1] [some (bxCellRow l_1)] [Con Tryd.prog 15 [slU8 false code] true (.tup [agCellRow l_1, slStroke true strokes_1, Sv v_1]) ∧ ((slU8 false code : AV) = slU8 false code) ∧ True] (by kernel_rfl) hB ⟨⟨hc1, rfl, trivial⟩, trivial⟩ ?_
   refine ae_then ?_
   refine aw_seq ?_
   refine aw_reg [(3, .call [(true, agCellRow l_1), (false, slStroke false strokes_1), (true, Sv v_1)] true (.tup [agCellRow ((runR l_1 strokes_1 v_1).1), I ((runR l_1 strokes_1 v_1).2.1), I ((runR l_1 strokes_1 v_1).2.2)])), (8, .new 6)] [0, 3, 4, 5, 6, 7, 8] [3, 6] [slU8 false code, .ref 3 0, slStroke true strokes_1, Sv v_1, .ref 6 0, I ((runR l_1 strokes_1 v_1).2.1), I ((runR l_1 strokes_1 v_1).2.2)] [some (bxCellRow l_1), some (bxCellRow ((runR l_1 strokes_1 v_1).1))] [Con Tryd.prog 16 [agCellRow l_1, slStroke false strokes_1, Sv v_1] true (.tup [agCellRow ((runR l_1 strokes_1 v_1).1), I ((runR l_1 strokes_1 v_1).2.1), I ((runR l_1 strokes_1 v_1).2.2)]) ∧ ((agCellRow l_1 : AV) = agCellRow l_1) ∧ ((false = true → true = true) ∧ 1 = 1 ∧ strokes_1.length = strokes_1.length ∧ ∀ i, i < strokes_1.length → (fStroke true strokes_1) i = (fStroke false strokes_1) i ∨ (AV.idsL ((fStroke false strokes_1) i) = [] ∧ leL (fun _ => none) false ((fStroke true strokes_1) i) ((fStroke false strokes_1) i))) ∧ ((Sv v_1 : AV) = Sv v_1) ∧ True] (by kernel_rfl) hB ⟨⟨(implRunGestures_ok l_1 strokes_1 v_1 (by omega) (by omega)), rfl, ⟨(fun h => by cases h), rfl, rfl, fun i _ => .inr ⟨idsStroke _ _, leStroke _ _ _⟩⟩, rfl, trivial⟩, trivial⟩ ?_
   refine ae_then ?_
   refine aw_seq ?_
   refine aw_reg [(3, .call [(true, agCellRow l_1), (false, slStroke false strokes_1), (true, Sv v_1)] true (.tup [agCellRow ((runR l_1 strokes_1 v_1).1), I ((runR l_1 strokes_1 v_1).2.1), I ((runR l_1 strokes_1 v_1).2.2)])), (8, .new 9)] [0, 3, 4, 5, 6, 7, 8, 9, 10, 11] [3, 6, 9] [slU8 false code, .ref 3 0, slStroke true strokes_1, Sv v_1, .ref 6 0, I ((runR l_1 strokes_1 v_1).2.1), I ((runR l_1 strokes_1 v_1).2.2), .ref 9 0, I ((runR l_1 strokes_1 v_1).2.1), I ((runR l_1 strokes_1 v_1).2.2)] [some (bxCellRow l_1), some (bxCellRow ((runR l_1 strokes_1 v_1).1)), some (bxCellRow ((runR l_1 strokes_1 v_1).1))] [Con Tryd.prog 17 [agCellRow l_1, slStroke false strokes_1, Sv v_1] true (.tup [agCellRow ((runR l_1 strokes_1 v_1).1), I ((runR l_1 strokes_1 v_1).2.1), I ((runR l_1 strokes_1 v_1).2.2)]) ∧ ((agCellRow l_1 : AV) = agCellRow l_1) ∧ ((false = true → true = true) ∧ 1 = 1 ∧ strokes_1.length = strokes_1.length ∧ ∀ i, i < strokes_1.length → (fStroke true strokes_1) i = (fStroke false strokes_1) i ∨ (AV.idsL ((fStroke false strokes_1) i) = [] ∧ leL (fun _ => none) false ((fStroke true strokes_1) i) ((fStroke false strokes_1) i))) ∧ ((Sv v_1 : AV) = Sv v_1) ∧ True] (by kernel_rfl) hB ⟨⟨(specRunGestures_ok l_1 strokes_1 v_1 (by omega) (by omega)), rfl, ⟨(fun h => by cases h), rfl, rfl, fun i _ => .inr ⟨idsStroke _ _, leStroke _ _ _⟩⟩, rfl, trivial⟩, trivial⟩ ?_
   refine ae_then ?_
   refine aw_seq ?_
   refine aw_seq ?_
   refine aw_reg [(2, .dec false), (6, .dec false), (11, .dec false)] [0, 3, 4, 5, 6, 7, 8, 55] [3, 6] [slU8 false code, .ref 3 0, slStroke true strokes_1, Sv v_1, .ref 6 0, I ((runR l_1 strokes_1 v_1).2.1), I ((runR l_1 strokes_1 v_1).2.2), Bv false] [some (bxCellRow l_1), some (bxCellRow ((runR l_1 strokes_1 v_1).1))] [¬ (((runR l_1 strokes_1 v_1).2.2) ≠ ((runR l_1 strokes_1 v_1).2.2)), ¬ (((runR l_1 strokes_1 v_1).2.1) ≠ ((runR l_1 strokes_1 v_1).2.1)), ¬ (¬ ((((runR l_1 strokes_1 v_1).1).Text) = (((runR l_1 strokes_1 v_1).1).Text) ∧ (((runR l_1 strokes_1 v_1).1).X) = (((runR l_1 strokes_1 v_1).1).X) ∧ (((runR l_1 strokes_1 v_1).1).Y) = (((runR l_1 strokes_1 v_1).1).Y) ∧ (((runR l_1 strokes_1 v_1).1).Cell) = (((runR l_1 strokes_1 v_1).1).Cell) ∧ True))] (by kernel_rfl) hB ⟨(fun hq => hq rfl), (fun hq => hq rfl), (fun hq => hq ⟨rfl, rfl, rfl, rfl, trivial⟩), trivial⟩ ?_
   refine ae_then ?_
   refine aw_false rfl ?_
   refine aw_skip ?_
   refine ae_then ?_
   refine aw_seq ?_
   refine aw_seq ?_
   by_cases h2 : ((runR l_1 strokes_1 v_1).2.2) = 0
   ·refine aw_reg [(1, .dec false)] [0, 3, 4, 5, 6, 7, 57] [3, 6] [slU8 false code, .ref 3 0, slStroke true strokes_1, Sv v_1, .ref 6 0, I ((runR l_1 strokes_1 v_1).2.1), Bv false] [some (bxCellRow l_1), some (bxCellRow ((runR l_1 strokes_1 v_1).1))] [¬ (((runR l_1 strokes_1 v_1).2.2) ≠ 0)] (by kernel_rfl) hB ⟨(fun hq => hq h2), trivial⟩ ?_
    refine ae_then ?_
    refine aw_false rfl ?_
    refine aw_skip ?_
    refine ae_then ?_
    refine aw_seq ?_
    obtain ⟨d'_2, hx2_0, hc2⟩ := f6roll_ok code 2302 (by assumption) (by omega)
    obtain ⟨v_3, d'_3, hx3_0, hx3_1, hc3⟩ := below_ok d'_2 ((strokes_1.length : Int) + 1) (by assumption) (by omega)
    have hsp := run_split (by assumption) v_3.toNat (by omega)
    have hbd1 := run_bd l_1 (strokes_1.take v_3.toNat) v_1
    have hbd2 := run_bd (runR l_1 (strokes_1.take v_3.toNat) v_1).1 (strokes_1.drop v_3.toNat) v_1
    have hl1 : (strokes_1.take v_3.toNat).length ≤ 6 := by simp; omega
    have hl2 : (strokes_1.drop v_3.toNat).length ≤ 6 := by simp; omega
    refine aw_reg [(1, .lend [] [(7002, bxf6dice d'_2)] [(true, slU8 false code), (true, .val (.int .u64 2302))] false (.ref 7002 0)), (5, .lend [(7002, bxf6dice d'_2, bxf6dice d'_3)] [] [(true, .ref 7002 0), (true, I ((strokes_1.length : Int) + 1))] true (I v_3))] [3, 4, 5, 6, 7, 12] [3, 6] [.ref 3 0, slStroke true strokes_1, Sv v_1, .ref 6 0, I ((runR l_1 strokes_1 v_1).2.1), I v_3] [some (bxCellRow l_1), some (bxCellRow ((runR l_1 strokes_1 v_1).1))] [CallOK Tryd.prog 18 [slU8 false code, .val (.int .u64 2302)] (lookO []) false (.ref 7002 0) (lookO [(7002, bxf6dice d'_2)]) ∧ ((slU8 false code : AV) = slU8 false code) ∧ ((.val (.int .u64 2302) : AV) = .val (.int .u64 2302)) ∧ True, inR .i64 ((strokes_1.length : Int) + 1), CallOK Tryd.prog 19 [.ref 7002 0, I ((strokes_1.length : Int) + 1)] (lookO [(7002, bxf6dice d'_2)]) true (I v_3) (lookO [(7002, bxf6dice d'_3)]) ∧ ((.ref 7002 0 : AV) = .ref 7002 0) ∧ ((I ((strokes_1.length : Int) + 1) : AV) = I ((strokes_1.length : Int) + 1)) ∧ (((bxf6dice d'_2 : Ob) = bxf6dice d'_2 ∨ obLe noOb true (bxf6dice d'_2) (bxf6dice d'_2)) ∧ taggedO false (bxf6dice d'_2)) ∧ True] (by kernel_rfl) hB ⟨⟨hc2, rfl, rfl, trivial⟩, (inR_i64 (by omega) (by omega)), ⟨hc3, rfl, rfl, ⟨.inl rfl, (by simp [taggedO, taggedL, tagged, tagU8])⟩, trivial⟩, trivial⟩ ?_
    refine ae_then ?_
    refine aw_seq ?_
    refine aw_reg [(5, .call [(true, agCellRow l_1), (false, slStroke false (strokes_1.take v_3.toNat)), (true, Sv v_1)] true (.tup [agCellRow ((runR l_1 (strokes_1.take v_3.toNat) v_1).1), I ((runR l_1 (strokes_1.take v_3.toNat) v_1).2.1), I ((runR l_1 (strokes_1.take v_3.toNat) v_1).2.2)])), (10, .new 13)] [4, 5, 6, 7, 12, 13, 14, 15] [6, 13] [slStroke true strokes_1, Sv v_1, .ref 6 0, I ((runR l_1 strokes_1 v_1).2.1), I v_3, .ref 13 0, I ((runR l_1 (strokes_1.take v_3.toNat) v_1).2.1), I ((runR l_1 (strokes_1.take v_3.toNat) v_1).2.2)] [some (bxCellRow ((runR l_1 strokes_1 v_1).1)), some (bxCellRow ((runR l_1 (strokes_1.take v_3.toNat) v_1).1))] [(0 : Int) ≤ 0 ∧ (0 : Int) ≤ v_3 ∧ v_3 ≤ (strokes_1.length : Int), Con Tryd.prog 16 [agCellRow l_1, slStroke false (strokes_1.take v_3.toNat), Sv v_1] true (.tup [agCellRow ((runR l_1 (strokes_1.take v_3.toNat) v_1).1), I ((runR l_1 (strokes_1.take v_3.toNat) v_1).2.1), I ((runR l_1 (strokes_1.take v_3.toNat) v_1).2.2)]) ∧ ((agCellRow l_1 : AV) = agCellRow l_1) ∧ ((false = true → true = true) ∧ 1 = 1 ∧ (v_3.toNat - 0) = ((strokes_1.take v_3.toNat).length) ∧ ∀ i, i < ((strokes_1.take v_3.toNat).length) → (cutF 0 (fStroke true strokes_1)) i = (fStroke false (strokes_1.take v_3.toNat)) i ∨ (AV.idsL ((fStroke false (strokes_1.take v_3.toNat)) i) = [] ∧ leL (fun _ => none) false ((cutF 0 (fStroke true strokes_1)) i) ((fStroke false (strokes_1.take v_3.toNat)) i))) ∧ ((Sv v_1 : AV) = Sv v_1) ∧ True] (by kernel_rfl) hB ⟨⟨(by omega), (by omega), (by omega)⟩, ⟨(implRunGestures_ok l_1 (strokes_1.take v_3.toNat) v_1 (by omega) (by omega)), rfl, ⟨(fun h => by cases h), rfl, (by first | rfl | (simp; done) | (simp; omega) | omega), fun i hi => .inr ⟨idsStroke _ _, (by have e : (cutF 0 (fStroke true strokes_1)) i = cStroke true (at_ (strokes_1.take v_3.toNat) i) := cut_take (enc := cStroke true) hi; rw [e]; exact leStroke _ _ _)⟩⟩, rfl, trivial⟩, trivial⟩ ?_
    refine ae_then ?_
    refine aw_seq ?_
    refine aw_reg [(5, .call [(true, agCellRow ((runR l_1 (strokes_1.take v_3.toNat) v_1).1)), (false, slStroke false (strokes_1.drop v_3.toNat)), (true, Sv v_1)] true (.tup [agCellRow ((runR ((runR l_1 (strokes_1.take v_3.toNat) v_1).1) (strokes_1.drop v_3.toNat) v_1).1), I ((runR ((runR l_1 (strokes_1.take v_3.toNat) v_1).1) (strokes_1.drop v_3.toNat) v_1).2.1), I ((runR ((runR l_1 (strokes_1.take v_3.toNat) v_1).1) (strokes_1.drop v_3.toNat) v_1).2.2)])), (10, .new 16)] [6, 7, 14, 15, 16, 17, 18] [6, 16] [.ref 6 0, I ((runR l_1 strokes_1 v_1).2.1), I ((runR l_1 (strokes_1.take v_3.toNat) v_1).2.1), I ((runR l_1 (strokes_1.take v_3.toNat) v_1).2.2), .ref 16 0, I ((runR ((runR l_1 (strokes_1.take v_3.toNat) v_1).1) (strokes_1.drop v_3.toNat) v_1).2.1), I ((runR ((runR l_1 (strokes_1.take v_3.toNat) v_1).1) (strokes_1.drop v_3.toNat) v_1).2.2)] [some (bxCellRow ((runR l_1 strokes_1 v_1).1)), some (bxCellRow ((runR ((runR l_1 (strokes_1.take v_3.toNat) v_1).1) (strokes_1.drop v_3.toNat) v_1).1))] [(0 : Int) ≤ v_3 ∧ v_3 ≤ (strokes_1.length : Int) ∧ (strokes_1.length : Int) ≤ (strokes_1.length : Int), Con Tryd.prog 16 [agCellRow ((runR l_1 (strokes_1.take v_3.toNat) v_1).1), slStroke false (strokes_1.drop v_3.toNat), Sv v_1] true (.tup [agCellRow ((runR ((runR l_1 (strokes_1.take v_3.toNat) v_1).1) (strokes_1.drop v_3.toNat) v_1).1), I ((runR ((runR l_1 (strokes_1.take v_3.toNat) v_1).1) (strokes_1.drop v_3.toNat) v_1).2.1), I ((runR ((runR l_1 (strokes_1.take v_3.toNat) v_1).1) (strokes_1.drop v_3.toNat) v_1).2.2)]) ∧ ((agCellRow ((runR l_1 (strokes_1.take v_3.toNat) v_1).1) : AV) = agCellRow ((runR l_1 (strokes_1.take v_3.toNat) v_1).1)) ∧ ((false = true → true = true) ∧ 1 = 1 ∧ ((strokes_1.length : Int).toNat - v_3.toNat) = ((strokes_1.drop v_3.toNat).length) ∧ ∀ i, i < ((strokes_1.drop v_3.toNat).length) → (cutF v_3.toNat (fStroke true strokes_1)) i = (fStroke false (strokes_1.drop v_3.toNat)) i ∨ (AV.idsL ((fStroke false (strokes_1.drop v_3.toNat)) i) = [] ∧ leL (fun _ => none) false ((cutF v_3.toNat (fStroke true strokes_1)) i) ((fStroke false (strokes_1.drop v_3.toNat)) i))) ∧ ((Sv v_1 : AV) = Sv v_1) ∧ True] (by kernel_rfl) hB ⟨⟨(by omega), (by omega), (by omega)⟩, ⟨(implRunGestures_ok ((runR l_1 (strokes_1.take v_3.toNat) v_1).1) (strokes_1.drop v_3.toNat) v_1 (by omega) (by omega)), rfl, ⟨(fun h => by cases h), rfl, (by first | rfl | (simp; done) | (simp; omega) | omega), fun i hi => .inr ⟨idsStroke _ _, (by have e : (cutF v_3.toNat (fStroke true strokes_1)) i = cStroke true (at_ (strokes_1.drop v_3.toNat) i) := cut_drop (enc := cStroke true) hi; rw [e]; exact leStroke _ _ _)⟩⟩, rfl, trivial⟩, trivial⟩ ?_
    refine ae_then ?_
    refine aw_seq ?_
    refine aw_reg [(1, .dec true), (4, .dec true), (11, .dec true), (16, .dec true)] [2] [] [Bv true] [] [((runR l_1 (strokes_1.take v_3.toNat) v_1).2.2) = 0, ((runR ((runR l_1 (strokes_1.take v_3.toNat) v_1).1) (strokes_1.drop v_3.toNat) v_1).2.2) = 0, inR .i64 (((runR l_1 (strokes_1.take v_3.toNat) v_1).2.1) + ((runR ((runR l_1 (strokes_1.take v_3.toNat) v_1).1) (strokes_1.drop v_3.toNat) v_1).2.1)), (((runR l_1 (strokes_1.take v_3.toNat) v_1).2.1) + ((runR ((runR l_1 (strokes_1.take v_3.toNat) v_1).1) (strokes_1.drop v_3.toNat) v_1).2.1)) = ((runR l_1 strokes_1 v_1).2.1), (((runR ((runR l_1 (strokes_1.take v_3.toNat) v_1).1) (strokes_1.drop v_3.toNat) v_1).1).Text) = (((runR l_1 strokes_1 v_1).1).Text) ∧ (((runR ((runR l_1 (strokes_1.take v_3.toNat) v_1).1) (strokes_1.drop v_3.toNat) v_1).1).X) = (((runR l_1 strokes_1 v_1).1).X) ∧ (((runR ((runR l_1 (strokes_1.take v_3.toNat) v_1).1) (strokes_1.drop v_3.toNat) v_1).1).Y) = (((runR l_1 strokes_1 v_1).1).Y) ∧ (((runR ((runR l_1 (strokes_1.take v_3.toNat) v_1).1) (strokes_1.drop v_3.toNat) v_1).1).Cell) = (((runR l_1 strokes_1 v_1).1).Cell) ∧ True] (by kernel_rfl) hB ⟨hsp.1, hsp.2.1, (inR_i64 (by omega) (by omega)), hsp.2.2.1, (by rw [hsp.2.2.2]; simp), trivial⟩ ?_
    refine ae_then ?_
    refine aw_ret ?_
    refine ae_ret hB (Bv true) (by kernel_rfl) (.inl rfl) rfl (fun _ => trivial)
   ·refine aw_reg [(1, .dec true)] [0, 3, 4, 5, 6, 7, 57] [3, 6] [slU8 false code, .ref 3 0, slStroke true strokes_1, Sv v_1, .ref 6 0, I ((runR l_1 strokes_1 v_1).2.1), Bv true] [some (bxCellRow l_1), some (bxCellRow ((runR l_1 strokes_1 v_1).1))] [((runR l_1 strokes_1 v_1).2.2) ≠ 0] (by kernel_rfl) hB ⟨h2, trivial⟩ ?_
    refine ae_then ?_
    refine aw_true rfl ?_
    refine aw_seq ?_
    refine aw_reg [] [2] [] [Bv true] [] [] (by kernel_rfl) hB trivial ?_
    refine ae_then ?_
    refine aw_ret ?_
    refine ae_ret_then ?_
    refine ae_ret hB (Bv true) (by kernel_rfl) (.inl rfl) rfl (fun _ => trivial)


/-! ### the row -/

theorem opens_t22 : OpensA Tryd.prog 22 (cLU8 false) (fun xs => ∀ y ∈ xs, inR .u8 y) :=
  opensA_slice (c := cU8) (sz := 1) Tryd.underlying22 (by kernel_rfl) (by decide) (fun x => ⟨rfl, by simp [oneA, cU8]⟩) (opensA_int Tryd.underlying5)

namespace fnRunGestures
set_option maxRecDepth 100000 in
theorem lifted (os : Os) (started : os.Started) (H : Type) (enc : TypeId × Value → H) :
    ReturnsInHanded {} Tryd.checked os 4 .any (fun w args => (Rows.fnRunGesturesSpec.pre enc Tryd.prog Tryd.f4 Rows.fnRunGesturesRow.domain false w args ∧ laidMetH Tryd.prog Rows.fnRunGesturesRow.laid w) ∧ sizedMet enc Tryd.prog Tryd.f4 (OpenSpec.ofChange Rows.fnRunGesturesSpec) false w args)
      (Rows.fnRunGesturesSpec.post enc Tryd.prog Tryd.f4 false true false false) := by
  refine returnsInHanded_of_change_and (C := Tryd.checked) (X := fun w _ => laidMetH Tryd.prog Rows.fnRunGesturesRow.laid w) (fun _ _ _ hh h => h.of_heap hh) Tryd.own started (by kernel_rfl) Tryd.func4
    (ChangeSpec.witness_shaped (enc := enc) (C := Tryd.checked) (os := os) (X := fun w _ => laidMetH Tryd.prog Rows.fnRunGesturesRow.laid w) false (World.laidAll Tryd.prog os Rows.fnRunGesturesRow.laid) #[.slice none 0 0] 8 (World.laidAll_os _ _ _)
      (World.shaped_of_ZipB (by kernel_rfl) (by kernel_rfl)) (by kernel_rfl) (by kernel_rfl) (by kernel_rfl)
      (by rw [MakeChecks.laidMetH_plain _ _ _ (by kernel_rfl)]; exact laidMet_laidAll _ (by kernel_rfl) (by kernel_rfl))) ?_
  intro W base args ds gs before hval0 hW hcnd hsz hL _
  have hW' := hW
  obtain ⟨p, q, hA0, hV, rfl, hfz, hnd⟩ := hW
  have hval : ∀ (j : Nat) t v, Tryd.f4.params[j]? = some t → args[j]? = some v → Value.okWide Tryd.prog W .any base t v := hval0
  have hA : DataW.TrodAll enc Tryd.prog W 0 (fun _ => true) true Tryd.f4.params.toList args.toList ds p := hA0
  rw [Tryd.params4] at hA hval
  obtain ⟨v0, vs0, d0, ds0, p0, q0, hargs, rfl, rfl, h0, r0⟩ := trodAll_cons hA
  obtain ⟨rfl, rfl, rfl⟩ := trodAll_nil r0
  obtain rfl : args = #[v0] := args_eq hargs
  obtain ⟨rfl, rfl⟩ := trodVars_none hV
  obtain ⟨fuel0, hf0⟩ := h0
  obtain ⟨A0, l0, c0, rfl⟩ := okWide_slice Tryd.underlying22 (hval 0 22 v0 rfl rfl)
  obtain ⟨x0, rx0, ok0⟩ := (opens_t22) enc W 0 _ _ _ _ _ hf0
  refine (walk_of0 (fnRunGestures_con x0 ok0) (fun w _ => WX_free w) (RelTL.cons (relTL_one rx0) RelTL.nil)).mono fun e W1 ⟨he, hb⟩ => ?_
  subst he
  exact ⟨_, rfl, law_post Tryd.laidOut rfl Tryd.underlying4 (of_decide_eq_true (by kernel_rfl)) rfl hW' hb rfl⟩

theorem over : Rows.fnRunGesturesRow.holds Tryd.pinned (OpenSpec.ofChange Rows.fnRunGesturesSpec) :=
  OpenClaim.holds_of_wide 4 Tryd.f4 rfl rfl rfl rfl rfl rfl rfl ⟨rfl, rfl, rfl, rfl, rfl⟩ rfl rfl rfl rfl rfl (by kernel_rfl) Tryd.func4 (by kernel_rfl)
    (of_decide_eq_true (by kernel_rfl)) (by unfold Func.isWrapper; first | (rw [if_pos (by decide +kernel)]; kernel_rfl) | (rw [if_neg (by decide +kernel)]; exact ⟨rfl, rfl⟩))
    (fun os started H enc _ => lifted os started H enc)

theorem proved : Rows.FnRunGesturesCardSaid :=
  Claim7.holds_tied_plain_at .later [] [.data, .pinned] true (true, "bdffe88b6a2c8d91469ffe3ec0b0f67dd312609ebd5c33682978ab5718548083") false over (fun _ h => by cases h) (by kernel_rfl) (fun _ h => by cases h) fnRunGestures_row_tie rfl ⟨rfl, rfl⟩ (by kernel_rfl) rfl
    (fun f fn hf hfn => by
      obtain rfl : f = 4 := Option.some.inj ((show Tryd.prog.funcNamed "loop.example/g00918/laws.FnRunGestures" = some 4 by kernel_rfl).symm.trans hf) |>.symm
      obtain rfl : fn = Tryd.f4 := (Option.some.inj (Tryd.func4.symm.trans hfn)).symm
      exact ⟨by kernel_rfl, fun j t ht => by
        rw [Tryd.params4] at ht
        have hm : t ∈ [22] := by simpa using Array.mem_of_getElem? ht
        have hall : ([22].all fun u => !Tryd.prog.wantsStandIn u) = true := by kernel_rfl
        exact (show Tryd.prog.wantsStandIn t = false by simpa using List.all_eq_true.1 hall t hm)⟩)
    (by kernel_rfl)
#print axioms proved
end fnRunGestures
end Go.Proofs.YtebcbkejkpjeoaaDoor.Ax
