/- Contracts that the statement FnGuesses reaches, part 2. No conditions. -/
import Derived.Test.YtinncgigkiclpaaGreatAxLGuesses1
import Derived.Lib.IndexBytes
import Derived.Lib.ItoaNum
import Derived.Lib.ParseIntBCases
import Derived.Lib.SplitLaws
import Derived.Test.YtinncgigkiclpaaGreatAxR
import Derived.Test.YtinncgigkiclpaaGreatAxS
import Derived.Test.YtinncgigkiclpaaGreatAxY
namespace Go.Proofs.YtinncgigkiclpaaGreat.Ax
open Go.RowKit Go.ChangeShapes Go.WideShapes
set_option linter.unusedVariables false
set_option linter.unusedSimpArgs false


-- spec.l05Sector
theorem l05Sector_ok (dx : Int) (dy : Int) (hd : (-4095 ≤ dx ∧ dx ≤ 4095) ∧ -4095 ≤ dy ∧ dy ≤ 4095) : Con Tryz.prog 96 [I dx, I dy] true (I (dirI dx dy)) := by
  have hx2 := two_sq (x := (dx.natAbs : Int)) (by omega) (by omega)
  have hy2 := two_sq (x := (dy.natAbs : Int)) (by omega) (by omega)
  have hs2 := sq_bd (x := (dx.natAbs : Int) + (dy.natAbs : Int)) (B := 8190) (by omega) (by omega)
  have hz := @dir_zero dx dy
  refine fn_ok (fn := Tryz.f96) (nt := 54) Tryz.func96 rfl rfl rfl rfl (by simp [taggedL, tagged]) fun B hB => ?_
  refine aR [] [0, 1] [] [I dx, I dy] [] [] hB trivial ?_
  refine aR [(1, .call [(true, .any)] true (I (dx.natAbs : Int)))] [0, 1, 5] [] [I dx, I dy, I (dx.natAbs : Int)] [] [Con Tryz.prog 136 [I dx] true (I (dx.natAbs : Int)) ∧ True] hB ⟨⟨(l05Size_ok dx (by omega)), trivial⟩, trivial⟩ ?_
  refine aR [(1, .call [(true, .any)] true (I (dy.natAbs : Int)))] [0, 1, 5, 6] [] [I dx, I dy, I (dx.natAbs : Int), I (dy.natAbs : Int)] [] [Con Tryz.prog 136 [I dy] true (I (dy.natAbs : Int)) ∧ True] hB ⟨⟨(l05Size_ok dy (by omega)), trivial⟩, trivial⟩ ?_
  refine aR [] [0, 1, 5, 6, 7] [] [I dx, I dy, I (dx.natAbs : Int), I (dy.natAbs : Int), I (((dx.natAbs : Int) + (dy.natAbs : Int)) * ((dx.natAbs : Int) + (dy.natAbs : Int)))] [] [inR .i64 ((dx.natAbs : Int) + (dy.natAbs : Int)), inR .i64 ((dx.natAbs : Int) + (dy.natAbs : Int)), inR .i64 (((dx.natAbs : Int) + (dy.natAbs : Int)) * ((dx.natAbs : Int) + (dy.natAbs : Int)))] hB ⟨(inR_i64 (by omega) (by omega)), (inR_i64 (by omega) (by omega)), (inR_i64 (by omega) (by omega)), trivial⟩ ?_
  refine aw_seq ?_
  refine aw_block ?_
  refine aw_seq ?_
  by_cases h1 : (((dx.natAbs : Int) + (dy.natAbs : Int)) * ((dx.natAbs : Int) + (dy.natAbs : Int))) ≤ ((2 * (dx.natAbs : Int)) * (dx.natAbs : Int))
  ·refine aw_r [(5, .dec true)] [0, 1, 6, 7, 19] [] [I dx, I dy, I (dy.natAbs : Int), I (((dx.natAbs : Int) + (dy.natAbs : Int)) * ((dx.natAbs : Int) + (dy.natAbs : Int))), Bv true] [] [inR .i64 (2 * (dx.natAbs : Int)), inR .i64 ((2 * (dx.natAbs : Int)) * (dx.natAbs : Int)), (((dx.natAbs : Int) + (dy.natAbs : Int)) * ((dx.natAbs : Int) + (dy.natAbs : Int))) ≤ ((2 * (dx.natAbs : Int)) * (dx.natAbs : Int))] hB ⟨(inR_i64 (by omega) (by omega)), (inR_i64 (by omega) (by omega)), h1, trivial⟩ ?_
   refine ae_then ?_
   refine aw_true rfl ?_
   refine aw_seq ?_
   refine aw_seq ?_
   by_cases h2 : 0 < dx
   ·refine aw_r [(1, .dec true)] [27] [] [Bv true] [] [0 < dx] hB ⟨h2, trivial⟩ ?_
    refine ae_then ?_
    refine aw_true rfl ?_
    refine aR [] [4] [] [I 0] [] [] hB trivial ?_
    refine aw_ret ?_
    refine ae_ret_then (ae_ret_block (ae_ret_then ?_))
    refine ae_ret hB (I 0) (by kernel_rfl) (.inl (by refine congrArg I ?_; unfold dirI; (repeat' split) <;> first | rfl | omega)) rfl (fun _ => trivial)
   refine aw_r [(1, .dec false)] [27] [] [Bv false] [] [¬ (0 < dx)] hB ⟨h2, trivial⟩ ?_
   refine ae_then ?_
   refine aw_false rfl ?_
   refine aw_skip ?_
   refine ae_then ?_
   refine aR [] [4] [] [I 4] [] [] hB trivial ?_
   refine aw_ret ?_
   refine ae_ret_block (ae_ret_then ?_)
   refine ae_ret hB (I 4) (by kernel_rfl) (.inl (by refine congrArg I ?_; unfold dirI; (repeat' split) <;> first | rfl | omega)) rfl (fun _ => trivial)
  refine aw_r [(5, .dec false)] [0, 1, 6, 7, 19] [] [I dx, I dy, I (dy.natAbs : Int), I (((dx.natAbs : Int) + (dy.natAbs : Int)) * ((dx.natAbs : Int) + (dy.natAbs : Int))), Bv false] [] [inR .i64 (2 * (dx.natAbs : Int)), inR .i64 ((2 * (dx.natAbs : Int)) * (dx.natAbs : Int)), ¬ ((((dx.natAbs : Int) + (dy.natAbs : Int)) * ((dx.natAbs : Int) + (dy.natAbs : Int))) ≤ ((2 * (dx.natAbs : Int)) * (dx.natAbs : Int)))] hB ⟨(inR_i64 (by omega) (by omega)), (inR_i64 (by omega) (by omega)), h1, trivial⟩ ?_
  refine ae_then ?_
  refine aw_false rfl ?_
  refine aw_seq ?_
  by_cases h3 : (((dx.natAbs : Int) + (dy.natAbs : Int)) * ((dx.natAbs : Int) + (dy.natAbs : Int))) ≤ ((2 * (dy.natAbs : Int)) * (dy.natAbs : Int))
  ·refine aw_r [(5, .dec true)] [0, 1, 28] [] [I dx, I dy, Bv true] [] [inR .i64 (2 * (dy.natAbs : Int)), inR .i64 ((2 * (dy.natAbs : Int)) * (dy.natAbs : Int)), (((dx.natAbs : Int) + (dy.natAbs : Int)) * ((dx.natAbs : Int) + (dy.natAbs : Int))) ≤ ((2 * (dy.natAbs : Int)) * (dy.natAbs : Int))] hB ⟨(inR_i64 (by omega) (by omega)), (inR_i64 (by omega) (by omega)), h3, trivial⟩ ?_
   refine ae_then ?_
   refine aw_true rfl ?_
   refine aw_seq ?_
   refine aw_seq ?_
   by_cases h4 : 0 < dy
   ·refine aw_r [(1, .dec true)] [36] [] [Bv true] [] [0 < dy] hB ⟨h4, trivial⟩ ?_
    refine ae_then ?_
    refine aw_true rfl ?_
    refine aR [] [4] [] [I 2] [] [] hB trivial ?_
    refine aw_ret ?_
    refine ae_ret_then (ae_ret_block (ae_ret_then ?_))
    refine ae_ret hB (I 2) (by kernel_rfl) (.inl (by refine congrArg I ?_; unfold dirI; (repeat' split) <;> first | rfl | omega)) rfl (fun _ => trivial)
   refine aw_r [(1, .dec false)] [36] [] [Bv false] [] [¬ (0 < dy)] hB ⟨h4, trivial⟩ ?_
   refine ae_then ?_
   refine aw_false rfl ?_
   refine aw_skip ?_
   refine ae_then ?_
   refine aR [] [4] [] [I 6] [] [] hB trivial ?_
   refine aw_ret ?_
   refine ae_ret_block (ae_ret_then ?_)
   refine ae_ret hB (I 6) (by kernel_rfl) (.inl (by refine congrArg I ?_; unfold dirI; (repeat' split) <;> first | rfl | omega)) rfl (fun _ => trivial)
  refine aw_r [(5, .dec false)] [0, 1, 28] [] [I dx, I dy, Bv false] [] [inR .i64 (2 * (dy.natAbs : Int)), inR .i64 ((2 * (dy.natAbs : Int)) * (dy.natAbs : Int)), ¬ ((((dx.natAbs : Int) + (dy.natAbs : Int)) * ((dx.natAbs : Int) + (dy.natAbs : Int))) ≤ ((2 * (dy.natAbs : Int)) * (dy.natAbs : Int)))] hB ⟨(inR_i64 (by omega) (by omega)), (inR_i64 (by omega) (by omega)), h3, trivial⟩ ?_
  refine ae_then ?_
  refine aw_false rfl ?_
  refine aw_seq ?_
  by_cases h5 : 0 < dx
  ·by_cases h6 : 0 < dy
   ·refine aw_r [(1, .dec true), (4, .dec true)] [0, 1, 37] [] [I dx, I dy, Bv true] [] [0 < dx, 0 < dy] hB ⟨h5, h6, trivial⟩ ?_
    refine ae_then ?_
    refine aw_true rfl ?_
    refine aR [] [4] [] [I 1] [] [] hB trivial ?_
    refine aw_ret ?_
    refine ae_ret_block (ae_ret_then ?_)
    refine ae_ret hB (I 1) (by kernel_rfl) (.inl (by refine congrArg I ?_; unfold dirI; (repeat' split) <;> first | rfl | omega)) rfl (fun _ => trivial)
   refine aw_r [(1, .dec true), (4, .dec false)] [0, 1, 37] [] [I dx, I dy, Bv false] [] [0 < dx, ¬ (0 < dy)] hB ⟨h5, h6, trivial⟩ ?_
   refine ae_then ?_
   refine aw_false rfl ?_
   refine aw_seq ?_
   by_cases h7 : dx < 0
   ·refine aw_r [(1, .dec true), (4, .dec false)] [0, 44] [] [I dx, Bv false] [] [dx < 0, ¬ (0 < dy)] hB ⟨h7, h6, trivial⟩ ?_
    refine ae_then ?_
    refine aw_false rfl ?_
    refine aR [(1, .dec true)] [51] [] [Bv true] [] [dx < 0] hB ⟨h7, trivial⟩ ?_
    refine aw_true rfl ?_
    refine aR [] [4] [] [I 5] [] [] hB trivial ?_
    refine aw_ret ?_
    refine ae_ret_block (ae_ret_then ?_)
    refine ae_ret hB (I 5) (by kernel_rfl) (.inl (by refine congrArg I ?_; unfold dirI; (repeat' split) <;> first | rfl | omega)) rfl (fun _ => trivial)
   refine aw_r [(1, .dec false)] [0, 44] [] [I dx, Bv false] [] [¬ (dx < 0)] hB ⟨h7, trivial⟩ ?_
   refine ae_then ?_
   refine aw_false rfl ?_
   refine aR [(1, .dec false)] [51] [] [Bv false] [] [¬ (dx < 0)] hB ⟨h7, trivial⟩ ?_
   refine aw_false rfl ?_
   refine aw_skip ?_
   refine ae_block 0 ?_
   refine ae_then ?_
   refine aR [] [4] [] [I 7] [] [] hB trivial ?_
   refine aw_ret ?_
   refine ae_ret hB (I 7) (by kernel_rfl) (.inl (by refine congrArg I ?_; unfold dirI; (repeat' split) <;> first | rfl | omega)) rfl (fun _ => trivial)
  refine aw_r [(1, .dec false)] [0, 1, 37] [] [I dx, I dy, Bv false] [] [¬ (0 < dx)] hB ⟨h5, trivial⟩ ?_
  refine ae_then ?_
  refine aw_false rfl ?_
  refine aw_seq ?_
  by_cases h8 : dx < 0
  ·by_cases h9 : 0 < dy
   ·refine aw_r [(1, .dec true), (4, .dec true)] [0, 44] [] [I dx, Bv true] [] [dx < 0, 0 < dy] hB ⟨h8, h9, trivial⟩ ?_
    refine ae_then ?_
    refine aw_true rfl ?_
    refine aR [] [4] [] [I 3] [] [] hB trivial ?_
    refine aw_ret ?_
    refine ae_ret_block (ae_ret_then ?_)
    refine ae_ret hB (I 3) (by kernel_rfl) (.inl (by refine congrArg I ?_; unfold dirI; (repeat' split) <;> first | rfl | omega)) rfl (fun _ => trivial)
   refine aw_r [(1, .dec true), (4, .dec false)] [0, 44] [] [I dx, Bv false] [] [dx < 0, ¬ (0 < dy)] hB ⟨h8, h9, trivial⟩ ?_
   refine ae_then ?_
   refine aw_false rfl ?_
   refine aR [(1, .dec true)] [51] [] [Bv true] [] [dx < 0] hB ⟨h8, trivial⟩ ?_
   refine aw_true rfl ?_
   refine aR [] [4] [] [I 5] [] [] hB trivial ?_
   refine aw_ret ?_
   refine ae_ret_block (ae_ret_then ?_)
   refine ae_ret hB (I 5) (by kernel_rfl) (.inl (by refine congrArg I ?_; unfold dirI; (repeat' split) <;> first | rfl | omega)) rfl (fun _ => trivial)
  refine aw_r [(1, .dec false)] [0, 44] [] [I dx, Bv false] [] [¬ (dx < 0)] hB ⟨h8, trivial⟩ ?_
  refine ae_then ?_
  refine aw_false rfl ?_
  refine aR [(1, .dec false)] [51] [] [Bv false] [] [¬ (dx < 0)] hB ⟨h8, trivial⟩ ?_
  refine aw_false rfl ?_
  refine aw_skip ?_
  refine ae_block 0 ?_
  refine ae_then ?_
  refine aR [] [4] [] [I 7] [] [] hB trivial ?_
  refine aw_ret ?_
  refine ae_ret hB (I 7) (by kernel_rfl) (.inl (by refine congrArg I ?_; unfold dirI; (repeat' split) <;> first | rfl | omega)) rfl (fun _ => trivial)



-- spec.l07Side
theorem l07Side_ok (b : Box) (hb : okBox b) : Con Tryz.prog 137 [agBox b] true (I (sideB b)) := by
  unfold okBox at hb
  refine fn_ok (fn := Tryz.f137) (nt := 15) Tryz.func137 rfl rfl rfl rfl (by simp [taggedL, tagged]) fun B hB => ?_
  refine aR [(0, .new 1)] [1] [1] [.ref 1 0] [some (bxBox b)] [] hB trivial ?_
  refine aR [(10, .call [(true, .any), (true, .any)] true (I (max (b.X2 - b.X1) (b.Y2 - b.Y1)))), (11, .call [(true, .any), (true, .any)] true (I (max 1 (max (b.X2 - b.X1) (b.Y2 - b.Y1)))))] [2] [] [I (max 1 (max (b.X2 - b.X1) (b.Y2 - b.Y1)))] [] [inR .i64 (b.X2 - b.X1), inR .i64 (b.Y2 - b.Y1), Con Tryz.prog 120 [I (b.X2 - b.X1), I (b.Y2 - b.Y1)] true (I (max (b.X2 - b.X1) (b.Y2 - b.Y1))) ∧ True, Con Tryz.prog 120 [I 1, I (max (b.X2 - b.X1) (b.Y2 - b.Y1))] true (I (max 1 (max (b.X2 - b.X1) (b.Y2 - b.Y1)))) ∧ True] hB ⟨(inR_i64 (by omega) (by omega)), (inR_i64 (by omega) (by omega)), ⟨(l00Max_ok (b.X2 - b.X1) (b.Y2 - b.Y1)), trivial⟩, ⟨(l00Max_ok 1 (max (b.X2 - b.X1) (b.Y2 - b.Y1))), trivial⟩, trivial⟩ ?_
  refine aw_ret ?_
  refine ae_ret hB (I (max 1 (max (b.X2 - b.X1) (b.Y2 - b.Y1)))) (by kernel_rfl) (.inl (by refine congrArg I ?_; unfold sideB; omega)) rfl (fun _ => trivial)



-- spec.l07Normal
theorem l07Normal_ok (p : Spot) (b : Box) (hb : okBox b) (hp : (b.X1 ≤ p.X ∧ p.X ≤ b.X2) ∧ b.Y1 ≤ p.Y ∧ p.Y ≤ b.Y2) : Con Tryz.prog 97 [.agg [I p.X, I p.Y], agBox b] true (.agg [I ((normP p b).X), I ((normP p b).Y)]) := by
  have hb0 := hb
  have hs := side_bd hb
  unfold okBox at hb
  have hqx := quo255 (w := b.X2 - b.X1) (d := sideB b) (by omega) (by omega) (by omega)
  have hqy := quo255 (w := b.Y2 - b.Y1) (d := sideB b) (by omega) (by omega) (by omega)
  have hnx := norm1 (x := p.X - b.X1) (w := b.X2 - b.X1) (d := sideB b) (by omega) (by omega) (by omega)
  have hny := norm1 (x := p.Y - b.Y1) (w := b.Y2 - b.Y1) (d := sideB b) (by omega) (by omega) (by omega)
  refine fn_ok (fn := Tryz.f97) (nt := 51) Tryz.func97 rfl rfl rfl rfl (by simp [taggedL, tagged]) fun B hB => ?_
  refine aR [(0, .new 2), (1, .new 3), (2, .new 4)] [2, 3, 4] [2, 3, 4] [.ref 2 0, .ref 3 0, .ref 4 0] [some (.box [I p.X, I p.Y]), some (bxBox b), some (.box [I 0, I 0])] [] hB trivial ?_
  refine aR [(1, .call [(true, .any)] true (I (sideB b)))] [2, 3, 4, 5] [2, 3, 4] [.ref 2 0, .ref 3 0, .ref 4 0, I (sideB b)] [some (.box [I p.X, I p.Y]), some (bxBox b), some (.box [I 0, I 0])] [Con Tryz.prog 137 [agBox b] true (I (sideB b)) ∧ True] hB ⟨⟨(l07Side_ok b hb0), trivial⟩, trivial⟩ ?_
  refine aR [(7, .nn), (9, .nn)] [2, 3, 4, 5, 6] [2, 3, 4] [.ref 2 0, .ref 3 0, .ref 4 0, I (sideB b), I ((255 - (((b.X2 - b.X1) * 255) / (sideB b))) / 2)] [some (.box [I p.X, I p.Y]), some (bxBox b), some (.box [I 0, I 0])] [inR .i64 (b.X2 - b.X1), inR .i64 ((b.X2 - b.X1) * 255), (0 : Int) ≤ ((b.X2 - b.X1) * 255) ∧ (0 : Int) < (sideB b) ∧ inR .i64 ((b.X2 - b.X1) * 255), inR .i64 (255 - (((b.X2 - b.X1) * 255) / (sideB b))), (0 : Int) ≤ (255 - (((b.X2 - b.X1) * 255) / (sideB b))) ∧ (0 : Int) < 2 ∧ inR .i64 (255 - (((b.X2 - b.X1) * 255) / (sideB b)))] hB ⟨(inR_i64 (by omega) (by omega)), (inR_i64 (by omega) (by omega)), ⟨(by omega), (by omega), (inR_i64 (by omega) (by omega))⟩, (inR_i64 (by omega) (by omega)), ⟨(by omega), (by omega), (inR_i64 (by omega) (by omega))⟩, trivial⟩ ?_
  refine aR [(7, .nn), (9, .nn)] [2, 3, 4, 5, 6, 7] [2, 3, 4] [.ref 2 0, .ref 3 0, .ref 4 0, I (sideB b), I ((255 - (((b.X2 - b.X1) * 255) / (sideB b))) / 2), I ((255 - (((b.Y2 - b.Y1) * 255) / (sideB b))) / 2)] [some (.box [I p.X, I p.Y]), some (bxBox b), some (.box [I 0, I 0])] [inR .i64 (b.Y2 - b.Y1), inR .i64 ((b.Y2 - b.Y1) * 255), (0 : Int) ≤ ((b.Y2 - b.Y1) * 255) ∧ (0 : Int) < (sideB b) ∧ inR .i64 ((b.Y2 - b.Y1) * 255), inR .i64 (255 - (((b.Y2 - b.Y1) * 255) / (sideB b))), (0 : Int) ≤ (255 - (((b.Y2 - b.Y1) * 255) / (sideB b))) ∧ (0 : Int) < 2 ∧ inR .i64 (255 - (((b.Y2 - b.Y1) * 255) / (sideB b)))] hB ⟨(inR_i64 (by omega) (by omega)), (inR_i64 (by omega) (by omega)), ⟨(by omega), (by omega), (inR_i64 (by omega) (by omega))⟩, (inR_i64 (by omega) (by omega)), ⟨(by omega), (by omega), (inR_i64 (by omega) (by omega))⟩, trivial⟩ ?_
  refine aR [(8, .call [(true, .any), (true, .any)] true (I (nearI ((p.X - b.X1) * 255) (sideB b)))), (18, .call [(true, .any), (true, .any)] true (I (nearI ((p.Y - b.Y1) * 255) (sideB b))))] [4] [4] [.ref 4 0] [some (.box [I (((255 - (((b.X2 - b.X1) * 255) / (sideB b))) / 2) + (nearI ((p.X - b.X1) * 255) (sideB b))), I (((255 - (((b.Y2 - b.Y1) * 255) / (sideB b))) / 2) + (nearI ((p.Y - b.Y1) * 255) (sideB b)))])] [inR .i64 (p.X - b.X1), inR .i64 ((p.X - b.X1) * 255), Con Tryz.prog 138 [I ((p.X - b.X1) * 255), I (sideB b)] true (I (nearI ((p.X - b.X1) * 255) (sideB b))) ∧ True, inR .i64 (((255 - (((b.X2 - b.X1) * 255) / (sideB b))) / 2) + (nearI ((p.X - b.X1) * 255) (sideB b))), inR .i64 (p.Y - b.Y1), inR .i64 ((p.Y - b.Y1) * 255), Con Tryz.prog 138 [I ((p.Y - b.Y1) * 255), I (sideB b)] true (I (nearI ((p.Y - b.Y1) * 255) (sideB b))) ∧ True, inR .i64 (((255 - (((b.Y2 - b.Y1) * 255) / (sideB b))) / 2) + (nearI ((p.Y - b.Y1) * 255) (sideB b)))] hB ⟨(inR_i64 (by omega) (by omega)), (inR_i64 (by omega) (by omega)), ⟨(l05Near_ok ((p.X - b.X1) * 255) (sideB b) (by omega)), trivial⟩, (inR_i64 (by omega) (by omega)), (inR_i64 (by omega) (by omega)), (inR_i64 (by omega) (by omega)), ⟨(l05Near_ok ((p.Y - b.Y1) * 255) (sideB b) (by omega)), trivial⟩, (inR_i64 (by omega) (by omega)), trivial⟩ ?_
  refine aw_ret ?_
  refine ae_ret hB (.agg [I (((255 - (((b.X2 - b.X1) * 255) / (sideB b))) / 2) + (nearI ((p.X - b.X1) * 255) (sideB b))), I (((255 - (((b.Y2 - b.Y1) * 255) / (sideB b))) / 2) + (nearI ((p.Y - b.Y1) * 255) (sideB b)))]) (by kernel_rfl) (.inl (by rfl)) rfl (fun _ => (by simp [tagged, taggedL]))



-- spec.l08Stroke
theorem l08Stroke_ok (s : Stroke) (n : Int) (b : Box) (ok : okStroke' s = true) (hn : 2 ≤ n ∧ n ≤ 24) (hb : okBox b ∧ inBox (skB s) b) : Con Tryz.prog 56 [.ptr false [slPoint false s.Points], I n, agBox b] true (slFeat true (featQ s n b)) := by
  have hrl := resQ_len s n
  have hbb := hb.1
  unfold okBox at hbb
  refine fn_ok (fn := Tryz.f56) (nt := 78) Tryz.func56 rfl rfl rfl rfl (by simp [taggedL, tagged, tagPoint]) fun B hB => ?_
  refine aw_lens (x := .ptr false [slPoint false s.Points]) 0 rfl (fun len_s => ?_)
  simp [LenOK, LenL, cPoint, fPoint, slPoint] at len_s
  refine aR [(0, .new 5)] [0, 1, 5] [5] [.ptr false [slPoint false s.Points], I n, .ref 5 0] [some (bxBox b)] [] hB trivial ?_
  refine aR [(2, .call [(true, .any), (true, .any)] true (slSpot true (resQ s n)))] [5, 7] [5] [.ref 5 0, slSpot true (resQ s n)] [some (bxBox b)] [Con Tryz.prog 95 [.ptr false [slPoint false s.Points], I n] true (slSpot true (resQ s n)) ∧ True] hB ⟨⟨(l06Resample_ok s n ok (by omega)), trivial⟩, trivial⟩ ?_
  refine aR [(0, .new 17)] [5, 7, 8] [5, 17] [.ref 5 0, slSpot true (resQ s n), .arr 17] [some (bxBox b), some (.arr 3 0 (litF [] 3))] [] hB trivial ?_
  refine aR [] [5, 7, 8, 9] [5, 17] [.ref 5 0, slSpot true (resQ s n), .arr 17, I 0] [some (bxBox b), some (.arr 3 0 (litF [] 3))] [] hB trivial ?_
  refine aw_seq ?_
  refine aR [] [5, 7, 8, 9, 10] [5, 17] [.ref 5 0, slSpot true (resQ s n), .arr 17, I 0, I 0] [some (bxBox b), some (.arr 3 0 (litF [] 3))] [] hB trivial ?_
  refine aw_block ?_
  refine aw_weak hB [] (T := [(5, .ref 5 0), (7, slSpot true (resQ s n)), (8, .arr 17), (9, I 0), (10, I 0)]) (O := [(5, bxBox b), (17, tAFeat ([] : List Feat))]) rfl (⟨.inl rfl, .inl rfl, .inl rfl, .inl rfl, .inl rfl, trivial⟩) (⟨.inl rfl, .inr ⟨rfl, (by first | rfl | (simp; done) | (simp; omega) | omega), fun i_ hi_ => absurd hi_ (Nat.not_lt_zero _)⟩, trivial⟩) ?_
  refine aw_loop (fun gn gσ => ∃ (out : List Feat) (d : Int) (k : Int), gn = (((resQ s n).length : Int) - k).toNat ∧ (0 ≤ k ∧ k ≤ ((resQ s n).length : Int)) ∧ ((out.length : Int) = k) ∧ (out = featK (resQ s n) b k.toNat) ∧ (d = dirQ (resQ s n) k.toNat ∧ 0 ≤ d ∧ d ≤ 7) ∧ gσ = mkS [(5, .ref 5 0), (7, slSpot true (resQ s n)), (8, .arr 17), (9, I d), (10, I k)] [(5, bxBox b), (17, tAFeat out)]) ((((resQ s n).length : Int) - 0).toNat) ⟨([] : List Feat), 0, 0, rfl, (by omega), (by rfl), (by rfl), (by exact ⟨rfl, by omega⟩), rfl⟩ (fun gn gσ hI => ?_)
  obtain ⟨out, d, k, rfl, hk0, hll, hl0, hd0, rfl⟩ := hI
  refine aw_seq ?_
  refine aw_seq ?_
  by_cases h1 : k < (((resQ s n).length) : Int)
  ·have hk : k.toNat < (resQ s n).length := by omega
   have hbk := resQ_box ok hn.1 hb.2 hk
   refine aw_r [(3, .dec true)] [5, 7, 8, 9, 10, 21] [5, 17] [.ref 5 0, slSpot true (resQ s n), .arr 17, I d, I k, Bv true] [some (bxBox b), some (tAFeat out)] [k < (((resQ s n).length) : Int)] hB ⟨h1, trivial⟩ ?_
   refine ae_then ?_
   refine aw_true rfl ?_
   refine aw_skip ?_
   refine ae_then ?_
   refine aw_seq ?_
   refine aw_block ?_
   refine aw_seq ?_
   refine aw_seq ?_
   by_cases h2 : (k + 1) < (((resQ s n).length) : Int)
   ·have hbk1 := resQ_box ok hn.1 hb.2 (j := (k + 1).toNat) (by omega)
    refine aw_r [(4, .dec true)] [5, 7, 8, 9, 10, 28] [5, 17] [.ref 5 0, slSpot true (resQ s n), .arr 17, I d, I k, Bv true] [some (bxBox b), some (tAFeat out)] [inR .i64 (k + 1), (k + 1) < (((resQ s n).length) : Int)] hB ⟨(inR_i64 (by omega) (by omega)), h2, trivial⟩ ?_
    refine ae_then ?_
    refine aw_true rfl ?_
    refine aR [] [5, 7, 8, 9, 10, 11] [5, 17] [.ref 5 0, slSpot true (resQ s n), .arr 17, I d, I k, I (((at_ (resQ s n) ((k + 1).toNat)).X) - ((at_ (resQ s n) k.toNat).X))] [some (bxBox b), some (tAFeat out)] [inR .i64 (k + 1), (0 : Int) ≤ (k + 1) ∧ (k + 1) < (((resQ s n).length) : Int), (0 : Int) ≤ k ∧ k < (((resQ s n).length) : Int), inR .i64 (((at_ (resQ s n) ((k + 1).toNat)).X) - ((at_ (resQ s n) k.toNat).X))] hB ⟨(inR_i64 (by omega) (by omega)), ⟨(by omega), (by omega)⟩, ⟨(by omega), (by omega)⟩, (inR_i64 (by omega) (by omega)), trivial⟩ ?_
    refine aR [] [5, 7, 8, 9, 10, 11, 12] [5, 17] [.ref 5 0, slSpot true (resQ s n), .arr 17, I d, I k, I (((at_ (resQ s n) ((k + 1).toNat)).X) - ((at_ (resQ s n) k.toNat).X)), I (((at_ (resQ s n) ((k + 1).toNat)).Y) - ((at_ (resQ s n) k.toNat).Y))] [some (bxBox b), some (tAFeat out)] [inR .i64 (k + 1), (0 : Int) ≤ (k + 1) ∧ (k + 1) < (((resQ s n).length) : Int), (0 : Int) ≤ k ∧ k < (((resQ s n).length) : Int), inR .i64 (((at_ (resQ s n) ((k + 1).toNat)).Y) - ((at_ (resQ s n) k.toNat).Y))] hB ⟨(inR_i64 (by omega) (by omega)), ⟨(by omega), (by omega)⟩, ⟨(by omega), (by omega)⟩, (inR_i64 (by omega) (by omega)), trivial⟩ ?_
    refine aw_seq ?_
    by_cases h3 : (((at_ (resQ s n) ((k + 1).toNat)).X) - ((at_ (resQ s n) k.toNat).X)) = 0
    ·by_cases h4 : (((at_ (resQ s n) ((k + 1).toNat)).Y) - ((at_ (resQ s n) k.toNat).Y)) = 0
     ·have hdq := (dirQ_no (l := (resQ s n)) (k := k) (by omega) (fun q => q.2 ⟨h3, h4⟩)).trans hd0.1.symm
      refine aw_r [(1, .dec false), (4, .dec false)] [5, 7, 8, 9, 10, 11, 12, 58] [5, 17] [.ref 5 0, slSpot true (resQ s n), .arr 17, I d, I k, I (((at_ (resQ s n) ((k + 1).toNat)).X) - ((at_ (resQ s n) k.toNat).X)), I (((at_ (resQ s n) ((k + 1).toNat)).Y) - ((at_ (resQ s n) k.toNat).Y)), Bv false] [some (bxBox b), some (tAFeat out)] [¬ ((((at_ (resQ s n) ((k + 1).toNat)).X) - ((at_ (resQ s n) k.toNat).X)) ≠ 0), ¬ ((((at_ (resQ s n) ((k + 1).toNat)).Y) - ((at_ (resQ s n) k.toNat).Y)) ≠ 0)] hB ⟨(fun hq => hq h3), (fun hq => hq h4), trivial⟩ ?_
      refine ae_then ?_
      refine aw_false rfl ?_
      refine aw_skip ?_
      refine ae_then ?_
      refine aR [(5, .call [(true, .any), (true, .any)] true (.agg [I ((normP (at_ (resQ s n) k.toNat) b).X), I ((normP (at_ (resQ s n) k.toNat) b).Y)])), (6, .new 13)] [5, 7, 8, 9, 10, 13] [5, 13, 17] [.ref 5 0, slSpot true (resQ s n), .arr 17, I d, I k, .ref 13 0] [some (bxBox b), some (.box [I ((normP (at_ (resQ s n) k.toNat) b).X), I ((normP (at_ (resQ s n) k.toNat) b).Y)]), some (tAFeat out)] [(0 : Int) ≤ k ∧ k < (((resQ s n).length) : Int), Con Tryz.prog 97 [.agg [I ((at_ (resQ s n) k.toNat).X), I ((at_ (resQ s n) k.toNat).Y)], agBox b] true (.agg [I ((normP (at_ (resQ s n) k.toNat) b).X), I ((normP (at_ (resQ s n) k.toNat) b).Y)]) ∧ True] hB ⟨⟨(by omega), (by omega)⟩, ⟨(l07Normal_ok (at_ (resQ s n) k.toNat) b hb.1 (by omega)), trivial⟩, trivial⟩ ?_
      refine aw_r [(7, .new 75), (8, .new 76)] [5, 7, 8, 9, 10] [5, 76] [.ref 5 0, slSpot true (resQ s n), .arr 76, I d, I k] [some (bxBox b), some (.arr 3 (out.length + 1) (catF out.length (fFeat out) (litF [I ((normP (at_ (resQ s n) k.toNat) b).X), I ((normP (at_ (resQ s n) k.toNat) b).Y), I d] 3)))] [(out.length + 1) * 24 ≤ 140737488355328] hB ⟨(by omega), trivial⟩ ?_
      refine ae_block 1 ?_
      refine ae_then ?_
      refine aw_r [] [5, 7, 8, 9, 10] [5, 76] [.ref 5 0, slSpot true (resQ s n), .arr 76, I d, I (k + 1)] [some (bxBox b), some (.arr 3 (out.length + 1) (catF out.length (fFeat out) (litF [I ((normP (at_ (resQ s n) k.toNat) b).X), I ((normP (at_ (resQ s n) k.toNat) b).Y), I d] 3)))] [inR .i64 (k + 1)] hB ⟨(inR_i64 (by omega) (by omega)), trivial⟩ ?_
      refine ae_weak hB [(17, 76)] (T := [(5, .ref 5 0), (7, slSpot true (resQ s n)), (8, .arr 17), (9, I d), (10, I (k + 1))]) (O := [(5, bxBox b), (17, tAFeat (out ++ [(Feat.mk ((normP (at_ (resQ s n) k.toNat) b).X) ((normP (at_ (resQ s n) k.toNat) b).Y) d)]))]) rfl (⟨.inl rfl, .inl rfl, .inl rfl, .inl rfl, .inl rfl, trivial⟩) (⟨.inl rfl, .inr ⟨rfl, (by first | rfl | (simp; done) | (simp; omega) | omega), fun i_ hi_ => .inl (cat_snoc (enc := cFeat) (xs := out) rfl i_ hi_)⟩, trivial⟩) (ae_again _ (by omega) ⟨(out ++ [(Feat.mk ((normP (at_ (resQ s n) k.toNat) b).X) ((normP (at_ (resQ s n) k.toNat) b).Y) d)]), d, (k + 1), rfl, (by omega), (by simp; omega), (by rw [featK_succ (by omega), ← hl0, hdq]), (by have hdb := dirQ_bd (resQ s n) (k + 1).toNat; rw [hdq] at hdb; exact ⟨hdq.symm, hdb⟩), rfl⟩)
     have hdq := dirQ_yes (l := (resQ s n)) (k := k) (by omega) (by omega) (fun q => h4 q.2)
     refine aw_r [(1, .dec false), (4, .dec true)] [5, 7, 8, 9, 10, 11, 12, 58] [5, 17] [.ref 5 0, slSpot true (resQ s n), .arr 17, I d, I k, I (((at_ (resQ s n) ((k + 1).toNat)).X) - ((at_ (resQ s n) k.toNat).X)), I (((at_ (resQ s n) ((k + 1).toNat)).Y) - ((at_ (resQ s n) k.toNat).Y)), Bv true] [some (bxBox b), some (tAFeat out)] [¬ ((((at_ (resQ s n) ((k + 1).toNat)).X) - ((at_ (resQ s n) k.toNat).X)) ≠ 0), (((at_ (resQ s n) ((k + 1).toNat)).Y) - ((at_ (resQ s n) k.toNat).Y)) ≠ 0] hB ⟨(fun hq => hq h3), h4, trivial⟩ ?_
     refine ae_then ?_
     refine aw_true rfl ?_
     refine aw_r [(2, .call [(true, .any), (true, .any)] true (I (dirI (((at_ (resQ s n) ((k + 1).toNat)).X) - ((at_ (resQ s n) k.toNat).X)) (((at_ (resQ s n) ((k + 1).toNat)).Y) - ((at_ (resQ s n) k.toNat).Y)))))] [5, 7, 8, 9, 10] [5, 17] [.ref 5 0, slSpot true (resQ s n), .arr 17, I (dirI (((at_ (resQ s n) ((k + 1).toNat)).X) - ((at_ (resQ s n) k.toNat).X)) (((at_ (resQ s n) ((k + 1).toNat)).Y) - ((at_ (resQ s n) k.toNat).Y))), I k] [some (bxBox b), some (tAFeat out)] [Con Tryz.prog 96 [I (((at_ (resQ s n) ((k + 1).toNat)).X) - ((at_ (resQ s n) k.toNat).X)), I (((at_ (resQ s n) ((k + 1).toNat)).Y) - ((at_ (resQ s n) k.toNat).Y))] true (I (dirI (((at_ (resQ s n) ((k + 1).toNat)).X) - ((at_ (resQ s n) k.toNat).X)) (((at_ (resQ s n) ((k + 1).toNat)).Y) - ((at_ (resQ s n) k.toNat).Y)))) ∧ True] hB ⟨⟨(l05Sector_ok (((at_ (resQ s n) ((k + 1).toNat)).X) - ((at_ (resQ s n) k.toNat).X)) (((at_ (resQ s n) ((k + 1).toNat)).Y) - ((at_ (resQ s n) k.toNat).Y)) (by omega)), trivial⟩, trivial⟩ ?_
     refine ae_then ?_
     refine aR [(5, .call [(true, .any), (true, .any)] true (.agg [I ((normP (at_ (resQ s n) k.toNat) b).X), I ((normP (at_ (resQ s n) k.toNat) b).Y)])), (6, .new 13)] [5, 7, 8, 9, 10, 13] [5, 13, 17] [.ref 5 0, slSpot true (resQ s n), .arr 17, I (dirI (((at_ (resQ s n) ((k + 1).toNat)).X) - ((at_ (resQ s n) k.toNat).X)) (((at_ (resQ s n) ((k + 1).toNat)).Y) - ((at_ (resQ s n) k.toNat).Y))), I k, .ref 13 0] [some (bxBox b), some (.box [I ((normP (at_ (resQ s n) k.toNat) b).X), I ((normP (at_ (resQ s n) k.toNat) b).Y)]), some (tAFeat out)] [(0 : Int) ≤ k ∧ k < (((resQ s n).length) : Int), Con Tryz.prog 97 [.agg [I ((at_ (resQ s n) k.toNat).X), I ((at_ (resQ s n) k.toNat).Y)], agBox b] true (.agg [I ((normP (at_ (resQ s n) k.toNat) b).X), I ((normP (at_ (resQ s n) k.toNat) b).Y)]) ∧ True] hB ⟨⟨(by omega), (by omega)⟩, ⟨(l07Normal_ok (at_ (resQ s n) k.toNat) b hb.1 (by omega)), trivial⟩, trivial⟩ ?_
     refine aw_r [(7, .new 75), (8, .new 76)] [5, 7, 8, 9, 10] [5, 76] [.ref 5 0, slSpot true (resQ s n), .arr 76, I (dirI (((at_ (resQ s n) ((k + 1).toNat)).X) - ((at_ (resQ s n) k.toNat).X)) (((at_ (resQ s n) ((k + 1).toNat)).Y) - ((at_ (resQ s n) k.toNat).Y))), I k] [some (bxBox b), some (.arr 3 (out.length + 1) (catF out.length (fFeat out) (litF [I ((normP (at_ (resQ s n) k.toNat) b).X), I ((normP (at_ (resQ s n) k.toNat) b).Y), I (dirI (((at_ (resQ s n) ((k + 1).toNat)).X) - ((at_ (resQ s n) k.toNat).X)) (((at_ (resQ s n) ((k + 1).toNat)).Y) - ((at_ (resQ s n) k.toNat).Y)))] 3)))] [(out.length + 1) * 24 ≤ 140737488355328] hB ⟨(by omega), trivial⟩ ?_
     refine ae_block 1 ?_
     refine ae_then ?_
     refine aw_r [] [5, 7, 8, 9, 10] [5, 76] [.ref 5 0, slSpot true (resQ s n), .arr 76, I (dirI (((at_ (resQ s n) ((k + 1).toNat)).X) - ((at_ (resQ s n) k.toNat).X)) (((at_ (resQ s n) ((k + 1).toNat)).Y) - ((at_ (resQ s n) k.toNat).Y))), I (k + 1)] [some (bxBox b), some (.arr 3 (out.length + 1) (catF out.length (fFeat out) (litF [I ((normP (at_ (resQ s n) k.toNat) b).X), I ((normP (at_ (resQ s n) k.toNat) b).Y), I (dirI (((at_ (resQ s n) ((k + 1).toNat)).X) - ((at_ (resQ s n) k.toNat).X)) (((at_ (resQ s n) ((k + 1).toNat)).Y) - ((at_ (resQ s n) k.toNat).Y)))] 3)))] [inR .i64 (k + 1)] hB ⟨(inR_i64 (by omega) (by omega)), trivial⟩ ?_
     refine ae_weak hB [(17, 76)] (T := [(5, .ref 5 0), (7, slSpot true (resQ s n)), (8, .arr 17), (9, I (dirI (((at_ (resQ s n) ((k + 1).toNat)).X) - ((at_ (resQ s n) k.toNat).X)) (((at_ (resQ s n) ((k + 1).toNat)).Y) - ((at_ (resQ s n) k.toNat).Y)))), (10, I (k + 1))]) (O := [(5, bxBox b), (17, tAFeat (out ++ [(Feat.mk ((normP (at_ (resQ s n) k.toNat) b).X) ((normP (at_ (resQ s n) k.toNat) b).Y) (dirI (((at_ (resQ s n) ((k + 1).toNat)).X) - ((at_ (resQ s n) k.toNat).X)) (((at_ (resQ s n) ((k + 1).toNat)).Y) - ((at_ (resQ s n) k.toNat).Y))))]))]) rfl (⟨.inl rfl, .inl rfl, .inl rfl, .inl rfl, .inl rfl, trivial⟩) (⟨.inl rfl, .inr ⟨rfl, (by first | rfl | (simp; done) | (simp; omega) | omega), fun i_ hi_ => .inl (cat_snoc (enc := cFeat) (xs := out) rfl i_ hi_)⟩, trivial⟩) (ae_again _ (by omega) ⟨(out ++ [(Feat.mk ((normP (at_ (resQ s n) k.toNat) b).X) ((normP (at_ (resQ s n) k.toNat) b).Y) (dirI (((at_ (resQ s n) ((k + 1).toNat)).X) - ((at_ (resQ s n) k.toNat).X)) (((at_ (resQ s n) ((k + 1).toNat)).Y) - ((at_ (resQ s n) k.toNat).Y))))]), (dirI (((at_ (resQ s n) ((k + 1).toNat)).X) - ((at_ (resQ s n) k.toNat).X)) (((at_ (resQ s n) ((k + 1).toNat)).Y) - ((at_ (resQ s n) k.toNat).Y))), (k + 1), rfl, (by omega), (by simp; omega), (by rw [featK_succ (by omega), ← hl0, hdq]), (by have hdb := dirQ_bd (resQ s n) (k + 1).toNat; rw [hdq] at hdb; exact ⟨hdq.symm, hdb⟩), rfl⟩)
    have hdq := dirQ_yes (l := (resQ s n)) (k := k) (by omega) (by omega) (fun q => h3 q.1)
    refine aw_r [(1, .dec true)] [5, 7, 8, 9, 10, 11, 12, 58] [5, 17] [.ref 5 0, slSpot true (resQ s n), .arr 17, I d, I k, I (((at_ (resQ s n) ((k + 1).toNat)).X) - ((at_ (resQ s n) k.toNat).X)), I (((at_ (resQ s n) ((k + 1).toNat)).Y) - ((at_ (resQ s n) k.toNat).Y)), Bv true] [some (bxBox b), some (tAFeat out)] [(((at_ (resQ s n) ((k + 1).toNat)).X) - ((at_ (resQ s n) k.toNat).X)) ≠ 0] hB ⟨h3, trivial⟩ ?_
    refine ae_then ?_
    refine aw_true rfl ?_
    refine aw_r [(2, .call [(true, .any), (true, .any)] true (I (dirI (((at_ (resQ s n) ((k + 1).toNat)).X) - ((at_ (resQ s n) k.toNat).X)) (((at_ (resQ s n) ((k + 1).toNat)).Y) - ((at_ (resQ s n) k.toNat).Y)))))] [5, 7, 8, 9, 10] [5, 17] [.ref 5 0, slSpot true (resQ s n), .arr 17, I (dirI (((at_ (resQ s n) ((k + 1).toNat)).X) - ((at_ (resQ s n) k.toNat).X)) (((at_ (resQ s n) ((k + 1).toNat)).Y) - ((at_ (resQ s n) k.toNat).Y))), I k] [some (bxBox b), some (tAFeat out)] [Con Tryz.prog 96 [I (((at_ (resQ s n) ((k + 1).toNat)).X) - ((at_ (resQ s n) k.toNat).X)), I (((at_ (resQ s n) ((k + 1).toNat)).Y) - ((at_ (resQ s n) k.toNat).Y))] true (I (dirI (((at_ (resQ s n) ((k + 1).toNat)).X) - ((at_ (resQ s n) k.toNat).X)) (((at_ (resQ s n) ((k + 1).toNat)).Y) - ((at_ (resQ s n) k.toNat).Y)))) ∧ True] hB ⟨⟨(l05Sector_ok (((at_ (resQ s n) ((k + 1).toNat)).X) - ((at_ (resQ s n) k.toNat).X)) (((at_ (resQ s n) ((k + 1).toNat)).Y) - ((at_ (resQ s n) k.toNat).Y)) (by omega)), trivial⟩, trivial⟩ ?_
    refine ae_then ?_
    refine aR [(5, .call [(true, .any), (true, .any)] true (.agg [I ((normP (at_ (resQ s n) k.toNat) b).X), I ((normP (at_ (resQ s n) k.toNat) b).Y)])), (6, .new 13)] [5, 7, 8, 9, 10, 13] [5, 13, 17] [.ref 5 0, slSpot true (resQ s n), .arr 17, I (dirI (((at_ (resQ s n) ((k + 1).toNat)).X) - ((at_ (resQ s n) k.toNat).X)) (((at_ (resQ s n) ((k + 1).toNat)).Y) - ((at_ (resQ s n) k.toNat).Y))), I k, .ref 13 0] [some (bxBox b), some (.box [I ((normP (at_ (resQ s n) k.toNat) b).X), I ((normP (at_ (resQ s n) k.toNat) b).Y)]), some (tAFeat out)] [(0 : Int) ≤ k ∧ k < (((resQ s n).length) : Int), Con Tryz.prog 97 [.agg [I ((at_ (resQ s n) k.toNat).X), I ((at_ (resQ s n) k.toNat).Y)], agBox b] true (.agg [I ((normP (at_ (resQ s n) k.toNat) b).X), I ((normP (at_ (resQ s n) k.toNat) b).Y)]) ∧ True] hB ⟨⟨(by omega), (by omega)⟩, ⟨(l07Normal_ok (at_ (resQ s n) k.toNat) b hb.1 (by omega)), trivial⟩, trivial⟩ ?_
    refine aw_r [(7, .new 75), (8, .new 76)] [5, 7, 8, 9, 10] [5, 76] [.ref 5 0, slSpot true (resQ s n), .arr 76, I (dirI (((at_ (resQ s n) ((k + 1).toNat)).X) - ((at_ (resQ s n) k.toNat).X)) (((at_ (resQ s n) ((k + 1).toNat)).Y) - ((at_ (resQ s n) k.toNat).Y))), I k] [some (bxBox b), some (.arr 3 (out.length + 1) (catF out.length (fFeat out) (litF [I ((normP (at_ (resQ s n) k.toNat) b).X), I ((normP (at_ (resQ s n) k.toNat) b).Y), I (dirI (((at_ (resQ s n) ((k + 1).toNat)).X) - ((at_ (resQ s n) k.toNat).X)) (((at_ (resQ s n) ((k + 1).toNat)).Y) - ((at_ (resQ s n) k.toNat).Y)))] 3)))] [(out.length + 1) * 24 ≤ 140737488355328] hB ⟨(by omega), trivial⟩ ?_
    refine ae_block 1 ?_
    refine ae_then ?_
    refine aw_r [] [5, 7, 8, 9, 10] [5, 76] [.ref 5 0, slSpot true (resQ s n), .arr 76, I (dirI (((at_ (resQ s n) ((k + 1).toNat)).X) - ((at_ (resQ s n) k.toNat).X)) (((at_ (resQ s n) ((k + 1).toNat)).Y) - ((at_ (resQ s n) k.toNat).Y))), I (k + 1)] [some (bxBox b), some (.arr 3 (out.length + 1) (catF out.length (fFeat out) (litF [I ((normP (at_ (resQ s n) k.toNat) b).X), I ((normP (at_ (resQ s n) k.toNat) b).Y), I (dirI (((at_ (resQ s n) ((k + 1).toNat)).X) - ((at_ (resQ s n) k.toNat).X)) (((at_ (resQ s n) ((k + 1).toNat)).Y) - ((at_ (resQ s n) k.toNat).Y)))] 3)))] [inR .i64 (k + 1)] hB ⟨(inR_i64 (by omega) (by omega)), trivial⟩ ?_
    refine ae_weak hB [(17, 76)] (T := [(5, .ref 5 0), (7, slSpot true (resQ s n)), (8, .arr 17), (9, I (dirI (((at_ (resQ s n) ((k + 1).toNat)).X) - ((at_ (resQ s n) k.toNat).X)) (((at_ (resQ s n) ((k + 1).toNat)).Y) - ((at_ (resQ s n) k.toNat).Y)))), (10, I (k + 1))]) (O := [(5, bxBox b), (17, tAFeat (out ++ [(Feat.mk ((normP (at_ (resQ s n) k.toNat) b).X) ((normP (at_ (resQ s n) k.toNat) b).Y) (dirI (((at_ (resQ s n) ((k + 1).toNat)).X) - ((at_ (resQ s n) k.toNat).X)) (((at_ (resQ s n) ((k + 1).toNat)).Y) - ((at_ (resQ s n) k.toNat).Y))))]))]) rfl (⟨.inl rfl, .inl rfl, .inl rfl, .inl rfl, .inl rfl, trivial⟩) (⟨.inl rfl, .inr ⟨rfl, (by first | rfl | (simp; done) | (simp; omega) | omega), fun i_ hi_ => .inl (cat_snoc (enc := cFeat) (xs := out) rfl i_ hi_)⟩, trivial⟩) (ae_again _ (by omega) ⟨(out ++ [(Feat.mk ((normP (at_ (resQ s n) k.toNat) b).X) ((normP (at_ (resQ s n) k.toNat) b).Y) (dirI (((at_ (resQ s n) ((k + 1).toNat)).X) - ((at_ (resQ s n) k.toNat).X)) (((at_ (resQ s n) ((k + 1).toNat)).Y) - ((at_ (resQ s n) k.toNat).Y))))]), (dirI (((at_ (resQ s n) ((k + 1).toNat)).X) - ((at_ (resQ s n) k.toNat).X)) (((at_ (resQ s n) ((k + 1).toNat)).Y) - ((at_ (resQ s n) k.toNat).Y))), (k + 1), rfl, (by omega), (by simp; omega), (by rw [featK_succ (by omega), ← hl0, hdq]), (by have hdb := dirQ_bd (resQ s n) (k + 1).toNat; rw [hdq] at hdb; exact ⟨hdq.symm, hdb⟩), rfl⟩)
   have hdq := (dirQ_no (l := (resQ s n)) (k := k) (by omega) (fun q => by omega)).trans hd0.1.symm
   refine aw_r [(4, .dec false)] [5, 7, 8, 9, 10, 28] [5, 17] [.ref 5 0, slSpot true (resQ s n), .arr 17, I d, I k, Bv false] [some (bxBox b), some (tAFeat out)] [inR .i64 (k + 1), ¬ ((k + 1) < (((resQ s n).length) : Int))] hB ⟨(inR_i64 (by omega) (by omega)), h2, trivial⟩ ?_
   refine ae_then ?_
   refine aw_false rfl ?_
   refine aw_skip ?_
   refine ae_then ?_
   refine aR [(5, .call [(true, .any), (true, .any)] true (.agg [I ((normP (at_ (resQ s n) k.toNat) b).X), I ((normP (at_ (resQ s n) k.toNat) b).Y)])), (6, .new 13)] [5, 7, 8, 9, 10, 13] [5, 13, 17] [.ref 5 0, slSpot true (resQ s n), .arr 17, I d, I k, .ref 13 0] [some (bxBox b), some (.box [I ((normP (at_ (resQ s n) k.toNat) b).X), I ((normP (at_ (resQ s n) k.toNat) b).Y)]), some (tAFeat out)] [(0 : Int) ≤ k ∧ k < (((resQ s n).length) : Int), Con Tryz.prog 97 [.agg [I ((at_ (resQ s n) k.toNat).X), I ((at_ (resQ s n) k.toNat).Y)], agBox b] true (.agg [I ((normP (at_ (resQ s n) k.toNat) b).X), I ((normP (at_ (resQ s n) k.toNat) b).Y)]) ∧ True] hB ⟨⟨(by omega), (by omega)⟩, ⟨(l07Normal_ok (at_ (resQ s n) k.toNat) b hb.1 (by omega)), trivial⟩, trivial⟩ ?_
   refine aw_r [(7, .new 75), (8, .new 76)] [5, 7, 8, 9, 10] [5, 76] [.ref 5 0, slSpot true (resQ s n), .arr 76, I d, I k] [some (bxBox b), some (.arr 3 (out.length + 1) (catF out.length (fFeat out) (litF [I ((normP (at_ (resQ s n) k.toNat) b).X), I ((normP (at_ (resQ s n) k.toNat) b).Y), I d] 3)))] [(out.length + 1) * 24 ≤ 140737488355328] hB ⟨(by omega), trivial⟩ ?_
   refine ae_block 1 ?_
   refine ae_then ?_
   refine aw_r [] [5, 7, 8, 9, 10] [5, 76] [.ref 5 0, slSpot true (resQ s n), .arr 76, I d, I (k + 1)] [some (bxBox b), some (.arr 3 (out.length + 1) (catF out.length (fFeat out) (litF [I ((normP (at_ (resQ s n) k.toNat) b).X), I ((normP (at_ (resQ s n) k.toNat) b).Y), I d] 3)))] [inR .i64 (k + 1)] hB ⟨(inR_i64 (by omega) (by omega)), trivial⟩ ?_
   refine ae_weak hB [(17, 76)] (T := [(5, .ref 5 0), (7, slSpot true (resQ s n)), (8, .arr 17), (9, I d), (10, I (k + 1))]) (O := [(5, bxBox b), (17, tAFeat (out ++ [(Feat.mk ((normP (at_ (resQ s n) k.toNat) b).X) ((normP (at_ (resQ s n) k.toNat) b).Y) d)]))]) rfl (⟨.inl rfl, .inl rfl, .inl rfl, .inl rfl, .inl rfl, trivial⟩) (⟨.inl rfl, .inr ⟨rfl, (by first | rfl | (simp; done) | (simp; omega) | omega), fun i_ hi_ => .inl (cat_snoc (enc := cFeat) (xs := out) rfl i_ hi_)⟩, trivial⟩) (ae_again _ (by omega) ⟨(out ++ [(Feat.mk ((normP (at_ (resQ s n) k.toNat) b).X) ((normP (at_ (resQ s n) k.toNat) b).Y) d)]), d, (k + 1), rfl, (by omega), (by simp; omega), (by rw [featK_succ (by omega), ← hl0, hdq]), (by have hdb := dirQ_bd (resQ s n) (k + 1).toNat; rw [hdq] at hdb; exact ⟨hdq.symm, hdb⟩), rfl⟩)
  have hke : k.toNat = (resQ s n).length := by omega
  rw [hke] at hl0
  have hl1 : out = featQ s n b := hl0
  clear hl0
  subst hl1
  refine aw_r [(3, .dec false)] [5, 7, 8, 9, 10, 21] [5, 17] [.ref 5 0, slSpot true (resQ s n), .arr 17, I d, I k, Bv false] [some (bxBox b), some (tAFeat (featQ s n b))] [¬ (k < (((resQ s n).length) : Int))] hB ⟨h1, trivial⟩ ?_
  refine ae_then ?_
  refine aw_false rfl ?_
  refine aw_exit ?_
  refine ae_exit_then ?_
  refine ae_exit_then ?_
  refine ae_exit_same ?_
  refine ae_then ?_
  refine aR [] [6] [17] [.arr 17] [some (tAFeat (featQ s n b))] [] hB trivial ?_
  refine aw_ret ?_
  refine ae_ret hB (.arr 17) (by kernel_rfl) (.inr ⟨(fun _ => rfl), rfl, rfl, fun i _ => .inl rfl⟩) rfl (fun _ => (tagFeat true _))



-- spec.l08Of
theorem l08Of_ok (ik : Ink) (n : Int) (ok : okInk' ik = true) (hn : 2 ≤ n ∧ n ≤ 24) (h0 : 1 ≤ ik.Strokes.length) : Con Tryz.prog 25 [.ptr false [slStroke false ik.Strokes], I n] true (slFeat true (feA ik n)) := by
  have hil := okI_len ok
  refine fn_ok (fn := Tryz.f25) (nt := 32) Tryz.func25 rfl rfl rfl rfl (by simp [taggedL, tagged, tagStroke]) fun B hB => ?_
  refine aw_lens (x := .ptr false [slStroke false ik.Strokes]) 0 rfl (fun len_ik => ?_)
  simp [LenOK, LenL, cPoint, cStroke, fPoint, fStroke, slPoint, slStroke] at len_ik
  refine aR [] [0, 1] [] [.ptr false [slStroke false ik.Strokes], I n] [] [] hB trivial ?_
  refine aR [(1, .call [(true, .any)] true (agBox (inkB ik.Strokes ik.Strokes.length))), (2, .new 5)] [0, 1, 5] [5] [.ptr false [slStroke false ik.Strokes], I n, .ref 5 0] [some (bxBox (inkB ik.Strokes ik.Strokes.length))] [Con Tryz.prog 55 [.ptr false [slStroke false ik.Strokes]] true (agBox (inkB ik.Strokes ik.Strokes.length)) ∧ True] hB ⟨⟨(l02All_ok ik ok (by omega)), trivial⟩, trivial⟩ ?_
  refine aR [(0, .new 10)] [0, 1, 5, 6] [5, 10] [.ptr false [slStroke false ik.Strokes], I n, .ref 5 0, .arr 10] [some (bxBox (inkB ik.Strokes ik.Strokes.length)), some (.arr 3 0 (litF [] 3))] [] hB trivial ?_
  refine aw_seq ?_
  refine aR [] [0, 1, 5, 6, 7] [5, 10] [.ptr false [slStroke false ik.Strokes], I n, .ref 5 0, .arr 10, I 0] [some (bxBox (inkB ik.Strokes ik.Strokes.length)), some (.arr 3 0 (litF [] 3))] [] hB trivial ?_
  refine aw_block ?_
  refine aw_weak hB [] (T := [(0, .ptr false [slStroke false ik.Strokes]), (1, I n), (5, .ref 5 0), (6, .arr 10), (7, I 0)]) (O := [(5, bxBox (inkB ik.Strokes ik.Strokes.length)), (10, tAFeat ([] : List Feat))]) rfl (⟨.inl rfl, .inl rfl, .inl rfl, .inl rfl, .inl rfl, trivial⟩) (⟨.inl rfl, .inr ⟨rfl, (by first | rfl | (simp; done) | (simp; omega) | omega), fun i_ hi_ => absurd hi_ (Nat.not_lt_zero _)⟩, trivial⟩) ?_
  refine aw_loop (fun gn gσ => ∃ (out : List Feat) (i : Int), gn = ((ik.Strokes.length : Int) - i).toNat ∧ (0 ≤ i ∧ i ≤ (ik.Strokes.length : Int)) ∧ ((out.length : Int) ≤ 24 * i) ∧ (out = featI ik.Strokes n (inkB ik.Strokes ik.Strokes.length) i.toNat) ∧ gσ = mkS [(0, .ptr false [slStroke false ik.Strokes]), (1, I n), (5, .ref 5 0), (6, .arr 10), (7, I i)] [(5, bxBox (inkB ik.Strokes ik.Strokes.length)), (10, tAFeat out)]) (((ik.Strokes.length : Int) - 0).toNat) ⟨([] : List Feat), 0, rfl, (by omega), (by simp), (by rfl), rfl⟩ (fun gn gσ hI => ?_)
  obtain ⟨out, i, rfl, hi0, hll, hl0, rfl⟩ := hI
  refine aw_seq ?_
  refine aw_seq ?_
  by_cases h1 : i < (ik.Strokes.length : Int)
  ·have hi : i.toNat < ik.Strokes.length := by omega
   have hfl := featQ_len (at_ ik.Strokes i.toNat) n (inkB ik.Strokes ik.Strokes.length)
   have hfb : okBox (inkB ik.Strokes ik.Strokes.length) ∧ inBox (skB (at_ ik.Strokes i.toNat)) (inkB ik.Strokes ik.Strokes.length) := ⟨inkB_ok ok (by omega) _ (Nat.le_refl _), inkB_has _ _ _ hi⟩
   refine aw_r [(6, .dec true)] [0, 1, 5, 6, 7, 17] [5, 10] [.ptr false [slStroke false ik.Strokes], I n, .ref 5 0, .arr 10, I i, Bv true] [some (bxBox (inkB ik.Strokes ik.Strokes.length)), some (tAFeat out)] [i < (ik.Strokes.length : Int)] hB ⟨h1, trivial⟩ ?_
   refine ae_then ?_
   refine aw_true rfl ?_
   refine aw_skip ?_
   refine ae_then ?_
   refine aw_seq ?_
   refine aw_block ?_
   refine aw_r [(9, .call [(true, .any), (true, .any), (true, .any)] true (slFeat true (featQ (at_ ik.Strokes i.toNat) n (inkB ik.Strokes ik.Strokes.length)))), (10, .new 30)] [0, 1, 5, 6, 7] [5, 30] [.ptr false [slStroke false ik.Strokes], I n, .ref 5 0, .arr 30, I i] [some (bxBox (inkB ik.Strokes ik.Strokes.length)), some (.arr 3 (out.length + ((featQ (at_ ik.Strokes i.toNat) n (inkB ik.Strokes ik.Strokes.length)).length)) (catF out.length (fFeat out) (fFeat (featQ (at_ ik.Strokes i.toNat) n (inkB ik.Strokes ik.Strokes.length)))))] [(0 : Int) ≤ i ∧ i < (ik.Strokes.length : Int), Con Tryz.prog 56 [.ptr false [slPoint false ((at_ ik.Strokes i.toNat).Points)], I n, agBox (inkB ik.Strokes ik.Strokes.length)] true (slFeat true (featQ (at_ ik.Strokes i.toNat) n (inkB ik.Strokes ik.Strokes.length))) ∧ True, (out.length + ((featQ (at_ ik.Strokes i.toNat) n (inkB ik.Strokes ik.Strokes.length)).length)) * 24 ≤ 140737488355328] hB ⟨⟨(by omega), (by omega)⟩, ⟨(l08Stroke_ok (at_ ik.Strokes i.toNat) n (inkB ik.Strokes ik.Strokes.length) (okI_all ok _ hi) (by omega) hfb), trivial⟩, (by omega), trivial⟩ ?_
   refine ae_block 1 ?_
   refine ae_then ?_
   refine aw_r [] [0, 1, 5, 6, 7] [5, 30] [.ptr false [slStroke false ik.Strokes], I n, .ref 5 0, .arr 30, I (i + 1)] [some (bxBox (inkB ik.Strokes ik.Strokes.length)), some (.arr 3 (out.length + ((featQ (at_ ik.Strokes i.toNat) n (inkB ik.Strokes ik.Strokes.length)).length)) (catF out.length (fFeat out) (fFeat (featQ (at_ ik.Strokes i.toNat) n (inkB ik.Strokes ik.Strokes.length)))))] [inR .i64 (i + 1)] hB ⟨(inR_i64 (by omega) (by omega)), trivial⟩ ?_
   refine ae_weak hB [(10, 30)] (T := [(0, .ptr false [slStroke false ik.Strokes]), (1, I n), (5, .ref 5 0), (6, .arr 10), (7, I (i + 1))]) (O := [(5, bxBox (inkB ik.Strokes ik.Strokes.length)), (10, tAFeat (out ++ (featQ (at_ ik.Strokes i.toNat) n (inkB ik.Strokes ik.Strokes.length))))]) rfl (⟨.inl rfl, .inl rfl, .inl rfl, .inl rfl, .inl rfl, trivial⟩) (⟨.inl rfl, .inr ⟨rfl, (by first | rfl | (simp; done) | (simp; omega) | omega), fun i_ hi_ => .inl (cat_app (enc := cFeat) (xs := out) i_ hi_)⟩, trivial⟩) (ae_again _ (by omega) ⟨(out ++ (featQ (at_ ik.Strokes i.toNat) n (inkB ik.Strokes ik.Strokes.length))), (i + 1), rfl, (by omega), (by rw [List.length_append, hfl]; omega), (by rw [featI_succ (by omega), ← hl0]), rfl⟩)
  have hie : i.toNat = ik.Strokes.length := by omega
  rw [hie] at hl0
  have hl1 : out = feA ik n := hl0
  clear hl0
  subst hl1
  refine aw_r [(6, .dec false)] [0, 1, 5, 6, 7, 17] [5, 10] [.ptr false [slStroke false ik.Strokes], I n, .ref 5 0, .arr 10, I i, Bv false] [some (bxBox (inkB ik.Strokes ik.Strokes.length)), some (tAFeat (feA ik n))] [¬ (i < (ik.Strokes.length : Int))] hB ⟨h1, trivial⟩ ?_
  refine ae_then ?_
  refine aw_false rfl ?_
  refine aw_exit ?_
  refine ae_exit_then ?_
  refine ae_exit_then ?_
  refine ae_exit_same ?_
  refine ae_then ?_
  refine aR [] [4] [10] [.arr 10] [some (tAFeat (feA ik n))] [] hB trivial ?_
  refine aw_ret ?_
  refine ae_ret hB (.arr 10) (by kernel_rfl) (.inr ⟨(fun _ => rfl), rfl, rfl, fun i _ => .inl rfl⟩) rfl (fun _ => (tagFeat true _))





theorem at_set_same {α : Type} [Inhabited α] {xs : List α} {i : Nat} {x : α} (h : i < xs.length) : at_ (xs.set i x) i = x := by simp [at_, h]
theorem at_set_oth {α : Type} [Inhabited α] {xs : List α} {i j : Nat} {x : α} (h : i ≠ j) : at_ (xs.set j x) i = at_ xs i := by
  have h' : ¬ j = i := fun e => h e.symm
  simp [at_, List.getElem?_set, h']




def labB (n : Int) : Bool := decide ((97 ≤ n ∧ n ≤ 122) ∨ (48 ≤ n ∧ n ≤ 57) ∨ n = 43 ∨ n = 45 ∨ n = 42 ∨ n = 47 ∨ n = 61 ∨ n = 40 ∨ n = 41 ∨ n = 46 ∨ n = 44)
def okLabel (s : ByteArray) : Bool := decide (s.size = 1) && labB (bAt s 0)


def okTm (t : Template) : Bool := okLabel t.Label && okFeats t.Feats 72

def okStore' (s : Store) : Bool := inB s.Band 0 72 && (decide ((s.Templates.length : Int) ≤ 40) && allN s.Templates.length (fun j => okTm (at_ s.Templates j)))
theorem okStore_iff {s : Store} : okStore' s = true ↔ (0 ≤ s.Band ∧ s.Band ≤ 72) ∧ s.Templates.length ≤ 40 ∧ ∀ j, j < s.Templates.length → okTm (at_ s.Templates j) = true := by
  simp only [okStore', Bool.and_eq_true, decide_eq_true_eq, inB, allN_iff]
  constructor
  · rintro ⟨a, b, c⟩; exact ⟨a, by omega, c⟩
  · rintro ⟨a, b, c⟩; exact ⟨a, by omega, c⟩


theorem okTm_mk {l : ByteArray} {fs : List Feat} (h1 : okLabel l = true) (h2 : okFeats fs 72 = true) : okTm (Template.mk l fs) = true := by simp [okTm, h1, h2]

def cmpS (a b : ByteArray) : Int := if sless a b = true then -1 else if sless a b = false ∧ a ≠ b then 1 else 0
def orL : List Int → Int
  | [] => 0
  | x :: r => if x = 0 then orL r else x
theorem orL_at [Inhabited Int] {xs : List Int} : ∀ {k : Nat}, k < xs.length → (∀ j, j < k → at_ xs j = 0) → at_ xs k ≠ 0 → orL xs = at_ xs k := by
  induction xs with
  | nil => intro k h; simp at h
  | cons x r ih =>
    intro k h h0 hk
    cases k with
    | zero => have e : at_ (x :: r) 0 = x := rfl; rw [e] at hk ⊢; exact if_neg hk
    | succ k =>
      have e : at_ (x :: r) (k + 1) = at_ r k := by simp [at_]
      have e0 : x = 0 := h0 0 (by omega)
      rw [e] at hk ⊢
      unfold orL; rw [if_pos e0]
      refine ih (by simpa using h) (fun j hj => ?_) hk
      have := h0 (j + 1) (by omega)
      simpa [at_] using this
theorem orL_none [Inhabited Int] {xs : List Int} : (∀ j, j < xs.length → at_ xs j = 0) → orL xs = 0 := by
  induction xs with
  | nil => intro _; rfl
  | cons x r ih =>
    intro h
    have e0 : x = 0 := h 0 (by simp)
    unfold orL; rw [if_pos e0]
    refine ih fun j hj => ?_
    have := h (j + 1) (by simp; omega)
    simpa [at_] using this


def cmpI (a b : Int) : Int := if a < b then -1 else if b < a then 1 else 0
theorem cmpI_neg {a b : Int} : cmpI a b < 0 ↔ a < b := by unfold cmpI; split <;> (try split) <;> omega
theorem cmpI_zero {a b : Int} : cmpI a b = 0 ↔ a = b := by unfold cmpI; split <;> (try split) <;> omega
def shfL {α : Type} (p : List α) (x : α) (j : Nat) : List α := p.take j ++ x :: p.drop j
theorem shf_len {α : Type} {p : List α} {x : α} {j : Nat} (h : j ≤ p.length) : (shfL p x j).length = p.length + 1 := by
  simp [shfL]; omega
theorem shf_end {α : Type} (p : List α) (x : α) : shfL p x p.length = p ++ [x] := by simp [shfL]
theorem shf_at {α : Type} [Inhabited α] {p r : List α} {x : α} {j : Nat} (h : j ≤ p.length) : at_ (shfL p x j ++ r) j = x := by
  have hl : (p.take j).length = j := by simp; omega
  rw [shfL, List.append_assoc, at_right (by omega), hl, Nat.sub_self]; simp [at_]
theorem shf_below {α : Type} [Inhabited α] {p r : List α} {x : α} {j k : Nat} (h : j ≤ p.length) (hk : k < j) : at_ (shfL p x j ++ r) k = at_ p k := by
  have hl : (p.take j).length = j := by simp; omega
  rw [shfL, List.append_assoc, at_left (by omega), at_eq (by omega), at_eq (by omega), List.getElem_take]
theorem at_cons {α : Type} [Inhabited α] (x : α) (l : List α) (k : Nat) : at_ (x :: l) (k + 1) = at_ l k := by simp [at_]
theorem at_drop {α : Type} [Inhabited α] (l : List α) (j k : Nat) : at_ (l.drop j) k = at_ l (j + k) := by simp [at_, List.getElem?_drop]
theorem shf_above {α : Type} [Inhabited α] {p r : List α} {x : α} {j k : Nat} (h : j ≤ p.length) (hk : j < k) : at_ (shfL p x j ++ r) k = at_ (p ++ r) (k - 1) := by
  have hl : (p.take j).length = j := by simp; omega
  have e : k - j = (k - 1 - j) + 1 := by omega
  rw [shfL, List.append_assoc, at_right (by omega), hl, e, List.cons_append, at_cons]
  by_cases c : k - 1 < p.length
  · rw [at_left (by simp; omega), at_left c, at_drop]; congr 1; omega
  · rw [at_right (by simp; omega), at_right (by omega)]; congr 1; simp; omega
theorem shf_step {α : Type} [Inhabited α] {p r : List α} {x : α} {j : Nat} (h : j + 1 ≤ p.length) : ((shfL p x (j + 1) ++ r).set (j + 1) (at_ p j)).set j x = shfL p x j ++ r := by
  refine ext_at (by simp [shf_len h, shf_len (show j ≤ p.length by omega)]) fun k hk => ?_
  have hl : (shfL p x (j + 1) ++ r).length = p.length + 1 + r.length := by rw [List.length_append, shf_len h]
  rw [List.length_set, List.length_set, hl] at hk
  by_cases e1 : k = j
  · rw [e1, at_set_same (by rw [List.length_set, hl]; omega), shf_at (by omega)]
  · rw [at_set_oth e1]
    by_cases e2 : k = j + 1
    · rw [e2, at_set_same (by rw [hl]; omega), shf_above (by omega) (by omega), at_left (by omega)]; rfl
    · rw [at_set_oth e2]
      by_cases c : k < j
      · rw [shf_below h (by omega), shf_below (by omega) c]
      · rw [shf_above h (by omega), shf_above (by omega) (by omega)]
def posL {α : Type} [Inhabited α] (c : α → α → Int) (x : α) (p : List α) : Nat → Nat
  | 0 => 0
  | j + 1 => if c x (at_ p j) < 0 then posL c x p j else j + 1
theorem posL_le {α : Type} [Inhabited α] (c : α → α → Int) (x : α) (p : List α) : ∀ j : Nat, posL c x p j ≤ j
  | 0 => Nat.le_refl _
  | j + 1 => by unfold posL; split; exact Nat.le_succ_of_le (posL_le c x p j); exact Nat.le_refl _
def insL {α : Type} [Inhabited α] (c : α → α → Int) (p : List α) (x : α) : List α := shfL p x (posL c x p p.length)
def isoL {α : Type} [Inhabited α] (c : α → α → Int) (xs : List α) : Nat → List α
  | 0 => []
  | k + 1 => insL c (isoL c xs k) (at_ xs k)
theorem isoL_len {α : Type} [Inhabited α] (c : α → α → Int) (xs : List α) : ∀ k : Nat, (isoL c xs k).length = k
  | 0 => rfl
  | k + 1 => by unfold isoL insL; rw [shf_len (posL_le _ _ _ _), isoL_len c xs k]
theorem isoL_one {α : Type} [Inhabited α] (c : α → α → Int) (xs : List α) : isoL c xs 1 = [at_ xs 0] := rfl
theorem pos_hit {α : Type} [Inhabited α] {c : α → α → Int} {x : α} {p : List α} {j : Nat} (h : ∀ k : Nat, j ≤ k → k < p.length → c x (at_ p k) < 0) (hj : j ≤ p.length) (h2 : j = 0 ∨ ¬ c x (at_ p (j - 1)) < 0) : posL c x p p.length = j := by
  have : ∀ m : Nat, m + j ≤ p.length → posL c x p (j + m) = j := fun m => by
    induction m with
    | zero =>
      intro _
      rcases h2 with e | e
      · subst e; rfl
      · cases j with
        | zero => rfl
        | succ j => exact if_neg e
    | succ m ih => intro hm; exact (if_pos (h (j + m) (by omega) (by omega))).trans (ih (by omega))
  have := this (p.length - j) (by omega)
  rwa [show j + (p.length - j) = p.length from by omega] at this
theorem shf_perm {α : Type} (p : List α) (x : α) (j : Nat) : List.Perm (shfL p x j) (p ++ [x]) := by
  unfold shfL
  refine List.perm_middle.trans ?_
  rw [List.take_append_drop]
  exact (List.perm_append_singleton x p).symm
theorem isoL_perm {α : Type} [Inhabited α] (c : α → α → Int) (xs : List α) : ∀ k : Nat, k ≤ xs.length → List.Perm (isoL c xs k) (xs.take k)
  | 0, _ => by simp [isoL]
  | k + 1, h => by
    rw [List.take_succ_eq_append_getElem (by omega), ← at_eq (by omega)]
    exact (shf_perm _ _ _).trans ((isoL_perm c xs k (by omega)).append_right _)
def ordR {α : Type} (c : α → α → Int) (B : α → α → Prop) (x y : α) : Prop := c x y < 0 ∨ c x y = 0 ∧ B x y
structure CmpW {α : Type} (c : α → α → Int) : Prop where
  anti : ∀ x y, c x y < 0 ↔ 0 < c y x
  trans : ∀ x y z, c x y ≤ 0 → c y z < 0 → c x z < 0
theorem CmpW.refl {α : Type} {c : α → α → Int} (h : CmpW c) (x : α) : c x x = 0 := by have := h.anti x x; omega
theorem CmpW.zero {α : Type} {c : α → α → Int} (h : CmpW c) {x y : α} (e : c x y = 0) : c y x = 0 := by have h1 := h.anti x y; have h2 := h.anti y x; omega
theorem CmpW.le {α : Type} {c : α → α → Int} (h : CmpW c) {x y z : α} (h1 : c x y ≤ 0) (h2 : c y z ≤ 0) : c x z ≤ 0 := by
  rcases Int.lt_or_le 0 (c x z) with g | g
  · have q := (h.anti z x).2 g
    have q2 : c y x < 0 := h.trans y z x h2 q
    have := (h.anti y x).1 q2; omega
  · exact g
theorem pos_lo {α : Type} [Inhabited α] {c : α → α → Int} {x : α} {p : List α} : ∀ (n k : Nat), posL c x p n ≤ k → k < n → c x (at_ p k) < 0
  | 0, k, _, h => absurd h (Nat.not_lt_zero _)
  | n + 1, k, h1, h2 => by
    unfold posL at h1
    split at h1
    · rename_i g
      by_cases e : k = n
      · subst e; exact g
      · exact pos_lo n k h1 (by omega)
    · omega
theorem pos_at {α : Type} [Inhabited α] {c : α → α → Int} {x : α} {p : List α} : ∀ n : Nat, posL c x p n = 0 ∨ ¬ c x (at_ p (posL c x p n - 1)) < 0
  | 0 => .inl rfl
  | n + 1 => by
    unfold posL
    split
    · exact pos_at n
    · right; assumption
theorem isoL_ord {α : Type} [Inhabited α] {c : α → α → Int} (hc : CmpW c) {B : α → α → Prop} {xs : List α} (hB : xs.Pairwise B) : ∀ k : Nat, k ≤ xs.length → (isoL c xs k).Pairwise (ordR c B)
  | 0, _ => by simp [isoL]
  | k + 1, h => by
    have ih := isoL_ord hc hB k (by omega)
    have hp := isoL_perm c xs k (by omega)
    have hl := isoL_len c xs k
    obtain ⟨p, hpe⟩ : ∃ p, p = isoL c xs k := ⟨_, rfl⟩
    obtain ⟨x, hx⟩ : ∃ x, x = at_ xs k := ⟨_, rfl⟩
    rw [isoL, ← hpe, ← hx]
    rw [← hpe] at ih hp hl
    have hbx : ∀ y ∈ p, B y x := fun y hy => by
      have hm := hp.mem_iff.1 hy
      obtain ⟨i, hi, e⟩ := List.getElem_of_mem hm
      rw [List.length_take] at hi
      rw [List.getElem_take] at e
      rw [← e, hx, at_eq (by omega)]
      exact (List.pairwise_iff_getElem.1 hB) i k (by omega) (by omega) (by omega)
    unfold insL shfL
    have hj := posL_le c x p p.length
    have lo := fun k hk hk2 => pos_lo (c := c) (x := x) (p := p) p.length k hk hk2
    have hi := pos_at (c := c) (x := x) (p := p) p.length
    generalize posL c x p p.length = j at hj lo hi ⊢
    have hle : ∀ y ∈ p.take j, c y x ≤ 0 := fun y hy => by
      obtain ⟨i, hi2, e⟩ := List.getElem_of_mem hy
      rw [List.length_take] at hi2
      rw [List.getElem_take] at e
      rcases hi with e0 | e0
      · omega
      · have h3 : c (at_ p (j - 1)) x ≤ 0 := by
          rcases Int.lt_or_le 0 (c (at_ p (j - 1)) x) with g | g
          · exact absurd ((hc.anti _ _).2 g) e0
          · exact g
        rw [← e]
        by_cases ei : i = j - 1
        · have : p[i] = at_ p (j - 1) := by rw [at_eq (by omega)]; congr 1
          rw [this]; exact h3
        · have q := (List.pairwise_iff_getElem.1 ih) i (j - 1) (by omega) (by omega) (by omega)
          rw [← at_eq (show j - 1 < p.length by omega)] at q
          refine hc.le ?_ h3
          rcases q with q | q
          · omega
          · omega
    have hgt : ∀ y ∈ p.drop j, c x y < 0 := fun y hy => by
      obtain ⟨i, hi2, e⟩ := List.getElem_of_mem hy
      rw [List.length_drop] at hi2
      rw [List.getElem_drop] at e
      rw [← e, ← at_eq (by omega)]
      exact lo _ (by omega) (by omega)
    rw [List.pairwise_append]
    refine ⟨ih.sublist (List.take_sublist _ _), List.pairwise_cons.2 ⟨fun y hy => .inl (hgt y hy), ih.sublist (List.drop_sublist _ _)⟩, fun a ha b hb => ?_⟩
    rcases List.mem_cons.1 hb with e | e
    · subst e
      have := hle a ha
      by_cases z : c a b = 0
      · exact .inr ⟨z, hbx a (List.mem_of_mem_take ha)⟩
      · exact .inl (by omega)
    · exact .inl (hc.trans a x b (hle a ha) (hgt b e))
theorem isoL_mem {α : Type} [Inhabited α] {c : α → α → Int} {xs : List α} {x : α} : x ∈ isoL c xs xs.length ↔ x ∈ xs := by
  have := (isoL_perm c xs xs.length (Nat.le_refl _)).mem_iff (a := x)
  rwa [List.take_of_length_le (Nat.le_refl _)] at this
theorem iso_start {α : Type} [Inhabited α] (c : α → α → Int) (xs : List α) : xs = isoL c xs (min 1 xs.length) ++ xs.drop 1 := by
  cases xs with
  | nil => rfl
  | cons x r => show x :: r = isoL c (x :: r) (min 1 (r.length + 1)) ++ r; rw [show min 1 (r.length + 1) = 1 from by omega, isoL_one]; rfl
theorem iso_in {α : Type} [Inhabited α] {c : α → α → Int} {xs : List α} {i : Nat} (hi : i < xs.length) : isoL c xs i ++ xs.drop i = shfL (isoL c xs i) (at_ xs i) i ++ xs.drop (i + 1) := by
  have hl := isoL_len c xs i
  have e : shfL (isoL c xs i) (at_ xs i) i = isoL c xs i ++ [at_ xs i] := by
    have := shf_end (isoL c xs i) (at_ xs i); rwa [hl] at this
  rw [e, List.append_assoc, at_eq hi, List.singleton_append, ← List.drop_eq_getElem_cons hi]
theorem iso_out {α : Type} [Inhabited α] {c : α → α → Int} {xs : List α} {i j : Nat} (hj : j ≤ i) (h : ∀ k : Nat, j ≤ k → k < i → c (at_ xs i) (at_ (isoL c xs i) k) < 0) (h2 : j = 0 ∨ ¬ c (at_ xs i) (at_ (isoL c xs i) (j - 1)) < 0) :
    shfL (isoL c xs i) (at_ xs i) j = isoL c xs (i + 1) := by
  have hl := isoL_len c xs i
  have := pos_hit (c := c) (x := at_ xs i) (p := isoL c xs i) (j := j) (fun k h3 h4 => h k h3 (by omega)) (by omega) h2
  show _ = insL c (isoL c xs i) (at_ xs i)
  unfold insL; rw [this]


theorem bl_irr : ∀ x : List UInt8, Op.bytesLess x x = false
  | [] => rfl
  | a :: x => by
    have h : ¬ a < a := fun q => by have := UInt8.lt_iff_toNat_lt.1 q; omega
    simp [Op.bytesLess, bl_irr x, h]
theorem bl_asym : ∀ x y : List UInt8, Op.bytesLess x y = true → Op.bytesLess y x = false
  | [], [], h => by simp [Op.bytesLess] at h
  | [], _ :: _, _ => by simp [Op.bytesLess]
  | _ :: _, [], h => by simp [Op.bytesLess] at h
  | a :: x, b :: y, h => by
    simp only [Op.bytesLess, Bool.or_eq_true, Bool.and_eq_true, decide_eq_true_eq, beq_iff_eq] at h
    rcases h with h | ⟨h, h2⟩
    · have q := UInt8.lt_iff_toNat_lt.1 h
      have n1 : ¬ b < a := fun z => by have := UInt8.lt_iff_toNat_lt.1 z; omega
      have n2 : ¬ b = a := fun z => by subst z; omega
      simp [Op.bytesLess, n1, n2]
    · subst h
      have n1 : ¬ a < a := fun z => by have := UInt8.lt_iff_toNat_lt.1 z; omega
      simp [Op.bytesLess, n1, bl_asym x y h2]
theorem bl_trans : ∀ x y z : List UInt8, Op.bytesLess x y = true → Op.bytesLess y z = true → Op.bytesLess x z = true
  | _, _, [], _, h => by simp [Op.bytesLess] at h
  | _, [], _ :: _, h, _ => by simp [Op.bytesLess] at h
  | [], _ :: _, _ :: _, _, _ => by simp [Op.bytesLess]
  | a :: x, b :: y, c :: z, h1, h2 => by
    simp only [Op.bytesLess, Bool.or_eq_true, Bool.and_eq_true, decide_eq_true_eq, beq_iff_eq] at h1 h2 ⊢
    rcases h1 with h1 | ⟨h1, g1⟩ <;> rcases h2 with h2 | ⟨h2, g2⟩
    · left; have := UInt8.lt_iff_toNat_lt.1 h1; have := UInt8.lt_iff_toNat_lt.1 h2; exact UInt8.lt_iff_toNat_lt.2 (by omega)
    · left; rw [← h2]; exact h1
    · left; rw [h1]; exact h2
    · right; exact ⟨h1.trans h2, bl_trans x y z g1 g2⟩
theorem bl_tri : ∀ x y : List UInt8, Op.bytesLess x y = false → x ≠ y → Op.bytesLess y x = true
  | [], [], _, h => absurd rfl h
  | [], _ :: _, h, _ => by simp [Op.bytesLess] at h
  | _ :: _, [], _, _ => by simp [Op.bytesLess]
  | a :: x, b :: y, h, hn => by
    simp only [Op.bytesLess, Bool.or_eq_false_iff, decide_eq_false_iff_not] at h
    simp only [Op.bytesLess, Bool.or_eq_true, Bool.and_eq_true, decide_eq_true_eq, beq_iff_eq]
    by_cases e : a = b
    · subst e
      right
      refine ⟨rfl, bl_tri x y ?_ fun q => hn (by rw [q])⟩
      have := h.2
      simpa using this
    · left
      have q : ¬ a.toNat < b.toNat := fun z => h.1 (UInt8.lt_iff_toNat_lt.2 z)
      have q2 : a.toNat ≠ b.toNat := fun z => e (UInt8.toNat_inj.1 z)
      exact UInt8.lt_iff_toNat_lt.2 (by omega)
theorem sl_tri {a b : ByteArray} (h : sless a b = false) (hn : a ≠ b) : sless b a = true := by
  unfold sless at *
  refine bl_tri _ _ h fun q => hn ?_
  rw [Lib.toList_data, Lib.toList_data] at q
  cases a; cases b
  simp only [ByteArray.mk.injEq]
  exact Array.toList_inj.1 q
theorem sl_asym {a b : ByteArray} (h : sless a b = true) : sless b a = false := bl_asym _ _ h
theorem sl_irr (a : ByteArray) : sless a a = false := bl_irr _
theorem sl_trans {a b c : ByteArray} (h1 : sless a b = true) (h2 : sless b c = true) : sless a c = true := bl_trans _ _ _ h1 h2
theorem sl_ne {a b : ByteArray} (h : sless a b = true) : a ≠ b := fun e => by subst e; rw [sl_irr] at h; cases h
theorem cmpS_neg {a b : ByteArray} : cmpS a b < 0 ↔ sless a b = true := by
  unfold cmpS
  by_cases h : sless a b = true
  · rw [if_pos h]; simp [h]
  · rw [if_neg h]; split <;> simp [h]
theorem cmpS_zero {a b : ByteArray} : cmpS a b = 0 ↔ a = b := by
  unfold cmpS
  by_cases h : sless a b = true
  · rw [if_pos h]; have := sl_ne h; simp [this]
  · rw [if_neg h]
    have h' : sless a b = false := by simpa using h
    by_cases e : a = b
    · subst e; simp
    · rw [if_pos ⟨h', e⟩]; simp [e]
theorem cmpS_pos {a b : ByteArray} : 0 < cmpS a b ↔ sless b a = true := by
  constructor
  · intro h
    have n1 : ¬ cmpS a b < 0 := by omega
    have n2 : ¬ cmpS a b = 0 := by omega
    rw [cmpS_neg] at n1; rw [cmpS_zero] at n2
    exact sl_tri (by simpa using n1) n2
  · intro h
    have n1 : ¬ cmpS a b < 0 := fun q => by rw [cmpS_neg] at q; have := sl_asym q; rw [h] at this; cases this
    have n2 : ¬ cmpS a b = 0 := fun q => by rw [cmpS_zero] at q; exact sl_ne h q.symm
    omega
theorem cmpS_w : CmpW cmpS := ⟨fun x y => by rw [cmpS_neg, cmpS_pos], fun x y z h1 h2 => by
  rw [cmpS_neg] at *
  by_cases e : cmpS x y = 0
  · rw [cmpS_zero] at e; subst e; exact h2
  · exact sl_trans (cmpS_neg.1 (by omega)) h2⟩
theorem cmpI_w : CmpW cmpI := ⟨fun x y => by unfold cmpI; split <;> (try split) <;> (try split) <;> omega, fun x y z h1 h2 => by
  rw [cmpI_neg] at *
  have := @cmpI_neg y x
  have := @cmpI_zero x y
  have := @cmpI_neg x y
  omega⟩
theorem CmpW.lex {α β : Type} {f : β → α} {c : α → α → Int} {d : β → β → Int} (hc : CmpW c) (hd : CmpW d) : CmpW fun x y : β => if c (f x) (f y) = 0 then d x y else c (f x) (f y) := ⟨fun x y => by
    have a1 := hc.anti (f x) (f y)
    have a2 := hc.anti (f y) (f x)
    have b1 := hd.anti x y
    show (if c (f x) (f y) = 0 then d x y else c (f x) (f y)) < 0 ↔ 0 < (if c (f y) (f x) = 0 then d y x else c (f y) (f x))
    by_cases e : c (f x) (f y) = 0
    · rw [if_pos e, if_pos (hc.zero e)]; exact b1
    · rw [if_neg e, if_neg (fun q => e (hc.zero q))]; exact a1, fun x y z h1 h2 => by
    replace h1 : (if c (f x) (f y) = 0 then d x y else c (f x) (f y)) ≤ 0 := h1
    replace h2 : (if c (f y) (f z) = 0 then d y z else c (f y) (f z)) < 0 := h2
    show (if c (f x) (f z) = 0 then d x z else c (f x) (f z)) < 0
    by_cases e1 : c (f x) (f y) = 0
    · rw [if_pos e1] at h1
      by_cases e2 : c (f y) (f z) = 0
      · rw [if_pos e2] at h2
        have l1 := hc.le (x := f x) (y := f y) (z := f z) (by omega) (by omega)
        have l2 := hc.le (x := f z) (y := f y) (z := f x) (by have := hc.zero e2; omega) (by have := hc.zero e1; omega)
        have a := hc.anti (f x) (f z)
        have a2 := hc.anti (f z) (f x)
        rw [if_pos (by omega)]
        exact hd.trans x y z h1 h2
      · rw [if_neg e2] at h2
        have := hc.trans (f x) (f y) (f z) (by omega) h2
        rw [if_neg (by omega)]; exact this
    · rw [if_neg e1] at h1
      have h1' : c (f x) (f y) < 0 := by omega
      have hz : c (f y) (f z) ≤ 0 := by
        by_cases e2 : c (f y) (f z) = 0
        · omega
        · rw [if_neg e2] at h2; omega
      have l := hc.le (x := f x) (y := f y) (z := f z) (by omega) hz
      have n : c (f x) (f z) ≠ 0 := fun q => by
        have q2 := hc.zero q
        have := hc.trans (f z) (f x) (f y) (by omega) h1'
        have a := hc.anti (f z) (f y)
        omega
      rw [if_neg n]; omega⟩
theorem CmpW.map {α β : Type} {c : α → α → Int} (hc : CmpW c) (f : β → α) : CmpW fun x y : β => c (f x) (f y) := ⟨fun x y => hc.anti _ _, fun x y z => hc.trans _ _ _⟩


theorem pw_get {α : Type} [Inhabited α] {R : α → α → Prop} {xs : List α} (h : xs.Pairwise R) {i j : Nat} (hij : i < j) (hj : j < xs.length) : R (at_ xs i) (at_ xs j) := by
  rw [at_eq (by omega), at_eq hj]
  exact (List.pairwise_iff_getElem.1 h) i j (by omega) hj hij

def cmpE (a b : Edge) : Int := orL [cmpI a.From b.From, cmpI a.To b.To, cmpS a.Label b.Label]
def okEd (l : Lattice) (e : Edge) : Prop := (0 ≤ e.From ∧ e.From < e.To ∧ e.To < l.Nodes) ∧ (0 ≤ e.Cost ∧ e.Cost ≤ 1000000) ∧ okLabel e.Label = true
def okLat (l : Lattice) : Prop := (1 ≤ l.Nodes ∧ l.Nodes ≤ 20) ∧ l.Edges.length ≤ 200 ∧ (∀ i : Nat, i < l.Edges.length → okEd l (at_ l.Edges i)) ∧ l.Edges.Pairwise fun x y => cmpE x y < 0
theorem lab_size {s : ByteArray} (h : okLabel s = true) : s.size = 1 := by simp only [okLabel, Bool.and_eq_true, decide_eq_true_eq] at h; exact h.1


def cmpM (x y : Match) : Int := cmpI x.Cost y.Cost

def costF (a b : Feat) : Int := ((a.X - b.X).natAbs : Int) + ((a.Y - b.Y).natAbs : Int) + 16 * min ((a.D - b.D).natAbs : Int) (8 - ((a.D - b.D).natAbs : Int))
theorem costF_bd {a b : Feat} (ha : okF a = true) (hb : okF b = true) : 0 ≤ costF a b ∧ costF a b ≤ 600 := by
  have h1 := okF_iff.1 ha
  have h2 := okF_iff.1 hb
  unfold costF
  omega
def stp (far band : Int) (i j : Nat) (before c : Int) : Int := if band < (((i : Int) - (j : Int)).natAbs : Int) ∨ far ≤ before then far else before + c
def cv (far : Int) (a b : List Feat) (band : Int) : Nat → Nat → Int
  | 0, 0 => stp far band 0 0 0 (costF (at_ a 0) (at_ b 0))
  | 0, j + 1 => stp far band 0 (j + 1) (min far (cv far a b band 0 j)) (costF (at_ a 0) (at_ b (j + 1)))
  | i + 1, 0 => stp far band (i + 1) 0 (min far (cv far a b band i 0)) (costF (at_ a (i + 1)) (at_ b 0))
  | i + 1, j + 1 => stp far band (i + 1) (j + 1) (min (min (min far (cv far a b band i j)) (cv far a b band i (j + 1))) (cv far a b band (i + 1) j)) (costF (at_ a (i + 1)) (at_ b (j + 1)))
termination_by i j => (i, j)
def okAB (a b : List Feat) : Prop := (∀ i, i < a.length → okF (at_ a i) = true) ∧ (∀ j, j < b.length → okF (at_ b j) = true) ∧ a.length ≤ 72 ∧ b.length ≤ 72
theorem stp_far {far band : Int} {i j : Nat} {before c : Int} (h : band < (((i : Int) - (j : Int)).natAbs : Int) ∨ far ≤ before) : stp far band i j before c = far := if_pos h
theorem stp_add {far band : Int} {i j : Nat} {before c : Int} (h1 : ¬ band < (((i : Int) - (j : Int)).natAbs : Int)) (h2 : ¬ far ≤ before) : stp far band i j before c = before + c := if_neg (by omega)
theorem cv_out {far band : Int} {a b : List Feat} {i j : Nat} (h : band < (((i : Int) - (j : Int)).natAbs : Int)) : cv far a b band i j = far := by
  rcases i with _ | i <;> rcases j with _ | j <;> rw [cv] <;> exact stp_far (.inl h)
theorem cv_in {band : Int} {a b : List Feat} (hab : okAB a b) {f1 f2 : Int} (h1 : 1000000000 ≤ f1) (h2 : 1000000000 ≤ f2) : ∀ (s i j : Nat), i + j = s → i < a.length → j < b.length → (((i : Int) - (j : Int)).natAbs : Int) ≤ band → cv f1 a b band i j = cv f2 a b band i j ∧ 0 ≤ cv f1 a b band i j ∧ cv f1 a b band i j ≤ 600 * ((i : Int) + j + 1)
  | s, 0, 0, hs, hi, hj, hb => by
    have hc := costF_bd (hab.1 0 hi) (hab.2.1 0 hj)
    rw [cv, cv, stp_add (by omega) (by omega), stp_add (by omega) (by omega)]
    omega
  | s, 0, j + 1, hs, hi, hj, hb => by
    have hc := costF_bd (hab.1 0 hi) (hab.2.1 (j + 1) hj)
    obtain ⟨e, p0, p1⟩ := cv_in (band := band) hab h1 h2 (0 + j) 0 j rfl hi (by omega) (by omega)
    have hl := hab.2.2
    rw [cv, cv, ← e, stp_add (by omega) (by omega), stp_add (by omega) (by omega)]
    omega
  | s, i + 1, 0, hs, hi, hj, hb => by
    have hc := costF_bd (hab.1 (i + 1) hi) (hab.2.1 0 hj)
    obtain ⟨e, p0, p1⟩ := cv_in (band := band) hab h1 h2 (i + 0) i 0 rfl (by omega) hj (by omega)
    have hl := hab.2.2
    rw [cv, cv, ← e, stp_add (by omega) (by omega), stp_add (by omega) (by omega)]
    omega
  | s, i + 1, j + 1, hs, hi, hj, hb => by
    have hc := costF_bd (hab.1 (i + 1) hi) (hab.2.1 (j + 1) hj)
    have hl := hab.2.2
    obtain ⟨e, p0, p1⟩ := cv_in (band := band) hab h1 h2 (i + j) i j rfl (by omega) (by omega) (by omega)
    have q1 : (cv f1 a b band i (j + 1) = f1 ∧ cv f2 a b band i (j + 1) = f2) ∨ (cv f1 a b band i (j + 1) = cv f2 a b band i (j + 1) ∧ 0 ≤ cv f1 a b band i (j + 1) ∧ cv f1 a b band i (j + 1) ≤ 600 * ((i : Int) + (j + 1 : Nat) + 1)) := by
      by_cases q : band < (((i : Int) - ((j + 1 : Nat) : Int)).natAbs : Int)
      · exact .inl ⟨cv_out q, cv_out q⟩
      · exact .inr (cv_in (band := band) hab h1 h2 (i + (j + 1)) i (j + 1) rfl (by omega) hj (by omega))
    have q2 : (cv f1 a b band (i + 1) j = f1 ∧ cv f2 a b band (i + 1) j = f2) ∨ (cv f1 a b band (i + 1) j = cv f2 a b band (i + 1) j ∧ 0 ≤ cv f1 a b band (i + 1) j ∧ cv f1 a b band (i + 1) j ≤ 600 * (((i + 1 : Nat) : Int) + j + 1)) := by
      by_cases q : band < ((((i + 1 : Nat) : Int) - (j : Int)).natAbs : Int)
      · exact .inl ⟨cv_out q, cv_out q⟩
      · exact .inr (cv_in (band := band) hab h1 h2 ((i + 1) + j) (i + 1) j rfl hi (by omega) (by omega))
    rw [cv, cv, ← e, stp_add (by omega) (by omega), stp_add (by omega) (by omega)]
    omega
termination_by s i j => i + j


def lb1 (tb : List (List Int)) (i j : Int) : Int := if 1 ≤ i ∧ 1 ≤ j then min 1099511627776 (at_ (at_ tb (i - 1).toNat) (j - 1).toNat) else 1099511627776
def lb2 (tb : List (List Int)) (i j : Int) : Int := if 1 ≤ i then min (lb1 tb i j) (at_ (at_ tb (i - 1).toNat) (j - 0).toNat) else lb1 tb i j
def lb3 (tb : List (List Int)) (i j : Int) : Int := if 1 ≤ j then min (lb2 tb i j) (at_ (at_ tb (i - 0).toNat) (j - 1).toNat) else lb2 tb i j
def lbk (tb : List (List Int)) (i j : Int) : Nat → Int
  | 0 => 1099511627776
  | 1 => lb1 tb i j
  | 2 => lb2 tb i j
  | _ => lb3 tb i j




abbrev farI : Int := 1099511627776
def rowOk (a b : List Feat) (band : Int) (r : List Int) (p n : Nat) : Prop := r.length = b.length ∧ ∀ q, q < n → at_ r q = cv farI a b band p q
def tbOk (a b : List Feat) (band : Int) (tb : List (List Int)) (i : Nat) : Prop := tb.length = a.length ∧ ∀ p, p < i → rowOk a b band (at_ tb p) p b.length
theorem cv_nn {far : Int} (hf : 0 ≤ far) {a b : List Feat} (band : Int) (hab : okAB a b) : ∀ (i j : Nat), i < a.length → j < b.length → 0 ≤ cv far a b band i j
  | 0, 0, hi, hj => by
    have hc := costF_bd (hab.1 0 hi) (hab.2.1 0 hj)
    rw [cv]; unfold stp; split <;> omega
  | 0, j + 1, hi, hj => by
    have hc := costF_bd (hab.1 0 hi) (hab.2.1 (j + 1) hj)
    have := cv_nn hf band hab 0 j hi (by omega)
    rw [cv]; unfold stp; split <;> omega
  | i + 1, 0, hi, hj => by
    have hc := costF_bd (hab.1 (i + 1) hi) (hab.2.1 0 hj)
    have := cv_nn hf band hab i 0 (by omega) hj
    rw [cv]; unfold stp; split <;> omega
  | i + 1, j + 1, hi, hj => by
    have hc := costF_bd (hab.1 (i + 1) hi) (hab.2.1 (j + 1) hj)
    have := cv_nn hf band hab i j (by omega) (by omega)
    have := cv_nn hf band hab i (j + 1) (by omega) (by omega)
    have := cv_nn hf band hab (i + 1) j (by omega) (by omega)
    rw [cv]; unfold stp; split <;> omega
termination_by i j => i + j
theorem lb_at {a b : List Feat} {band : Int} {tb : List (List Int)} {i j : Nat} (hab : okAB a b) (h : tbOk a b band tb i) (hr : rowOk a b band (at_ tb i) i j) (hi : i < a.length) (hj : j < b.length) :
    (0 ≤ lb3 tb i j ∧ lb3 tb i j ≤ farI) ∧ cv farI a b band i j = stp farI band i j (if i = 0 ∧ j = 0 then 0 else lb3 tb i j) (costF (at_ a i) (at_ b j)) := by
  have hF : farI = 1099511627776 := rfl
  have e1 : ∀ p q : Nat, p < i → q < b.length → at_ (at_ tb p) q = cv farI a b band p q ∧ 0 ≤ cv farI a b band p q := fun p q hp hq => ⟨(h.2 p hp).2 q hq, cv_nn (by decide) band hab p q (by omega) hq⟩
  have e2 : ∀ q : Nat, q < j → at_ (at_ tb i) q = cv farI a b band i q ∧ 0 ≤ cv farI a b band i q := fun q hq => ⟨hr.2 q hq, cv_nn (by decide) band hab i q hi (by omega)⟩
  rcases i with _ | i <;> rcases j with _ | j
  · refine ⟨?_, by rw [cv]; simp⟩
    simp [lb3, lb2, lb1]
  · have q := e2 j (by omega)
    have e : lb3 tb (0 : Nat) ((j + 1 : Nat) : Int) = min farI (cv farI a b band 0 j) := by
      unfold lb3 lb2 lb1
      rw [if_pos (by omega), if_neg (by omega), if_neg (by omega), show (((j + 1 : Nat) : Int) - 1).toNat = j from by omega, show (((0 : Nat) : Int) - 0).toNat = 0 from rfl, q.1]
    rw [e]
    refine ⟨by omega, ?_⟩
    rw [cv, if_neg (by omega)]
  · have q := e1 i 0 (by omega) hj
    have e : lb3 tb ((i + 1 : Nat) : Int) (0 : Nat) = min farI (cv farI a b band i 0) := by
      unfold lb3 lb2 lb1
      rw [if_neg (by omega), if_pos (by omega), if_neg (by omega), show (((i + 1 : Nat) : Int) - 1).toNat = i from by omega, show (((0 : Nat) : Int) - 0).toNat = 0 from rfl, q.1]
    rw [e]
    refine ⟨by omega, ?_⟩
    rw [cv, if_neg (by omega)]
  · have q1 := e1 i j (by omega) (by omega)
    have q2 := e1 i (j + 1) (by omega) hj
    have q3 := e2 j (by omega)
    have e : lb3 tb ((i + 1 : Nat) : Int) ((j + 1 : Nat) : Int) = min (min (min farI (cv farI a b band i j)) (cv farI a b band i (j + 1))) (cv farI a b band (i + 1) j) := by
      unfold lb3 lb2 lb1
      rw [if_pos (by omega), if_pos (by omega), if_pos (by omega), show (((i + 1 : Nat) : Int) - 1).toNat = i from by omega, show (((j + 1 : Nat) : Int) - 1).toNat = j from by omega, show (((j + 1 : Nat) : Int) - 0).toNat = j + 1 from by omega, show (((i + 1 : Nat) : Int) - 0).toNat = i + 1 from by omega, q1.1, q2.1, q3.1]
    rw [e]
    refine ⟨by omega, ?_⟩
    rw [cv, if_neg (by omega)]
theorem tb_row {a b : List Feat} {band : Int} {tb : List (List Int)} {i m : Nat} (h : tbOk a b band tb i) (hi : i < a.length) (hm : m = b.length) : tbOk a b band (tb.set i (List.replicate m 0)) i ∧ rowOk a b band (at_ (tb.set i (List.replicate m 0)) i) i 0 := by
  refine ⟨⟨by rw [List.length_set]; exact h.1, fun p hp => ?_⟩, ?_, fun q hq => by omega⟩
  · rw [at_set_oth (by omega)]; exact h.2 p hp
  · rw [at_set_same (by rw [h.1]; exact hi)]; simp [hm]
theorem tb_step {a b : List Feat} {band v : Int} {tb : List (List Int)} {i j : Nat} (h : tbOk a b band tb i) (hr : rowOk a b band (at_ tb i) i j) (hi : i < a.length) (hj : j < b.length) (hv : v = cv farI a b band i j) : tbOk a b band (tb.set i ((at_ tb i).set j v)) i ∧ rowOk a b band (at_ (tb.set i ((at_ tb i).set j v)) i) i (j + 1) := by
  refine ⟨⟨by rw [List.length_set]; exact h.1, fun p hp => ?_⟩, ?_, fun q hq => ?_⟩
  · rw [at_set_oth (by omega)]; exact h.2 p hp
  · rw [at_set_same (by rw [h.1]; exact hi), List.length_set]; exact hr.1
  · rw [at_set_same (by rw [h.1]; exact hi)]
    by_cases e : q = j
    · subst e; rw [at_set_same (by rw [hr.1]; exact hj)]; exact hv
    · rw [at_set_oth e]; exact hr.2 q (by omega)
theorem tb_done {a b : List Feat} {band : Int} {tb : List (List Int)} {i n : Nat} (h : tbOk a b band tb i) (hr : rowOk a b band (at_ tb i) i n) (hn : n = b.length) : tbOk a b band tb (i + 1) := by
  subst hn
  refine ⟨h.1, fun p hp => ?_⟩
  by_cases e : p = i
  · subst e; exact hr
  · exact h.2 p (by omega)
theorem tb_nil (a b : List Feat) (band : Int) {n : Nat} (hn : n = a.length) : tbOk a b band (List.replicate n []) 0 := ⟨by simp [hn], fun p hp => by omega⟩


abbrev farS : Int := 1000000000
def flOk (a b : List Feat) (band : Int) (out : List Int) (k : Nat) : Prop := out.length = a.length * b.length ∧ ∀ p q, p < a.length → q < b.length → p * b.length + q < k → at_ out (p * b.length + q) = cv farS a b band p q
def sb0 (i j : Int) : Int := if i = 0 ∧ j = 0 then 0 else 1000000000
def sb1 (out : List Int) (m i j : Int) : Int := if 0 < i ∧ 0 < j then min (sb0 i j) (at_ out ((i - 1) * m + j - 1).toNat) else sb0 i j
def sb2 (out : List Int) (m i j : Int) : Int := if 0 < i then min (sb1 out m i j) (at_ out ((i - 1) * m + j).toNat) else sb1 out m i j
def sb3 (out : List Int) (m i j : Int) : Int := if 0 < j then min (sb2 out m i j) (at_ out (i * m + j - 1).toNat) else sb2 out m i j
theorem fl_lt {p q i j m : Nat} (h : p < i) (hq : q < m) : p * m + q < i * m + j := by
  have : (p + 1) * m ≤ i * m := Nat.mul_le_mul_right _ h
  rw [Nat.succ_mul] at this
  omega
theorem ix_up {i j : Nat} {m : Nat} : (((i + 1 : Nat) : Int) - 1) * (m : Int) = ((i * m : Nat) : Int) := by
  rw [show ((i + 1 : Nat) : Int) - 1 = (i : Int) from by omega, Int.natCast_mul]
theorem cv_le {far : Int} (hf : 1000000000 ≤ far) {a b : List Feat} (band : Int) (hab : okAB a b) {i j : Nat} (hi : i < a.length) (hj : j < b.length) : cv far a b band i j = far ∨ cv far a b band i j ≤ 87000 := by
  by_cases h : band < (((i : Int) - (j : Int)).natAbs : Int)
  · exact .inl (cv_out h)
  · have := (cv_in (band := band) hab hf hf (i + j) i j rfl hi hj (by omega)).2.2
    have hl := hab.2.2
    right; omega
theorem sb_at {a b : List Feat} {band : Int} {out : List Int} {i j : Nat} (hab : okAB a b) (h : flOk a b band out (i * b.length + j)) (hi : i < a.length) (hj : j < b.length) :
    (0 ≤ sb3 out b.length i j ∧ (sb3 out b.length i j ≤ 87000 ∨ sb3 out b.length i j = 1000000000)) ∧ cv farS a b band i j = (if sb3 out b.length i j = 1000000000 ∨ band < (((i : Int) - (j : Int)).natAbs : Int) then 1000000000 else sb3 out b.length i j + costF (at_ a i) (at_ b j)) := by
  have hF : farS = 1000000000 := rfl
  have e1 : ∀ p q : Nat, p < i → q < b.length → at_ out (p * b.length + q) = cv farS a b band p q ∧ 0 ≤ cv farS a b band p q ∧ (cv farS a b band p q = farS ∨ cv farS a b band p q ≤ 87000) := fun p q hp hq => ⟨h.2 p q (by omega) hq (fl_lt hp hq), cv_nn (by decide) band hab p q (by omega) hq, cv_le (by decide) band hab (by omega) hq⟩
  have e2 : ∀ q : Nat, q < j → at_ out (i * b.length + q) = cv farS a b band i q ∧ 0 ≤ cv farS a b band i q ∧ (cv farS a b band i q = farS ∨ cv farS a b band i q ≤ 87000) := fun q hq => ⟨h.2 i q hi (by omega) (by omega), cv_nn (by decide) band hab i q hi (by omega), cv_le (by decide) band hab hi (by omega)⟩
  have hst : ∀ x c : Int, x ≤ farS → stp farS band i j x c = (if x = 1000000000 ∨ band < (((i : Int) - (j : Int)).natAbs : Int) then 1000000000 else x + c) := fun x c hx => by
    unfold stp; split <;> split <;> omega
  rcases i with _ | i <;> rcases j with _ | j
  · have e : sb3 out b.length (0 : Nat) (0 : Nat) = 0 := by simp [sb3, sb2, sb1, sb0]
    rw [e]
    refine ⟨by omega, ?_⟩
    rw [cv, hst _ _ (by omega)]
  · have q := e2 j (by omega)
    have e : sb3 out b.length (0 : Nat) ((j + 1 : Nat) : Int) = min farS (cv farS a b band 0 j) := by
      unfold sb3 sb2 sb1 sb0
      rw [if_pos (by omega), if_neg (by omega), if_neg (by omega), if_neg (by omega), show (((0 : Nat) : Int) * (b.length : Int) + ((j + 1 : Nat) : Int) - 1).toNat = 0 * b.length + j from by rw [show ((0 : Nat) : Int) * (b.length : Int) = 0 from Int.zero_mul _, Nat.zero_mul]; omega, q.1]
    rw [e]
    refine ⟨by omega, ?_⟩
    rw [cv, hst _ _ (by omega)]
  · have q := e1 i 0 (by omega) hj
    have e : sb3 out b.length ((i + 1 : Nat) : Int) (0 : Nat) = min farS (cv farS a b band i 0) := by
      unfold sb3 sb2 sb1 sb0
      rw [if_neg (by omega), if_pos (by omega), if_neg (by omega), if_neg (by omega), ix_up (j := 0), show (((i * b.length : Nat) : Int) + ((0 : Nat) : Int)).toNat = i * b.length + 0 from by omega, q.1]
    rw [e]
    refine ⟨by omega, ?_⟩
    rw [cv, hst _ _ (by omega)]
  · have q1 := e1 i j (by omega) (by omega)
    have q2 := e1 i (j + 1) (by omega) hj
    have q3 := e2 j (by omega)
    have e : sb3 out b.length ((i + 1 : Nat) : Int) ((j + 1 : Nat) : Int) = min (min (min farS (cv farS a b band i j)) (cv farS a b band i (j + 1))) (cv farS a b band (i + 1) j) := by
      unfold sb3 sb2 sb1 sb0
      rw [if_pos (by omega), if_pos (by omega), if_pos (by omega), if_neg (by omega), ix_up (j := 0), show (((i * b.length : Nat) : Int) + ((j + 1 : Nat) : Int) - 1).toNat = i * b.length + j from by omega, show (((i * b.length : Nat) : Int) + ((j + 1 : Nat) : Int)).toNat = i * b.length + (j + 1) from by omega, show (((i + 1 : Nat) : Int) * (b.length : Int) + ((j + 1 : Nat) : Int) - 1).toNat = (i + 1) * b.length + j from by rw [← Int.natCast_mul]; omega, q1.1, q2.1, q3.1]
    rw [e]
    refine ⟨by omega, ?_⟩
    rw [cv, hst _ _ (by omega)]
theorem fl_nn {a b : List Feat} {band : Int} {out : List Int} {k0 k : Nat} (hab : okAB a b) (h : flOk a b band out k0) (hM : 0 < b.length) (hk : k < k0) (hk2 : k < a.length * b.length) : 0 ≤ at_ out k := by
  have h1 := Nat.div_add_mod k b.length
  have h2 := Nat.mod_lt k hM
  have h3 : k / b.length < a.length := (Nat.div_lt_iff_lt_mul hM).2 hk2
  rw [Nat.mul_comm] at h1
  rw [← h1, h.2 _ _ h3 h2 (by omega)]
  exact cv_nn (by decide) band hab _ _ h3 h2
theorem fl_uniq {p q i j m : Nat} (hq : q < m) (hj : j < m) (h : p * m + q = i * m + j) : p = i ∧ q = j := by
  have hp : p = i := by
    rcases Nat.lt_trichotomy p i with e | e | e
    · have := fl_lt (j := j) e hq; omega
    · exact e
    · have := fl_lt (j := q) e hj; omega
  subst hp
  exact ⟨rfl, by omega⟩
theorem fl_step {a b : List Feat} {band v : Int} {out : List Int} {i j : Nat} {k : Nat} (h : flOk a b band out (i * b.length + j)) (hi : i < a.length) (hj : j < b.length) (hk : k = i * b.length + j) (hv : v = cv farS a b band i j) : flOk a b band (out.set k v) (i * b.length + (j + 1)) := by
  subst hk
  refine ⟨by rw [List.length_set]; exact h.1, fun p q hp hq hk => ?_⟩
  by_cases e : p * b.length + q = i * b.length + j
  · obtain ⟨rfl, rfl⟩ := fl_uniq hq hj e
    have : p * b.length + q < a.length * b.length + 0 := fl_lt hi hj
    rw [at_set_same (by rw [h.1]; omega)]; exact hv
  · rw [at_set_oth e]; exact h.2 p q hp hq (by omega)
theorem fl_done {a b : List Feat} {band : Int} {out : List Int} {i n : Nat} (h : flOk a b band out (i * b.length + n)) (hn : n = b.length) : flOk a b band out ((i + 1) * b.length) := by
  subst hn; rw [Nat.succ_mul]; exact h

def nx (a b : List Feat) (band : Int) (i j : Nat) : Nat × Nat :=
  if (0 < i ∧ 0 < j) ∧ cv farS a b band (i - 1) (j - 1) = cv farS a b band i j - costF (at_ a i) (at_ b j) then (i - 1, j - 1)
  else if 0 < i ∧ cv farS a b band (i - 1) j = cv farS a b band i j - costF (at_ a i) (at_ b j) then (i - 1, j) else (i, j - 1)
def inBd (band : Int) (i j : Nat) : Prop := (((i : Int) - (j : Int)).natAbs : Int) ≤ band
theorem cv_fin {a b : List Feat} {band : Int} {i j : Nat} (hab : okAB a b) (hi : i < a.length) (hj : j < b.length) : (inBd band i j ∧ cv farI a b band i j = cv farS a b band i j ∧ 0 ≤ cv farS a b band i j ∧ cv farS a b band i j ≤ 87000) ∨ (¬ inBd band i j ∧ cv farI a b band i j = 1099511627776 ∧ cv farS a b band i j = 1000000000) := by
  have hl := hab.2.2
  by_cases h : inBd band i j
  · have q := cv_in (band := band) hab (f1 := farS) (f2 := farI) (by decide) (by decide) (i + j) i j rfl hi hj h
    exact .inl ⟨h, q.1.symm, q.2.1, by omega⟩
  · unfold inBd at h
    exact .inr ⟨h, cv_out (by omega), cv_out (by omega)⟩

theorem okAB_of {a b : List Feat} (ha : okFeats a 72 = true) (hb : okFeats b 72 = true) : okAB a b := ⟨fun i hi => okFeats_at ha hi, fun j hj => okFeats_at hb hj, by have := okFeats_n ha; omega, by have := okFeats_n hb; omega⟩
theorem inBd_end {band : Int} {n m : Nat} (h : inBd band n m) (hn : 1 ≤ n) (hm : 1 ≤ m) : inBd band (n - 1) (m - 1) := by unfold inBd at *; omega


def elCode (a b : List Feat) (band : Int) : Int := if okFeats a 72 = true ∧ okFeats b 72 = true then (if (inB band 0 72 && decide ((((a.length : Int) - (b.length : Int)).natAbs : Int) ≤ band)) = true then 0 else 2) else 1
def elR (a b : List Feat) (band : Int) : Int × Int := if elCode a b band = 0 then (cv farS a b band (a.length - 1) (b.length - 1), 0) else (0, elCode a b band)
theorem fl_last {a b : List Feat} {band : Int} {out : List Int} (h : flOk a b band out (a.length * b.length)) (ha : 1 ≤ a.length) (hb : 1 ≤ b.length) : at_ out (out.length - 1) = cv farS a b band (a.length - 1) (b.length - 1) ∧ 1 ≤ out.length := by
  have e : a.length * b.length = (a.length - 1) * b.length + b.length := by
    obtain ⟨n, hn⟩ : ∃ n, a.length = n + 1 := ⟨a.length - 1, by omega⟩
    rw [hn, Nat.add_sub_cancel, Nat.succ_mul]
  have q := h.2 (a.length - 1) (b.length - 1) (by omega) (by omega) (by omega)
  have l := h.1
  rw [← q]
  refine ⟨?_, by omega⟩
  congr 1; omega


def inS (s : Store) (fs : List Feat) (j : Nat) : Bool := inB s.Band 0 72 && decide ((((fs.length : Int) - ((at_ s.Templates j).Feats.length : Int)).natAbs : Int) ≤ s.Band)
def mtM (s : Store) (fs : List Feat) (j : Nat) : Match := ⟨(j : Int), cv farS fs (at_ s.Templates j).Feats s.Band (fs.length - 1) ((at_ s.Templates j).Feats.length - 1)⟩
def mtS (s : Store) (fs : List Feat) : Nat → List Match
  | 0 => []
  | k + 1 => if inS s fs k = true then mtS s fs k ++ [mtM s fs k] else mtS s fs k
theorem mt_y {s : Store} {fs : List Feat} {k : Nat} (h : inS s fs k = true) : mtS s fs (k + 1) = mtS s fs k ++ [mtM s fs k] := if_pos h
theorem mt_n {s : Store} {fs : List Feat} {k : Nat} (h : ¬ inS s fs k = true) : mtS s fs (k + 1) = mtS s fs k := if_neg h
theorem mtS_len (s : Store) (fs : List Feat) : ∀ k : Nat, (mtS s fs k).length ≤ k
  | 0 => Nat.le_refl _
  | k + 1 => by
    have := mtS_len s fs k
    unfold mtS; split
    · rw [List.length_append]; simp; omega
    · omega
theorem mtS_mem {s : Store} {fs : List Feat} {x : Match} : ∀ {k : Nat}, x ∈ mtS s fs k → ∃ j, j < k ∧ inS s fs j = true ∧ x = mtM s fs j
  | 0, h => by simp [mtS] at h
  | k + 1, h => by
    unfold mtS at h
    split at h
    · rename_i g
      rcases List.mem_append.1 h with e | e
      · obtain ⟨j, h1, h2, h3⟩ := mtS_mem e; exact ⟨j, by omega, h2, h3⟩
      · simp only [List.mem_singleton] at e; exact ⟨k, by omega, g, e⟩
    · obtain ⟨j, h1, h2, h3⟩ := mtS_mem h; exact ⟨j, by omega, h2, h3⟩
theorem mt_cv {s : Store} {fs : List Feat} {j : Nat} (hf : okFeats fs 72 = true) (ht : okTm (at_ s.Templates j) = true) (h : inS s fs j = true) : (0 ≤ s.Band ∧ s.Band ≤ 72) ∧ elR fs (at_ s.Templates j).Feats s.Band = ((mtM s fs j).Cost, 0) ∧ cv farI fs (at_ s.Templates j).Feats s.Band (fs.length - 1) ((at_ s.Templates j).Feats.length - 1) = (mtM s fs j).Cost ∧ 0 ≤ (mtM s fs j).Cost ∧ (mtM s fs j).Cost ≤ 87000 := by
  have hg : okFeats (at_ s.Templates j).Feats 72 = true := by simp only [okTm, Bool.and_eq_true] at ht; exact ht.2
  have h1 := okFeats_n hf
  have h2 := okFeats_n hg
  have hq := h
  simp only [inS, Bool.and_eq_true, decide_eq_true_eq, inB] at h
  have hb : inBd s.Band fs.length (at_ s.Templates j).Feats.length := by unfold inBd; exact h.2
  have he := inBd_end hb h1.1 h2.1
  refine ⟨h.1, ?_, ?_⟩
  · unfold elR
    rw [if_pos (show elCode fs (at_ s.Templates j).Feats s.Band = 0 by unfold elCode; rw [if_pos ⟨hf, hg⟩]; unfold inS at hq; rw [if_pos hq])]; rfl
  · rcases cv_fin (band := s.Band) (i := fs.length - 1) (j := (at_ s.Templates j).Feats.length - 1) (okAB_of hf hg) (by omega) (by omega) with g | g
    · exact ⟨g.2.1, g.2.2.1, g.2.2.2⟩
    · exact absurd he g.1
def nsL (s : Store) (fs : List Feat) (k : Int) : List Match := (isoL cmpM (mtS s fs s.Templates.length) (mtS s fs s.Templates.length).length).take (min k ((mtS s fs s.Templates.length).length : Int)).toNat

def cmpH (a b : Hyp) : Int := orL [cmpI a.Cost b.Cost, cmpS a.Label b.Label]
theorem cmpH_eq (a b : Hyp) : cmpH a b = if cmpI a.Cost b.Cost = 0 then cmpS a.Label b.Label else cmpI a.Cost b.Cost := by
  unfold cmpH orL orL orL
  by_cases h1 : cmpI a.Cost b.Cost = 0
  · rw [if_pos h1, if_pos h1]; split
    · rename_i h3; exact h3.symm
    · rfl
  · rw [if_neg h1, if_neg h1]
theorem cmpH_w : CmpW cmpH := by
  have h : cmpH = fun x y => if cmpI x.Cost y.Cost = 0 then (fun x y : Hyp => cmpS x.Label y.Label) x y else cmpI x.Cost y.Cost := funext fun a => funext fun b => cmpH_eq a b
  rw [h]
  exact CmpW.lex (f := Hyp.Cost) cmpI_w (cmpS_w.map Hyp.Label)
def hasHL (xs : List Hyp) (l : ByteArray) : Bool := anyN xs.length fun j => decide ((at_ xs j).Label = l)
def pickH (most : Int) (xs : List Hyp) : Nat → List Hyp
  | 0 => []
  | k + 1 => if ((pickH most xs k).length : Int) < most ∧ hasHL (pickH most xs k) (at_ xs k).Label = false then pickH most xs k ++ [at_ xs k] else pickH most xs k
theorem pickH_len (most : Int) (xs : List Hyp) : ∀ k, (pickH most xs k).length ≤ k
  | 0 => Nat.le_refl _
  | k + 1 => by
    have := pickH_len most xs k
    unfold pickH
    split
    · simp; omega
    · omega
theorem pick_y {most : Int} {xs : List Hyp} {k : Int} (h0 : 0 ≤ k) (h1 : ((pickH most xs k.toNat).length : Int) < most) (h2 : hasHL (pickH most xs k.toNat) (at_ xs k.toNat).Label = false) : pickH most xs (k + 1).toNat = pickH most xs k.toNat ++ [at_ xs k.toNat] := by
  rw [show (k + 1).toNat = k.toNat + 1 from by omega]; exact if_pos ⟨h1, h2⟩
theorem pick_n {most : Int} {xs : List Hyp} {k : Int} (h0 : 0 ≤ k) (h : ¬ (((pickH most xs k.toNat).length : Int) < most ∧ hasHL (pickH most xs k.toNat) (at_ xs k.toNat).Label = false)) : pickH most xs (k + 1).toNat = pickH most xs k.toNat := by
  rw [show (k + 1).toNat = k.toNat + 1 from by omega]; exact if_neg h
def hypL (most : Int) (xs : List Hyp) : List Hyp := pickH most (isoL cmpH xs xs.length) xs.length
def okSet (t : Setting) : Bool := inB t.Points 2 24 && (inB t.Most 1 8 && inB t.Pen 0 1000)


def hypO (s : Store) (p : Int) (m : Match) : Hyp := ⟨(at_ s.Templates m.Index.toNat).Label, m.Cost + p⟩
def penI (ik : Ink) (t : Setting) : Int := t.Pen * ((ik.Strokes.length : Int) - 1)
def recL (s : Store) (ik : Ink) (t : Setting) : List Hyp := (mtS s (feR ik t.Points).1 s.Templates.length).map (hypO s (penI ik t))
def recR (s : Store) (ik : Ink) (t : Setting) : List Hyp := hypL t.Most (recL s ik t)
def hkR (s : Store) (ik : Ink) (t : Setting) : List Hyp × Int := if (ik.Strokes.length : Int) = 0 then ([], 6) else (recR s ik t, 0)
theorem okSet_iff {t : Setting} : okSet t = true ↔ (2 ≤ t.Points ∧ t.Points ≤ 24) ∧ (1 ≤ t.Most ∧ t.Most ≤ 8) ∧ (0 ≤ t.Pen ∧ t.Pen ≤ 1000) := by simp [okSet, inB]
theorem penI_bd {ik : Ink} {t : Setting} (ht : 0 ≤ t.Pen ∧ t.Pen ≤ 1000) (h : 1 ≤ ik.Strokes.length ∧ ik.Strokes.length ≤ 16) : 0 ≤ t.Pen * ((ik.Strokes.length : Int) - 1) ∧ t.Pen * ((ik.Strokes.length : Int) - 1) ≤ 15000 := by
  constructor
  · exact Int.mul_nonneg ht.1 (by omega)
  · have h1 : t.Pen * ((ik.Strokes.length : Int) - 1) ≤ 1000 * ((ik.Strokes.length : Int) - 1) := Int.mul_le_mul_of_nonneg_right ht.2 (by omega)
    omega
theorem fe_72 {x : Ink} {n : Int} (ok : okInk' x = true) (hn : 2 ≤ n ∧ n ≤ 24) (h1 : 1 ≤ x.Strokes.length) (h : (x.Strokes.length : Int) * n ≤ 72) : (feR x n).2 = 0 ∧ okFeats (feR x n).1 72 = true := by
  have e : (feR x n).2 = 0 := by rw [feR_yes ok (inB_iff.2 hn) (by omega)]
  have q := fe_valid e
  refine ⟨e, ?_⟩
  have q1 := q.1
  have q2 : ((feR x n).1.length : Int) ≤ 72 := by rw [q.2, Int.mul_comm]; exact h
  simp only [okFeats, Bool.and_eq_true, decide_eq_true_eq] at q1 ⊢
  exact ⟨⟨q1.1.1, q2⟩, q1.2⟩
theorem feA_72 {x : Ink} {n : Int} (ok : okInk' x = true) (hn : 2 ≤ n ∧ n ≤ 24) (h1 : 1 ≤ x.Strokes.length) (h : (x.Strokes.length : Int) * n ≤ 72) : okFeats (feA x n) 72 = true := by
  have q := (fe_72 ok hn h1 h).2
  rwa [feR_yes ok (inB_iff.2 hn) (by omega)] at q
theorem mul36 {a : Nat} {p : Int} (ha : a ≤ 3) (hp : 2 ≤ p ∧ p ≤ 6) : 0 ≤ (a : Int) * p ∧ (a : Int) * p ≤ 18 := by
  have h1 : (a : Int) * p ≤ 3 * p := Int.mul_le_mul_of_nonneg_right (by omega) (by omega)
  have h2 : 0 ≤ (a : Int) * p := Int.mul_nonneg (by omega) (by omega)
  omega


-- spec.l13Ink
theorem l13Ink_ok (s : l00Src) (points : Int) (hs : okSrc s) (ha : s.atx ≤ 3999999999999930000) (hp : 2 ≤ points ∧ points ≤ 6) : ∃ (v : Store) (ik : Ink) (s' : l00Src), (okSrc s') ∧ (s'.code = s.code) ∧ (s.atx + 0 ≤ s'.atx ∧ s'.atx ≤ s.atx + 60000) ∧ (6 ≤ v.Band ∧ v.Band ≤ 15) ∧ (v.Templates.length ≤ 5) ∧ (∀ t ∈ v.Templates, okTm t = true) ∧ (okInk' ik = true) ∧ (ik.Strokes.length ≤ 3) ∧ CallOK Tryz.prog 18 [.ref 7001 0, I points] (lookO [(7001, bxl00Src s)]) true (.tup [agStoreT v, .agg [slStroke true ik.Strokes]]) (lookO [(7001, bxl00Src s')]) := by
  have hh : ∃ r : Store × Ink × l00Src, ((okSrc r.2.2) ∧ (r.2.2.code = s.code) ∧ (s.atx + 0 ≤ r.2.2.atx ∧ r.2.2.atx ≤ s.atx + 60000) ∧ (6 ≤ r.1.Band ∧ r.1.Band ≤ 15) ∧ (r.1.Templates.length ≤ 5) ∧ (∀ t ∈ r.1.Templates, okTm t = true) ∧ (okInk' r.2.1 = true) ∧ (r.2.1.Strokes.length ≤ 3) ∧ (True)) ∧ CallOK Tryz.prog 18 [.ref 7001 0, I points] (lookO [(7001, bxl00Src s)]) true (.tup [agStoreT r.1, .agg [slStroke true r.2.1.Strokes]]) (lookO [(7001, bxl00Src r.2.2)]) := by
    refine fn_okX (Φ := fun r : Store × Ink × l00Src => (okSrc r.2.2) ∧ (r.2.2.code = s.code) ∧ (s.atx + 0 ≤ r.2.2.atx ∧ r.2.2.atx ≤ s.atx + 60000) ∧ (6 ≤ r.1.Band ∧ r.1.Band ≤ 15) ∧ (r.1.Templates.length ≤ 5) ∧ (∀ t ∈ r.1.Templates, okTm t = true) ∧ (okInk' r.2.1 = true) ∧ (r.2.1.Strokes.length ≤ 3) ∧ (True)) [(7001, bxl00Src s)] (fun r => [(7001, bxl00Src r.2.2)]) (fn := Tryz.f18) (nt := 53) Tryz.func18 rfl rfl (args := [.ref 7001 0, I points]) rfl (allcons (.inr trivial) (allcons (.inl ⟨rfl, trivial⟩) allnil)) (res := fun r => .tup [agStoreT r.1, .agg [slStroke true r.2.1.Strokes]]) ?_
    refine xR [(0, .new 4), (1, .new 5)] [0, 1, 4, 5] [4, 5, 7001] [.ref 7001 0, I points, .ref 4 0, .ref 5 0] [some (.box [I 0, nilA]), some (.box [nilA]), some (bxl00Src s)] [] trivial ?_
    refine x_seq ?_
    obtain ⟨v_1, s'_1, hx1_0, hx1_1, hx1_2, hx1_3, hc1⟩ := pick_ok s 10 (by first | assumption | (simp only [okSrc] at *; simp_all; done)) (by omega)
    refine x_r [(1, .lend [(7001, bxl00Src s, bxl00Src s'_1)] [] [(true, .any), (true, .any)] true (I v_1)), (4, .new 6)] [0, 1, 4, 5, 6] [4, 5, 6, 7001] [.ref 7001 0, I points, .ref 4 0, .ref 5 0, .ref 6 0] [some (.box [I 0, nilA]), some (.box [nilA]), some (.box [I (6 + v_1), nilA]), some (bxl00Src s'_1)] [CallOK Tryz.prog 17 [.ref 7001 0, I 10] (lookO [(7001, bxl00Src s)]) true (I v_1) (lookO [(7001, bxl00Src s'_1)]) ∧ (((bxl00Src s : Ob) = bxl00Src s ∨ obLe noOb true (bxl00Src s) (bxl00Src s)) ∧ taggedO false (bxl00Src s)) ∧ True, inR .i64 (6 + v_1)] ⟨⟨hc1, ⟨.inl rfl, (by simp [taggedO, taggedL, tagged, tagU8])⟩, trivial⟩, (inR_i64 (by omega) (by omega)), trivial⟩ ?_
    refine xe_then ?_
    refine x_seq ?_
    obtain ⟨s'_2, ss_2, hx2_0, hx2_1, hx2_2, hx2_3, hx2_4, hx2_5, hc2⟩ := l02Draw_ok s'_1 3 (by first | assumption | (simp only [okSrc] at *; simp_all; done)) (by omega) (by omega)
    have hok1 : okInk' (Ink.mk ss_2) = true := hx2_5
    have hkl1 := hx2_3
    have hkt1 := hx2_4
    refine x_r [(1, .lend [(7001, bxl00Src s'_1, bxl00Src s'_2)] [(8011, tOStroke 8012 ss_2), (8012, tFStroke ss_2)] [(true, .any), (true, .any)] false (.agg [.arr 8011])), (2, .new 7)] [0, 1, 4, 5, 6, 7] [4, 5, 6, 7, 7001, 8011, 8012] [.ref 7001 0, I points, .ref 4 0, .ref 5 0, .ref 6 0, .ref 7 0] [some (.box [I 0, nilA]), some (.box [nilA]), some (.box [I (6 + v_1), nilA]), some (.box [.arr 8011]), some (bxl00Src s'_2), some (tOStroke 8012 ss_2), some (tFStroke ss_2)] [CallOK Tryz.prog 39 [.ref 7001 0, I 3] (lookO [(7001, bxl00Src s'_1)]) false (.agg [.arr 8011]) (lookO [(7001, bxl00Src s'_2), (8011, tOStroke 8012 ss_2), (8012, tFStroke ss_2)]) ∧ (((bxl00Src s'_1 : Ob) = bxl00Src s'_1 ∨ obLe noOb true (bxl00Src s'_1) (bxl00Src s'_1)) ∧ taggedO false (bxl00Src s'_1)) ∧ True] ⟨⟨hc2, ⟨.inl rfl, (by simp [taggedO, taggedL, tagged, tagU8])⟩, trivial⟩, trivial⟩ ?_
    refine xe_then ?_
    refine x_seq ?_
    refine x_seq ?_
    refine x_weak [] (T := [(0, .ref 7001 0), (1, I points), (4, .ref 4 0), (5, .ref 5 0), (6, .ref 6 0), (7, .ref 7 0)]) (O := [(4, .box [I 0, nilA]), (5, .box [nilA]), (6, .box [I (6 + v_1), nilA]), (7, .box [slStroke true ss_2]), (7001, bxl00Src s'_2)]) rfl (⟨.inl rfl, .inl rfl, .inl rfl, .inl rfl, .inl rfl, .inl rfl, trivial⟩) (⟨.inl rfl, .inl rfl, .inl rfl, .inr ⟨⟨(fun _ => rfl), rfl, rfl, oleStroke _ _ rfl⟩, rfl⟩, .inl rfl, trivial⟩) ?_
    obtain ⟨v_3, s'_3, hx3_0, hx3_1, hx3_2, hx3_3, hc3⟩ := pick_ok s'_2 5 (by first | assumption | (simp only [okSrc] at *; simp_all; done)) (by omega)
    refine x_r [(1, .lend [(7001, bxl00Src s'_2, bxl00Src s'_3)] [] [(true, .any), (true, .any)] true (I v_3))] [0, 1, 4, 5, 6, 7, 8] [4, 5, 6, 7, 7001] [.ref 7001 0, I points, .ref 4 0, .ref 5 0, .ref 6 0, .ref 7 0, I (1 + v_3)] [some (.box [I 0, nilA]), some (.box [nilA]), some (.box [I (6 + v_1), nilA]), some (.box [slStroke true ss_2]), some (bxl00Src s'_3)] [CallOK Tryz.prog 17 [.ref 7001 0, I 5] (lookO [(7001, bxl00Src s'_2)]) true (I v_3) (lookO [(7001, bxl00Src s'_3)]) ∧ (((bxl00Src s'_2 : Ob) = bxl00Src s'_2 ∨ obLe noOb true (bxl00Src s'_2) (bxl00Src s'_2)) ∧ taggedO false (bxl00Src s'_2)) ∧ True, inR .i64 (1 + v_3)] ⟨⟨hc3, ⟨.inl rfl, (by simp [taggedO, taggedL, tagged, tagU8])⟩, trivial⟩, (inR_i64 (by omega) (by omega)), trivial⟩ ?_
    refine xe_then ?_
    refine x_block ?_
    refine x_nilC 6 1 761 2 (fun _ => []) rfl (by kernel_rfl) ?_
    refine x_weak [] (T := [(0, .ref 7001 0), (1, I points), (4, .ref 4 0), (5, .ref 5 0), (6, .ref 6 0), (7, .ptr true [slStroke true ss_2]), (8, I (1 + v_3))]) (O := [(4, .box [I 0, nilA]), (5, .box [nilA]), (6, .box [I (6 + v_1), .arr 761]), (761, tATemplate true ([] : List Template)), (7001, bxl00Src s'_3)]) rfl (⟨.inl rfl, .inl rfl, .inl rfl, .inl rfl, .inl rfl, .inr ⟨(fun _ => rfl), rfl, ⟨⟨(fun _ => rfl), rfl, rfl, fun i _ => .inl rfl⟩, rfl⟩⟩, .inl rfl, trivial⟩) (⟨.inl rfl, .inl rfl, .inl rfl, .inr ⟨rfl, (by first | rfl | (simp; done) | (simp; omega) | omega), fun i_ hi_ => absurd hi_ (Nat.not_lt_zero _)⟩, .inl rfl, trivial⟩) ?_
    refine x_loop (X := Int × l00Src × (List Template)) (fun x => mkS [(0, .ref 7001 0), (1, I points), (4, .ref 4 0), (5, .ref 5 0), (6, .ref 6 0), (7, .ptr true [slStroke true ss_2]), (8, I x.1)] [(4, .box [I 0, nilA]), (5, .box [nilA]), (6, .box [I (6 + v_1), .arr 761]), (761, tATemplate true x.2.2), (7001, bxl00Src x.2.1)]) (fun x => (okSrc x.2.1 ∧ x.2.1.code = s.code ∧ s.atx ≤ x.2.1.atx ∧ x.2.1.atx ≤ s.atx + 4000 + 8000 * (5 - x.1)) ∧ (0 ≤ x.1 ∧ x.1 ≤ 5) ∧ ((x.2.2.length : Int) + x.1 ≤ 5) ∧ (∀ t ∈ x.2.2, okTm t = true) ∧ True) (fun x => x.1.toNat) ((1 + v_3), s'_3, ([] : List Template)) rfl (show (okSrc s'_3 ∧ s'_3.code = s.code ∧ s.atx ≤ s'_3.atx ∧ s'_3.atx ≤ s.atx + 4000 + 8000 * (5 - (1 + v_3))) ∧ (0 ≤ (1 + v_3) ∧ (1 + v_3) ≤ 5) ∧ ((([] : List Template).length : Int) + (1 + v_3) ≤ 5) ∧ (∀ t ∈ ([] : List Template), okTm t = true) ∧ True from ⟨(by exact ⟨by assumption, by first | assumption | rfl | (simp only [*]; done), by omega, by omega⟩), (by omega), (by simp; omega), (by simp), trivial⟩) (fun x hI => ?_)
    obtain ⟨k, src, ts⟩ := x
    obtain ⟨hs0, hk0, hl0, hz0, _⟩ : (okSrc src ∧ src.code = s.code ∧ s.atx ≤ src.atx ∧ src.atx ≤ s.atx + 4000 + 8000 * (5 - k)) ∧ (0 ≤ k ∧ k ≤ 5) ∧ ((ts.length : Int) + k ≤ 5) ∧ (∀ t ∈ ts, okTm t = true) ∧ True := hI
    show XW _ _ _ _ (mkS [(0, .ref 7001 0), (1, I points), (4, .ref 4 0), (5, .ref 5 0), (6, .ref 6 0), (7, .ptr true [slStroke true ss_2]), (8, I k)] [(4, .box [I 0, nilA]), (5, .box [nilA]), (6, .box [I (6 + v_1), .arr 761]), (761, tATemplate true ts), (7001, bxl00Src src)]) _ _
    refine x_seq ?_
    refine x_seq ?_
    by_cases h1 : 0 < k
    ·refine x_r [(1, .dec true)] [0, 1, 4, 5, 6, 7, 8, 20] [4, 5, 6, 761, 7001] [.ref 7001 0, I points, .ref 4 0, .ref 5 0, .ref 6 0, .ptr true [slStroke true ss_2], I k, Bv true] [some (.box [I 0, nilA]), some (.box [nilA]), some (.box [I (6 + v_1), .arr 761]), some (tATemplate true ts), some (bxl00Src src)] [0 < k] ⟨h1, trivial⟩ ?_
     refine xe_then ?_
     refine x_true rfl ?_
     refine x_skip ?_
     refine xe_then ?_
     refine x_seq ?_
     refine x_block ?_
     refine x_seq ?_
     obtain ⟨s'_4, ss_4, hx4_0, hx4_1, hx4_2, hx4_3, hx4_4, hx4_5, hc4⟩ := l02Draw_ok src 2 (by first | assumption | (simp only [okSrc] at *; simp_all; done)) (by omega) (by omega)
     have hok2 : okInk' (Ink.mk ss_4) = true := hx4_5
     have hkl2 := hx4_3
     have hkt2 := hx4_4
     refine x_r [(1, .lend [(7001, bxl00Src src, bxl00Src s'_4)] [(8011, tOStroke 8012 ss_4), (8012, tFStroke ss_4)] [(true, .any), (true, .any)] false (.agg [.arr 8011])), (2, .new 9)] [0, 1, 4, 5, 6, 7, 8, 9] [4, 5, 6, 9, 761, 7001, 8011, 8012] [.ref 7001 0, I points, .ref 4 0, .ref 5 0, .ref 6 0, .ptr true [slStroke true ss_2], I k, .ref 9 0] [some (.box [I 0, nilA]), some (.box [nilA]), some (.box [I (6 + v_1), .arr 761]), some (.box [.arr 8011]), some (tATemplate true ts), some (bxl00Src s'_4), some (tOStroke 8012 ss_4), some (tFStroke ss_4)] [CallOK Tryz.prog 39 [.ref 7001 0, I 2] (lookO [(7001, bxl00Src src)]) false (.agg [.arr 8011]) (lookO [(7001, bxl00Src s'_4), (8011, tOStroke 8012 ss_4), (8012, tFStroke ss_4)]) ∧ (((bxl00Src src : Ob) = bxl00Src src ∨ obLe noOb true (bxl00Src src) (bxl00Src src)) ∧ taggedO false (bxl00Src src)) ∧ True] ⟨⟨hc4, ⟨.inl rfl, (by simp [taggedO, taggedL, tagged, tagU8])⟩, trivial⟩, trivial⟩ ?_
     refine xe_then ?_
     refine x_seq ?_
     refine x_seq ?_
     obtain ⟨v_5, s'_5, hx5_0, hx5_1, hx5_2, hc5⟩ := one_ok s'_4 3 (by first | assumption | (simp only [okSrc] at *; simp_all; done)) (by omega)
     rcases Bool.eq_false_or_eq_true v_5 with h2 | h2
     ·subst h2
      refine x_r [(1, .lend [(7001, bxl00Src s'_4, bxl00Src s'_5)] [] [(true, .any), (true, .any)] true (Bv true))] [0, 1, 4, 5, 6, 7, 8, 9, 26] [4, 5, 6, 9, 761, 7001, 8011, 8012] [.ref 7001 0, I points, .ref 4 0, .ref 5 0, .ref 6 0, .ptr true [slStroke true ss_2], I k, .ref 9 0, Bv true] [some (.box [I 0, nilA]), some (.box [nilA]), some (.box [I (6 + v_1), .arr 761]), some (.box [.arr 8011]), some (tATemplate true ts), some (bxl00Src s'_5), some (tOStroke 8012 ss_4), some (tFStroke ss_4)] [CallOK Tryz.prog 40 [.ref 7001 0, I 3] (lookO [(7001, bxl00Src s'_4)]) true (Bv true) (lookO [(7001, bxl00Src s'_5)]) ∧ (((bxl00Src s'_4 : Ob) = bxl00Src s'_4 ∨ obLe noOb true (bxl00Src s'_4) (bxl00Src s'_4)) ∧ taggedO false (bxl00Src s'_4)) ∧ True] ⟨⟨hc5, ⟨.inl rfl, (by simp [taggedO, taggedL, tagged, tagU8])⟩, trivial⟩, trivial⟩ ?_
      refine xe_then ?_
      refine x_true rfl ?_
      obtain ⟨ss_6, hx6_0, hc6⟩ := l02Own_ok (Ink.mk ss_2) (fun s_ hs_ => by have := okS_len (okI_mem hok1 s_ hs_); omega) (by first | omega | (dsimp only; omega))
      have hokO : okInk' (Ink.mk ss_6) = true := by rw [hx6_0]; exact hok1
      have hklO : ss_6.length ≤ 3 := by rw [hx6_0]; show ss_2.length ≤ 3; omega
      refine x_r [(0, .lend [] [(8031, tOStroke 8032 ss_6), (8032, tFStroke ss_6)] [(false, .ptr false [slStroke false ss_2])] false (.agg [.arr 8031]))] [0, 1, 4, 5, 6, 7, 8, 9] [4, 5, 6, 9, 761, 7001, 8031, 8032] [.ref 7001 0, I points, .ref 4 0, .ref 5 0, .ref 6 0, .ptr true [slStroke true ss_2], I k, .ref 9 0] [some (.box [I 0, nilA]), some (.box [nilA]), some (.box [I (6 + v_1), .arr 761]), some (.box [.arr 8031]), some (tATemplate true ts), some (bxl00Src s'_5), some (tOStroke 8032 ss_6), some (tFStroke ss_6)] [CallOK Tryz.prog 41 [.ptr false [slStroke false ss_2]] (lookO []) false (.agg [.arr 8031]) (lookO [(8031, tOStroke 8032 ss_6), (8032, tFStroke ss_6)]) ∧ ((false = true → true = true) ∧ AV.idsL [slStroke false ss_2] = [] ∧ ((false = true → true = true) ∧ 1 = 1 ∧ ss_2.length = ss_2.length ∧ ∀ i_, i_ < ss_2.length → (fStroke true ss_2) i_ = (fStroke false ss_2) i_ ∨ (AV.idsL ((fStroke false ss_2) i_) = [] ∧ leL (fun _ => none) false ((fStroke true ss_2) i_) ((fStroke false ss_2) i_))) ∧ ([] : List AV) = []) ∧ True] ⟨⟨hc6, ⟨(fun h => by cases h), rfl, ⟨⟨(fun h => by cases h), rfl, rfl, fun i _ => .inr ⟨idsStroke _ _, leStroke _ _ _⟩⟩, rfl⟩⟩, trivial⟩, trivial⟩ ?_
      refine xe_then ?_
      refine x_seq ?_
      refine x_seq ?_
      by_cases h3 : (ss_6.length : Int) = 0
      ·refine x_r [(3, .dec true)] [0, 1, 4, 5, 6, 7, 8, 9, 39] [4, 5, 6, 9, 761, 7001, 8031, 8032] [.ref 7001 0, I points, .ref 4 0, .ref 5 0, .ref 6 0, .ptr true [slStroke true ss_2], I k, .ref 9 0, Bv true] [some (.box [I 0, nilA]), some (.box [nilA]), some (.box [I (6 + v_1), .arr 761]), some (.box [.arr 8031]), some (tATemplate true ts), some (bxl00Src s'_5), some (tOStroke 8032 ss_6), some (tFStroke ss_6)] [(ss_6.length : Int) = 0] ⟨h3, trivial⟩ ?_
       refine xe_then ?_
       refine x_true rfl ?_
       refine x_exit ?_
       refine xe_exit_then ?_
       refine xe_exit_same ?_
       refine xe_then ?_
       refine x_r [] [0, 1, 4, 5, 6, 7, 8] [4, 5, 6, 761, 7001] [.ref 7001 0, I points, .ref 4 0, .ref 5 0, .ref 6 0, .ptr true [slStroke true ss_2], I (k - 1)] [some (.box [I 0, nilA]), some (.box [nilA]), some (.box [I (6 + v_1), .arr 761]), some (tATemplate true ts), some (bxl00Src s'_5)] [inR .i64 (k - 1)] ⟨(inR_i64 (by omega) (by omega)), trivial⟩ ?_
       exact xe_again ((k - 1), s'_5, ts) rfl (show (okSrc s'_5 ∧ s'_5.code = s.code ∧ s.atx ≤ s'_5.atx ∧ s'_5.atx ≤ s.atx + 4000 + 8000 * (5 - (k - 1))) ∧ (0 ≤ (k - 1) ∧ (k - 1) ≤ 5) ∧ ((ts.length : Int) + (k - 1) ≤ 5) ∧ (∀ t ∈ ts, okTm t = true) ∧ True from ⟨(by exact ⟨by assumption, by first | assumption | rfl | (simp only [*]; done), by omega, by omega⟩), (by omega), (by first | omega | (simp; omega)), (by first | exact hz0 | (intro t ht; rcases List.mem_append.1 ht with ht | ht; (exact hz0 t ht); (simp only [List.mem_singleton] at ht; subst ht; exact okTm_mk hlab (by assumption)))), trivial⟩) (by first | (show ((k - 1).toNat : Nat) < k.toNat; omega) | (dsimp only; omega))
      have hss : 1 ≤ ss_6.length := by omega
      have hpm := mul36 (a := ss_6.length) (p := points) (by omega) hp
      have hfa := feA_72 (x := Ink.mk ss_6) (n := points) (by first | exact hokO | assumption) (by omega) hss (by show (ss_6.length : Int) * points ≤ 72; omega)
      by_cases h4 : 72 < ((ss_6.length : Int) * points)
      ·refine x_r [(3, .dec false), (10, .dec true)] [0, 1, 4, 5, 6, 7, 8, 9, 39] [4, 5, 6, 9, 761, 7001, 8031, 8032] [.ref 7001 0, I points, .ref 4 0, .ref 5 0, .ref 6 0, .ptr true [slStroke true ss_2], I k, .ref 9 0, Bv true] [some (.box [I 0, nilA]), some (.box [nilA]), some (.box [I (6 + v_1), .arr 761]), some (.box [.arr 8031]), some (tATemplate true ts), some (bxl00Src s'_5), some (tOStroke 8032 ss_6), some (tFStroke ss_6)] [¬ ((ss_6.length : Int) = 0), inR .i64 ((ss_6.length : Int) * points), 72 < ((ss_6.length : Int) * points)] ⟨h3, (inR_i64 (by omega) (by omega)), h4, trivial⟩ ?_
       refine xe_then ?_
       refine x_true rfl ?_
       refine x_exit ?_
       refine xe_exit_then ?_
       refine xe_exit_same ?_
       refine xe_then ?_
       refine x_r [] [0, 1, 4, 5, 6, 7, 8] [4, 5, 6, 761, 7001] [.ref 7001 0, I points, .ref 4 0, .ref 5 0, .ref 6 0, .ptr true [slStroke true ss_2], I (k - 1)] [some (.box [I 0, nilA]), some (.box [nilA]), some (.box [I (6 + v_1), .arr 761]), some (tATemplate true ts), some (bxl00Src s'_5)] [inR .i64 (k - 1)] ⟨(inR_i64 (by omega) (by omega)), trivial⟩ ?_
       exact xe_again ((k - 1), s'_5, ts) rfl (show (okSrc s'_5 ∧ s'_5.code = s.code ∧ s.atx ≤ s'_5.atx ∧ s'_5.atx ≤ s.atx + 4000 + 8000 * (5 - (k - 1))) ∧ (0 ≤ (k - 1) ∧ (k - 1) ≤ 5) ∧ ((ts.length : Int) + (k - 1) ≤ 5) ∧ (∀ t ∈ ts, okTm t = true) ∧ True from ⟨(by exact ⟨by assumption, by first | assumption | rfl | (simp only [*]; done), by omega, by omega⟩), (by omega), (by first | omega | (simp; omega)), (by first | exact hz0 | (intro t ht; rcases List.mem_append.1 ht with ht | ht; (exact hz0 t ht); (simp only [List.mem_singleton] at ht; subst ht; exact okTm_mk hlab (by assumption)))), trivial⟩) (by first | (show ((k - 1).toNat : Nat) < k.toNat; omega) | (dsimp only; omega))
      refine x_r [(3, .dec false), (10, .dec false)] [0, 1, 4, 5, 6, 7, 8, 9, 39] [4, 5, 6, 9, 761, 7001, 8031, 8032] [.ref 7001 0, I points, .ref 4 0, .ref 5 0, .ref 6 0, .ptr true [slStroke true ss_2], I k, .ref 9 0, Bv false] [some (.box [I 0, nilA]), some (.box [nilA]), some (.box [I (6 + v_1), .arr 761]), some (.box [.arr 8031]), some (tATemplate true ts), some (bxl00Src s'_5), some (tOStroke 8032 ss_6), some (tFStroke ss_6)] [¬ ((ss_6.length : Int) = 0), inR .i64 ((ss_6.length : Int) * points), ¬ (72 < ((ss_6.length : Int) * points))] ⟨h3, (inR_i64 (by omega) (by omega)), h4, trivial⟩ ?_
      refine xe_then ?_
      refine x_false rfl ?_
      refine x_skip ?_
      refine xe_then ?_
      obtain ⟨v_7, s'_7, hx7_0, hx7_1, hx7_2, hx7_3, hx7_4, hc7⟩ := text_ok s'_5 ([(⟨#[97]⟩ : ByteArray), (⟨#[98]⟩ : ByteArray), (⟨#[105]⟩ : ByteArray), (⟨#[116]⟩ : ByteArray), (⟨#[110]⟩ : ByteArray)]) (by first | assumption | (simp only [okSrc] at *; simp_all; done)) (by omega) (by decide)
      have hlab : okLabel v_7 = true := by have q := hx7_4; simp only [List.mem_cons, List.not_mem_nil, or_false] at q; rcases q with q | q | q | q | q <;> rw [q] <;> decide
      refine x_r [(3, .new 43), (4, .lend [(7001, bxl00Src s'_5, bxl00Src s'_7)] [] [(true, .any), (false, slS false ([(⟨#[97]⟩ : ByteArray), (⟨#[98]⟩ : ByteArray), (⟨#[105]⟩ : ByteArray), (⟨#[116]⟩ : ByteArray), (⟨#[110]⟩ : ByteArray)]))] true (Sv v_7)), (6, .call [(false, .ptr false [slStroke false ss_6]), (true, .any)] true (slFeat true (feA (Ink.mk ss_6) points))), (8, .new 48), (9, .new 49)] [0, 1, 4, 5, 6, 7, 8] [4, 5, 6, 49, 7001] [.ref 7001 0, I points, .ref 4 0, .ref 5 0, .ref 6 0, .ptr true [slStroke true ss_2], I k] [some (.box [I 0, nilA]), some (.box [nilA]), some (.box [I (6 + v_1), .arr 49]), some (.arr 2 (ts.length + 1) (catF ts.length (fTemplate true ts) (litF [Sv v_7, slFeat true (feA (Ink.mk ss_6) points)] 2))), some (bxl00Src s'_7)] [CallOK Tryz.prog 42 [.ref 7001 0, slS false ([(⟨#[97]⟩ : ByteArray), (⟨#[98]⟩ : ByteArray), (⟨#[105]⟩ : ByteArray), (⟨#[116]⟩ : ByteArray), (⟨#[110]⟩ : ByteArray)])] (lookO [(7001, bxl00Src s'_5)]) true (Sv v_7) (lookO [(7001, bxl00Src s'_7)]) ∧ ((false = true → true = true) ∧ 1 = 1 ∧ 5 = (([(⟨#[97]⟩ : ByteArray), (⟨#[98]⟩ : ByteArray), (⟨#[105]⟩ : ByteArray), (⟨#[116]⟩ : ByteArray), (⟨#[110]⟩ : ByteArray)]).length) ∧ ∀ i_, i_ < (([(⟨#[97]⟩ : ByteArray), (⟨#[98]⟩ : ByteArray), (⟨#[105]⟩ : ByteArray), (⟨#[116]⟩ : ByteArray), (⟨#[110]⟩ : ByteArray)]).length) → (litF [Sv (⟨#[97]⟩ : ByteArray), Sv (⟨#[98]⟩ : ByteArray), Sv (⟨#[105]⟩ : ByteArray), Sv (⟨#[116]⟩ : ByteArray), Sv (⟨#[110]⟩ : ByteArray)] 1) i_ = (fS ([(⟨#[97]⟩ : ByteArray), (⟨#[98]⟩ : ByteArray), (⟨#[105]⟩ : ByteArray), (⟨#[116]⟩ : ByteArray), (⟨#[110]⟩ : ByteArray)])) i_ ∨ (AV.idsL ((fS ([(⟨#[97]⟩ : ByteArray), (⟨#[98]⟩ : ByteArray), (⟨#[105]⟩ : ByteArray), (⟨#[116]⟩ : ByteArray), (⟨#[110]⟩ : ByteArray)])) i_) = [] ∧ leL (fun _ => none) false ((litF [Sv (⟨#[97]⟩ : ByteArray), Sv (⟨#[98]⟩ : ByteArray), Sv (⟨#[105]⟩ : ByteArray), Sv (⟨#[116]⟩ : ByteArray), Sv (⟨#[110]⟩ : ByteArray)] 1) i_) ((fS ([(⟨#[97]⟩ : ByteArray), (⟨#[98]⟩ : ByteArray), (⟨#[105]⟩ : ByteArray), (⟨#[116]⟩ : ByteArray), (⟨#[110]⟩ : ByteArray)])) i_))) ∧ (((bxl00Src s'_5 : Ob) = bxl00Src s'_5 ∨ obLe noOb true (bxl00Src s'_5) (bxl00Src s'_5)) ∧ taggedO false (bxl00Src s'_5)) ∧ True, Con Tryz.prog 25 [.ptr false [slStroke false ss_6], I points] true (slFeat true (feA (Ink.mk ss_6) points)) ∧ ((false = true → true = true) ∧ AV.idsL [slStroke false ss_6] = [] ∧ ((false = true → true = true) ∧ 1 = 1 ∧ ss_6.length = ss_6.length ∧ ∀ i_, i_ < ss_6.length → AV.idsL ((fStroke false ss_6) i_) = [] ∧ leL (lookO [(8032, tFStroke ss_6)]) true ((oStroke 8032 ss_6) i_) ((fStroke false ss_6) i_)) ∧ ([] : List AV) = []) ∧ True, (ts.length + 1) * 40 ≤ 140737488355328] ⟨⟨hc7, ⟨(fun h => by cases h), rfl, (by first | rfl | (simp; done) | (simp; omega) | omega), fun i_ hi_ => .inl (match i_, hi_ with | 0, _ => rfl | 1, _ => rfl | 2, _ => rfl | 3, _ => rfl | 4, _ => rfl | (i + 5), h => absurd h (by simp))⟩, ⟨.inl rfl, (by simp [taggedO, taggedL, tagged, tagU8])⟩, trivial⟩, ⟨(l08Of_ok (Ink.mk ss_6) points (by first | assumption | (simp only [*]; done)) (by omega) (by omega)), ⟨(fun h => by cases h), rfl, ⟨⟨(fun h => by cases h), rfl, rfl, oleStroke _ _ rfl⟩, rfl⟩⟩, trivial⟩, (by omega), trivial⟩ ?_
      refine xe_block 1 ?_
      refine xe_then ?_
      refine x_weak [] (T := [(0, .ref 7001 0), (1, I points), (4, .ref 4 0), (5, .ref 5 0), (6, .ref 6 0), (7, .ptr true [slStroke true ss_2]), (8, I k)]) (O := [(4, .box [I 0, nilA]), (5, .box [nilA]), (6, .box [I (6 + v_1), .arr 49]), (49, tATemplate true (ts ++ [(Template.mk v_7 (feA (Ink.mk ss_6) points))])), (7001, bxl00Src s'_7)]) rfl (⟨.inl rfl, .inl rfl, .inl rfl, .inl rfl, .inl rfl, .inl rfl, .inl rfl, trivial⟩) (⟨.inl rfl, .inl rfl, .inl rfl, .inr ⟨rfl, (by first | rfl | (simp; done) | (simp; omega) | omega), fun i_ hi_ => .inl (cat_snoc (enc := (cTemplate true)) (xs := ts) rfl i_ hi_)⟩, .inl rfl, trivial⟩) ?_
      refine x_r [] [0, 1, 4, 5, 6, 7, 8] [4, 5, 6, 49, 7001] [.ref 7001 0, I points, .ref 4 0, .ref 5 0, .ref 6 0, .ptr true [slStroke true ss_2], I (k - 1)] [some (.box [I 0, nilA]), some (.box [nilA]), some (.box [I (6 + v_1), .arr 49]), some (tATemplate true (ts ++ [(Template.mk v_7 (feA (Ink.mk ss_6) points))])), some (bxl00Src s'_7)] [inR .i64 (k - 1)] ⟨(inR_i64 (by omega) (by omega)), trivial⟩ ?_
      refine xe_weak [(761, 49)] (T := [(0, .ref 7001 0), (1, I points), (4, .ref 4 0), (5, .ref 5 0), (6, .ref 6 0), (7, .ptr true [slStroke true ss_2]), (8, I (k - 1))]) (O := [(4, .box [I 0, nilA]), (5, .box [nilA]), (6, .box [I (6 + v_1), .arr 761]), (761, tATemplate true (ts ++ [(Template.mk v_7 (feA (Ink.mk ss_6) points))])), (7001, bxl00Src s'_7)]) rfl (⟨.inl rfl, .inl rfl, .inl rfl, .inl rfl, .inl rfl, .inl rfl, .inl rfl, trivial⟩) (⟨.inl rfl, .inl rfl, .inl rfl, .inl rfl, .inl rfl, trivial⟩) (xe_again ((k - 1), s'_7, (ts ++ [(Template.mk v_7 (feA (Ink.mk ss_6) points))])) rfl (show (okSrc s'_7 ∧ s'_7.code = s.code ∧ s.atx ≤ s'_7.atx ∧ s'_7.atx ≤ s.atx + 4000 + 8000 * (5 - (k - 1))) ∧ (0 ≤ (k - 1) ∧ (k - 1) ≤ 5) ∧ (((ts ++ [(Template.mk v_7 (feA (Ink.mk ss_6) points))]).length : Int) + (k - 1) ≤ 5) ∧ (∀ t ∈ (ts ++ [(Template.mk v_7 (feA (Ink.mk ss_6) points))]), okTm t = true) ∧ True from ⟨(by exact ⟨by assumption, by first | assumption | rfl | (simp only [*]; done), by omega, by omega⟩), (by omega), (by first | omega | (simp; omega)), (by first | exact hz0 | (intro t ht; rcases List.mem_append.1 ht with ht | ht; (exact hz0 t ht); (simp only [List.mem_singleton] at ht; subst ht; exact okTm_mk hlab (by assumption)))), trivial⟩) (by first | (show ((k - 1).toNat : Nat) < k.toNat; omega) | (dsimp only; omega)))
     subst h2
     refine x_r [(1, .lend [(7001, bxl00Src s'_4, bxl00Src s'_5)] [] [(true, .any), (true, .any)] true (Bv false))] [0, 1, 4, 5, 6, 7, 8, 9, 26] [4, 5, 6, 9, 761, 7001, 8011, 8012] [.ref 7001 0, I points, .ref 4 0, .ref 5 0, .ref 6 0, .ptr true [slStroke true ss_2], I k, .ref 9 0, Bv false] [some (.box [I 0, nilA]), some (.box [nilA]), some (.box [I (6 + v_1), .arr 761]), some (.box [.arr 8011]), some (tATemplate true ts), some (bxl00Src s'_5), some (tOStroke 8012 ss_4), some (tFStroke ss_4)] [CallOK Tryz.prog 40 [.ref 7001 0, I 3] (lookO [(7001, bxl00Src s'_4)]) true (Bv false) (lookO [(7001, bxl00Src s'_5)]) ∧ (((bxl00Src s'_4 : Ob) = bxl00Src s'_4 ∨ obLe noOb true (bxl00Src s'_4) (bxl00Src s'_4)) ∧ taggedO false (bxl00Src s'_4)) ∧ True] ⟨⟨hc5, ⟨.inl rfl, (by simp [taggedO, taggedL, tagged, tagU8])⟩, trivial⟩, trivial⟩ ?_
     refine xe_then ?_
     refine x_false rfl ?_
     refine x_skip ?_
     refine xe_then ?_
     refine x_seq ?_
     refine x_seq ?_
     by_cases h5 : (ss_4.length : Int) = 0
     ·refine x_r [(3, .dec true)] [0, 1, 4, 5, 6, 7, 8, 9, 39] [4, 5, 6, 9, 761, 7001, 8011, 8012] [.ref 7001 0, I points, .ref 4 0, .ref 5 0, .ref 6 0, .ptr true [slStroke true ss_2], I k, .ref 9 0, Bv true] [some (.box [I 0, nilA]), some (.box [nilA]), some (.box [I (6 + v_1), .arr 761]), some (.box [.arr 8011]), some (tATemplate true ts), some (bxl00Src s'_5), some (tOStroke 8012 ss_4), some (tFStroke ss_4)] [(ss_4.length : Int) = 0] ⟨h5, trivial⟩ ?_
      refine xe_then ?_
      refine x_true rfl ?_
      refine x_exit ?_
      refine xe_exit_then ?_
      refine xe_exit_same ?_
      refine xe_then ?_
      refine x_r [] [0, 1, 4, 5, 6, 7, 8] [4, 5, 6, 761, 7001] [.ref 7001 0, I points, .ref 4 0, .ref 5 0, .ref 6 0, .ptr true [slStroke true ss_2], I (k - 1)] [some (.box [I 0, nilA]), some (.box [nilA]), some (.box [I (6 + v_1), .arr 761]), some (tATemplate true ts), some (bxl00Src s'_5)] [inR .i64 (k - 1)] ⟨(inR_i64 (by omega) (by omega)), trivial⟩ ?_
      exact xe_again ((k - 1), s'_5, ts) rfl (show (okSrc s'_5 ∧ s'_5.code = s.code ∧ s.atx ≤ s'_5.atx ∧ s'_5.atx ≤ s.atx + 4000 + 8000 * (5 - (k - 1))) ∧ (0 ≤ (k - 1) ∧ (k - 1) ≤ 5) ∧ ((ts.length : Int) + (k - 1) ≤ 5) ∧ (∀ t ∈ ts, okTm t = true) ∧ True from ⟨(by exact ⟨by assumption, by first | assumption | rfl | (simp only [*]; done), by omega, by omega⟩), (by omega), (by first | omega | (simp; omega)), (by first | exact hz0 | (intro t ht; rcases List.mem_append.1 ht with ht | ht; (exact hz0 t ht); (simp only [List.mem_singleton] at ht; subst ht; exact okTm_mk hlab (by assumption)))), trivial⟩) (by first | (show ((k - 1).toNat : Nat) < k.toNat; omega) | (dsimp only; omega))
     have hss : 1 ≤ ss_4.length := by omega
     have hpm := mul36 (a := ss_4.length) (p := points) (by omega) hp
     have hfa := feA_72 (x := Ink.mk ss_4) (n := points) (by first | exact hokO | assumption) (by omega) hss (by show (ss_4.length : Int) * points ≤ 72; omega)
     by_cases h6 : 72 < ((ss_4.length : Int) * points)
     ·refine x_r [(3, .dec false), (10, .dec true)] [0, 1, 4, 5, 6, 7, 8, 9, 39] [4, 5, 6, 9, 761, 7001, 8011, 8012] [.ref 7001 0, I points, .ref 4 0, .ref 5 0, .ref 6 0, .ptr true [slStroke true ss_2], I k, .ref 9 0, Bv true] [some (.box [I 0, nilA]), some (.box [nilA]), some (.box [I (6 + v_1), .arr 761]), some (.box [.arr 8011]), some (tATemplate true ts), some (bxl00Src s'_5), some (tOStroke 8012 ss_4), some (tFStroke ss_4)] [¬ ((ss_4.length : Int) = 0), inR .i64 ((ss_4.length : Int) * points), 72 < ((ss_4.length : Int) * points)] ⟨h5, (inR_i64 (by omega) (by omega)), h6, trivial⟩ ?_
      refine xe_then ?_
      refine x_true rfl ?_
      refine x_exit ?_
      refine xe_exit_then ?_
      refine xe_exit_same ?_
      refine xe_then ?_
      refine x_r [] [0, 1, 4, 5, 6, 7, 8] [4, 5, 6, 761, 7001] [.ref 7001 0, I points, .ref 4 0, .ref 5 0, .ref 6 0, .ptr true [slStroke true ss_2], I (k - 1)] [some (.box [I 0, nilA]), some (.box [nilA]), some (.box [I (6 + v_1), .arr 761]), some (tATemplate true ts), some (bxl00Src s'_5)] [inR .i64 (k - 1)] ⟨(inR_i64 (by omega) (by omega)), trivial⟩ ?_
      exact xe_again ((k - 1), s'_5, ts) rfl (show (okSrc s'_5 ∧ s'_5.code = s.code ∧ s.atx ≤ s'_5.atx ∧ s'_5.atx ≤ s.atx + 4000 + 8000 * (5 - (k - 1))) ∧ (0 ≤ (k - 1) ∧ (k - 1) ≤ 5) ∧ ((ts.length : Int) + (k - 1) ≤ 5) ∧ (∀ t ∈ ts, okTm t = true) ∧ True from ⟨(by exact ⟨by assumption, by first | assumption | rfl | (simp only [*]; done), by omega, by omega⟩), (by omega), (by first | omega | (simp; omega)), (by first | exact hz0 | (intro t ht; rcases List.mem_append.1 ht with ht | ht; (exact hz0 t ht); (simp only [List.mem_singleton] at ht; subst ht; exact okTm_mk hlab (by assumption)))), trivial⟩) (by first | (show ((k - 1).toNat : Nat) < k.toNat; omega) | (dsimp only; omega))
     refine x_r [(3, .dec false), (10, .dec false)] [0, 1, 4, 5, 6, 7, 8, 9, 39] [4, 5, 6, 9, 761, 7001, 8011, 8012] [.ref 7001 0, I points, .ref 4 0, .ref 5 0, .ref 6 0, .ptr true [slStroke true ss_2], I k, .ref 9 0, Bv false] [some (.box [I 0, nilA]), some (.box [nilA]), some (.box [I (6 + v_1), .arr 761]), some (.box [.arr 8011]), some (tATemplate true ts), some (bxl00Src s'_5), some (tOStroke 8012 ss_4), some (tFStroke ss_4)] [¬ ((ss_4.length : Int) = 0), inR .i64 ((ss_4.length : Int) * points), ¬ (72 < ((ss_4.length : Int) * points))] ⟨h5, (inR_i64 (by omega) (by omega)), h6, trivial⟩ ?_
     refine xe_then ?_
     refine x_false rfl ?_
     refine x_skip ?_
     refine xe_then ?_
     obtain ⟨v_8, s'_8, hx8_0, hx8_1, hx8_2, hx8_3, hx8_4, hc8⟩ := text_ok s'_5 ([(⟨#[97]⟩ : ByteArray), (⟨#[98]⟩ : ByteArray), (⟨#[105]⟩ : ByteArray), (⟨#[116]⟩ : ByteArray), (⟨#[110]⟩ : ByteArray)]) (by first | assumption | (simp only [okSrc] at *; simp_all; done)) (by omega) (by decide)
     have hlab : okLabel v_8 = true := by have q := hx8_4; simp only [List.mem_cons, List.not_mem_nil, or_false] at q; rcases q with q | q | q | q | q <;> rw [q] <;> decide
     refine x_r [(3, .new 43), (4, .lend [(7001, bxl00Src s'_5, bxl00Src s'_8)] [] [(true, .any), (false, slS false ([(⟨#[97]⟩ : ByteArray), (⟨#[98]⟩ : ByteArray), (⟨#[105]⟩ : ByteArray), (⟨#[116]⟩ : ByteArray), (⟨#[110]⟩ : ByteArray)]))] true (Sv v_8)), (6, .call [(false, .ptr false [slStroke false ss_4]), (true, .any)] true (slFeat true (feA (Ink.mk ss_4) points))), (8, .new 48), (9, .new 49)] [0, 1, 4, 5, 6, 7, 8] [4, 5, 6, 49, 7001] [.ref 7001 0, I points, .ref 4 0, .ref 5 0, .ref 6 0, .ptr true [slStroke true ss_2], I k] [some (.box [I 0, nilA]), some (.box [nilA]), some (.box [I (6 + v_1), .arr 49]), some (.arr 2 (ts.length + 1) (catF ts.length (fTemplate true ts) (litF [Sv v_8, slFeat true (feA (Ink.mk ss_4) points)] 2))), some (bxl00Src s'_8)] [CallOK Tryz.prog 42 [.ref 7001 0, slS false ([(⟨#[97]⟩ : ByteArray), (⟨#[98]⟩ : ByteArray), (⟨#[105]⟩ : ByteArray), (⟨#[116]⟩ : ByteArray), (⟨#[110]⟩ : ByteArray)])] (lookO [(7001, bxl00Src s'_5)]) true (Sv v_8) (lookO [(7001, bxl00Src s'_8)]) ∧ ((false = true → true = true) ∧ 1 = 1 ∧ 5 = (([(⟨#[97]⟩ : ByteArray), (⟨#[98]⟩ : ByteArray), (⟨#[105]⟩ : ByteArray), (⟨#[116]⟩ : ByteArray), (⟨#[110]⟩ : ByteArray)]).length) ∧ ∀ i_, i_ < (([(⟨#[97]⟩ : ByteArray), (⟨#[98]⟩ : ByteArray), (⟨#[105]⟩ : ByteArray), (⟨#[116]⟩ : ByteArray), (⟨#[110]⟩ : ByteArray)]).length) → (litF [Sv (⟨#[97]⟩ : ByteArray), Sv (⟨#[98]⟩ : ByteArray), Sv (⟨#[105]⟩ : ByteArray), Sv (⟨#[116]⟩ : ByteArray), Sv (⟨#[110]⟩ : ByteArray)] 1) i_ = (fS ([(⟨#[97]⟩ : ByteArray), (⟨#[98]⟩ : ByteArray), (⟨#[105]⟩ : ByteArray), (⟨#[116]⟩ : ByteArray), (⟨#[110]⟩ : ByteArray)])) i_ ∨ (AV.idsL ((fS ([(⟨#[97]⟩ : ByteArray), (⟨#[98]⟩ : ByteArray), (⟨#[105]⟩ : ByteArray), (⟨#[116]⟩ : ByteArray), (⟨#[110]⟩ : ByteArray)])) i_) = [] ∧ leL (fun _ => none) false ((litF [Sv (⟨#[97]⟩ : ByteArray), Sv (⟨#[98]⟩ : ByteArray), Sv (⟨#[105]⟩ : ByteArray), Sv (⟨#[116]⟩ : ByteArray), Sv (⟨#[110]⟩ : ByteArray)] 1) i_) ((fS ([(⟨#[97]⟩ : ByteArray), (⟨#[98]⟩ : ByteArray), (⟨#[105]⟩ : ByteArray), (⟨#[116]⟩ : ByteArray), (⟨#[110]⟩ : ByteArray)])) i_))) ∧ (((bxl00Src s'_5 : Ob) = bxl00Src s'_5 ∨ obLe noOb true (bxl00Src s'_5) (bxl00Src s'_5)) ∧ taggedO false (bxl00Src s'_5)) ∧ True, Con Tryz.prog 25 [.ptr false [slStroke false ss_4], I points] true (slFeat true (feA (Ink.mk ss_4) points)) ∧ ((false = true → true = true) ∧ AV.idsL [slStroke false ss_4] = [] ∧ ((false = true → true = true) ∧ 1 = 1 ∧ ss_4.length = ss_4.length ∧ ∀ i_, i_ < ss_4.length → AV.idsL ((fStroke false ss_4) i_) = [] ∧ leL (lookO [(8012, tFStroke ss_4)]) true ((oStroke 8012 ss_4) i_) ((fStroke false ss_4) i_)) ∧ ([] : List AV) = []) ∧ True, (ts.length + 1) * 40 ≤ 140737488355328] ⟨⟨hc8, ⟨(fun h => by cases h), rfl, (by first | rfl | (simp; done) | (simp; omega) | omega), fun i_ hi_ => .inl (match i_, hi_ with | 0, _ => rfl | 1, _ => rfl | 2, _ => rfl | 3, _ => rfl | 4, _ => rfl | (i + 5), h => absurd h (by simp))⟩, ⟨.inl rfl, (by simp [taggedO, taggedL, tagged, tagU8])⟩, trivial⟩, ⟨(l08Of_ok (Ink.mk ss_4) points (by first | assumption | (simp only [*]; done)) (by omega) (by omega)), ⟨(fun h => by cases h), rfl, ⟨⟨(fun h => by cases h), rfl, rfl, oleStroke _ _ rfl⟩, rfl⟩⟩, trivial⟩, (by omega), trivial⟩ ?_
     refine xe_block 1 ?_
     refine xe_then ?_
     refine x_weak [] (T := [(0, .ref 7001 0), (1, I points), (4, .ref 4 0), (5, .ref 5 0), (6, .ref 6 0), (7, .ptr true [slStroke true ss_2]), (8, I k)]) (O := [(4, .box [I 0, nilA]), (5, .box [nilA]), (6, .box [I (6 + v_1), .arr 49]), (49, tATemplate true (ts ++ [(Template.mk v_8 (feA (Ink.mk ss_4) points))])), (7001, bxl00Src s'_8)]) rfl (⟨.inl rfl, .inl rfl, .inl rfl, .inl rfl, .inl rfl, .inl rfl, .inl rfl, trivial⟩) (⟨.inl rfl, .inl rfl, .inl rfl, .inr ⟨rfl, (by first | rfl | (simp; done) | (simp; omega) | omega), fun i_ hi_ => .inl (cat_snoc (enc := (cTemplate true)) (xs := ts) rfl i_ hi_)⟩, .inl rfl, trivial⟩) ?_
     refine x_r [] [0, 1, 4, 5, 6, 7, 8] [4, 5, 6, 49, 7001] [.ref 7001 0, I points, .ref 4 0, .ref 5 0, .ref 6 0, .ptr true [slStroke true ss_2], I (k - 1)] [some (.box [I 0, nilA]), some (.box [nilA]), some (.box [I (6 + v_1), .arr 49]), some (tATemplate true (ts ++ [(Template.mk v_8 (feA (Ink.mk ss_4) points))])), some (bxl00Src s'_8)] [inR .i64 (k - 1)] ⟨(inR_i64 (by omega) (by omega)), trivial⟩ ?_
     refine xe_weak [(761, 49)] (T := [(0, .ref 7001 0), (1, I points), (4, .ref 4 0), (5, .ref 5 0), (6, .ref 6 0), (7, .ptr true [slStroke true ss_2]), (8, I (k - 1))]) (O := [(4, .box [I 0, nilA]), (5, .box [nilA]), (6, .box [I (6 + v_1), .arr 761]), (761, tATemplate true (ts ++ [(Template.mk v_8 (feA (Ink.mk ss_4) points))])), (7001, bxl00Src s'_8)]) rfl (⟨.inl rfl, .inl rfl, .inl rfl, .inl rfl, .inl rfl, .inl rfl, .inl rfl, trivial⟩) (⟨.inl rfl, .inl rfl, .inl rfl, .inl rfl, .inl rfl, trivial⟩) (xe_again ((k - 1), s'_8, (ts ++ [(Template.mk v_8 (feA (Ink.mk ss_4) points))])) rfl (show (okSrc s'_8 ∧ s'_8.code = s.code ∧ s.atx ≤ s'_8.atx ∧ s'_8.atx ≤ s.atx + 4000 + 8000 * (5 - (k - 1))) ∧ (0 ≤ (k - 1) ∧ (k - 1) ≤ 5) ∧ (((ts ++ [(Template.mk v_8 (feA (Ink.mk ss_4) points))]).length : Int) + (k - 1) ≤ 5) ∧ (∀ t ∈ (ts ++ [(Template.mk v_8 (feA (Ink.mk ss_4) points))]), okTm t = true) ∧ True from ⟨(by exact ⟨by assumption, by first | assumption | rfl | (simp only [*]; done), by omega, by omega⟩), (by omega), (by first | omega | (simp; omega)), (by first | exact hz0 | (intro t ht; rcases List.mem_append.1 ht with ht | ht; (exact hz0 t ht); (simp only [List.mem_singleton] at ht; subst ht; exact okTm_mk hlab (by assumption)))), trivial⟩) (by first | (show ((k - 1).toNat : Nat) < k.toNat; omega) | (dsimp only; omega)))
    refine x_r [(1, .dec false)] [0, 1, 4, 5, 6, 7, 8, 20] [4, 5, 6, 761, 7001] [.ref 7001 0, I points, .ref 4 0, .ref 5 0, .ref 6 0, .ptr true [slStroke true ss_2], I k, Bv false] [some (.box [I 0, nilA]), some (.box [nilA]), some (.box [I (6 + v_1), .arr 761]), some (tATemplate true ts), some (bxl00Src src)] [¬ (0 < k)] ⟨h1, trivial⟩ ?_
    refine xe_then ?_
    refine x_false rfl ?_
    refine x_exit ?_
    refine xe_exit_then ?_
    refine xe_loop_exit ?_
    refine xe_exit_same ?_
    refine xe_then ?_
    refine xR [] [4, 5] [4, 5, 761, 7001] [.ref 4 0, .ref 5 0] [some (.box [I (6 + v_1), .arr 761]), some (.box [slStroke true ss_2]), some (tATemplate true ts), some (bxl00Src src)] [] trivial ?_
    refine x_ret ?_
    refine xe_end ((Store.mk (6 + v_1) ts), (Ink.mk ss_2), src) (show (okSrc src) ∧ (src.code = s.code) ∧ (s.atx + 0 ≤ src.atx ∧ src.atx ≤ s.atx + 60000) ∧ (6 ≤ (Store.mk (6 + v_1) ts).Band ∧ (Store.mk (6 + v_1) ts).Band ≤ 15) ∧ ((Store.mk (6 + v_1) ts).Templates.length ≤ 5) ∧ (∀ t ∈ (Store.mk (6 + v_1) ts).Templates, okTm t = true) ∧ (okInk' (Ink.mk ss_2) = true) ∧ ((Ink.mk ss_2).Strokes.length ≤ 3) ∧ (True) from ⟨(by first | omega | (dsimp only; omega) | assumption | exact hs0.1 | exact hs0.2.1), (by first | omega | (dsimp only; omega) | assumption | exact hs0.1 | exact hs0.2.1), (by first | omega | (dsimp only; omega) | assumption | exact hs0.1 | exact hs0.2.1), (by first | omega | (dsimp only; omega) | assumption | exact hs0.1 | exact hs0.2.1), (by first | omega | (dsimp only; omega) | assumption | exact hs0.1 | exact hs0.2.1), (by first | omega | (dsimp only; omega) | assumption | exact hs0.1 | exact hs0.2.1), (by first | omega | (dsimp only; omega) | assumption | exact hs0.1 | exact hs0.2.1), (by first | omega | (dsimp only; omega) | assumption | exact hs0.1 | exact hs0.2.1), trivial⟩) (⟨.inl rfl, trivial⟩) (.tup [.agg [I (6 + v_1), .arr 761], .agg [slStroke true ss_2]]) (by kernel_rfl) (.inr ⟨⟨rfl, ⟨⟨(fun _ => rfl), rfl, rfl, fun i _ => .inl rfl⟩, rfl⟩⟩, ⟨⟨⟨(fun _ => rfl), rfl, rfl, fun i _ => .inl rfl⟩, rfl⟩, rfl⟩⟩) (fun _ => rfl) (fun _ => (by simp [tagged, taggedL, tagStroke, tagTemplate]))
  obtain ⟨⟨v, ik, s'⟩, ⟨hh0, hh1, hh2, hh3, hh4, hh5, hh6, hh7, _⟩, hc⟩ := hh
  exact ⟨v, ik, s', hh0, hh1, hh2, hh3, hh4, hh5, hh6, hh7, hc⟩



-- spec.A2Known
theorem A2Known_ok (code : List Int) (hc : (∀ j, j < code.length → 0 ≤ at_ code j ∧ at_ code j ≤ 255) ∧ code.length ≤ 4611686018427387904) : ∃ (v : Store) (ik : Ink) (t : Setting), (6 ≤ v.Band ∧ v.Band ≤ 15) ∧ (v.Templates.length ≤ 5) ∧ (∀ x_ ∈ v.Templates, okTm x_ = true) ∧ (okInk' ik = true) ∧ (ik.Strokes.length ≤ 3) ∧ ((2 ≤ t.Points ∧ t.Points ≤ 6) ∧ (1 ≤ t.Most ∧ t.Most ≤ 4) ∧ (0 ≤ t.Pen ∧ t.Pen ≤ 59)) ∧ Con Tryz.prog 6 [slU8 false code] true (.tup [agStoreT v, .agg [slStroke true ik.Strokes], agSetting t]) := by
  have hh : ∃ r : Store × Ink × Setting, ((6 ≤ r.1.Band ∧ r.1.Band ≤ 15) ∧ (r.1.Templates.length ≤ 5) ∧ (∀ x_ ∈ r.1.Templates, okTm x_ = true) ∧ (okInk' r.2.1 = true) ∧ (r.2.1.Strokes.length ≤ 3) ∧ ((2 ≤ r.2.2.Points ∧ r.2.2.Points ≤ 6) ∧ (1 ≤ r.2.2.Most ∧ r.2.2.Most ≤ 4) ∧ (0 ≤ r.2.2.Pen ∧ r.2.2.Pen ≤ 59)) ∧ (True)) ∧ CallOK Tryz.prog 6 [slU8 false code] (lookO []) true (.tup [agStoreT r.1, .agg [slStroke true r.2.1.Strokes], agSetting r.2.2]) (lookO []) := by
    refine fn_okX (Φ := fun r : Store × Ink × Setting => (6 ≤ r.1.Band ∧ r.1.Band ≤ 15) ∧ (r.1.Templates.length ≤ 5) ∧ (∀ x_ ∈ r.1.Templates, okTm x_ = true) ∧ (okInk' r.2.1 = true) ∧ (r.2.1.Strokes.length ≤ 3) ∧ ((2 ≤ r.2.2.Points ∧ r.2.2.Points ≤ 6) ∧ (1 ≤ r.2.2.Most ∧ r.2.2.Most ≤ 4) ∧ (0 ≤ r.2.2.Pen ∧ r.2.2.Pen ≤ 59)) ∧ (True)) [] (fun r => []) (fn := Tryz.f6) (nt := 30) Tryz.func6 rfl rfl (args := [slU8 false code]) rfl (allcons (.inl ⟨rfl, tagU8 false _⟩) allnil) (res := fun r => .tup [agStoreT r.1, .agg [slStroke true r.2.1.Strokes], agSetting r.2.2]) ?_
    refine xR [(0, .new 2), (1, .new 3), (2, .new 4)] [0, 2, 3, 4] [2, 3, 4] [slU8 false code, .ref 2 0, .ref 3 0, .ref 4 0] [some (.box [I 0, nilA]), some (.box [nilA]), some (.box [I 0, I 0, I 0])] [] trivial ?_
    refine x_seq ?_
    obtain ⟨s'_1, hx1_0, hc1⟩ := l00From_ok code
    have hsrc : okSrc s'_1 := ⟨by rw [hx1_0.1]; exact hc.1, by rw [hx1_0.2]; decide, by rw [hx1_0.1]; exact hc.2⟩
    have hat0 := hx1_0.2
    refine x_r [(1, .lend [] [(7001, bxl00Src s'_1)] [(true, .any)] false (.ref 7001 0))] [2, 3, 4, 5] [2, 3, 4, 7001] [.ref 2 0, .ref 3 0, .ref 4 0, .ref 7001 0] [some (.box [I 0, nilA]), some (.box [nilA]), some (.box [I 0, I 0, I 0]), some (bxl00Src s'_1)] [CallOK Tryz.prog 16 [slU8 false code] (lookO []) false (.ref 7001 0) (lookO [(7001, bxl00Src s'_1)]) ∧ True] ⟨⟨hc1, trivial⟩, trivial⟩ ?_
    refine xe_then ?_
    refine x_seq ?_
    obtain ⟨v_2, s'_2, hx2_0, hx2_1, hx2_2, hx2_3, hc2⟩ := pick_ok s'_1 5 (by first | assumption | (simp only [okSrc] at *; simp_all; done)) (by omega)
    obtain ⟨v_3, s'_3, hx3_0, hx3_1, hx3_2, hx3_3, hc3⟩ := pick_ok s'_2 4 (by first | assumption | (simp only [okSrc] at *; simp_all; done)) (by omega)
    obtain ⟨v_4, s'_4, hx4_0, hx4_1, hx4_2, hx4_3, hc4⟩ := pick_ok s'_3 60 (by first | assumption | (simp only [okSrc] at *; simp_all; done)) (by omega)
    refine x_r [(1, .lend [(7001, bxl00Src s'_1, bxl00Src s'_2)] [] [(true, .any), (true, .any)] true (I v_2)), (4, .lend [(7001, bxl00Src s'_2, bxl00Src s'_3)] [] [(true, .any), (true, .any)] true (I v_3)), (7, .lend [(7001, bxl00Src s'_3, bxl00Src s'_4)] [] [(true, .any), (true, .any)] true (I v_4)), (9, .new 6)] [2, 3, 4, 5, 6] [2, 3, 4, 6, 7001] [.ref 2 0, .ref 3 0, .ref 4 0, .ref 7001 0, .ref 6 0] [some (.box [I 0, nilA]), some (.box [nilA]), some (.box [I 0, I 0, I 0]), some (.box [I (2 + v_2), I (1 + v_3), I v_4]), some (bxl00Src s'_4)] [CallOK Tryz.prog 17 [.ref 7001 0, I 5] (lookO [(7001, bxl00Src s'_1)]) true (I v_2) (lookO [(7001, bxl00Src s'_2)]) ∧ (((bxl00Src s'_1 : Ob) = bxl00Src s'_1 ∨ obLe noOb true (bxl00Src s'_1) (bxl00Src s'_1)) ∧ taggedO false (bxl00Src s'_1)) ∧ True, inR .i64 (2 + v_2), CallOK Tryz.prog 17 [.ref 7001 0, I 4] (lookO [(7001, bxl00Src s'_2)]) true (I v_3) (lookO [(7001, bxl00Src s'_3)]) ∧ (((bxl00Src s'_2 : Ob) = bxl00Src s'_2 ∨ obLe noOb true (bxl00Src s'_2) (bxl00Src s'_2)) ∧ taggedO false (bxl00Src s'_2)) ∧ True, inR .i64 (1 + v_3), CallOK Tryz.prog 17 [.ref 7001 0, I 60] (lookO [(7001, bxl00Src s'_3)]) true (I v_4) (lookO [(7001, bxl00Src s'_4)]) ∧ (((bxl00Src s'_3 : Ob) = bxl00Src s'_3 ∨ obLe noOb true (bxl00Src s'_3) (bxl00Src s'_3)) ∧ taggedO false (bxl00Src s'_3)) ∧ True] ⟨⟨hc2, ⟨.inl rfl, (by simp [taggedO, taggedL, tagged, tagU8])⟩, trivial⟩, (inR_i64 (by omega) (by omega)), ⟨hc3, ⟨.inl rfl, (by simp [taggedO, taggedL, tagged, tagU8])⟩, trivial⟩, (inR_i64 (by omega) (by omega)), ⟨hc4, ⟨.inl rfl, (by simp [taggedO, taggedL, tagged, tagU8])⟩, trivial⟩, trivial⟩ ?_
    refine xe_then ?_
    refine x_seq ?_
    obtain ⟨v_5, ik_5, s'_5, hx5_0, hx5_1, hx5_2, hx5_3, hx5_4, hx5_5, hx5_6, hx5_7, hc5⟩ := l13Ink_ok s'_4 (2 + v_2) (by first | assumption | (simp only [okSrc] at *; simp_all; done)) (by omega) (by omega)
    refine x_r [(3, .lend [(7001, bxl00Src s'_4, bxl00Src s'_5)] [] [(true, .any), (true, .any)] true (.tup [agStoreT v_5, .agg [slStroke true ik_5.Strokes]])), (7, .new 7), (8, .new 8)] [2, 3, 4, 6, 7, 8] [2, 3, 4, 6, 7, 8] [.ref 2 0, .ref 3 0, .ref 4 0, .ref 6 0, .ref 7 0, .ref 8 0] [some (.box [I 0, nilA]), some (.box [nilA]), some (.box [I 0, I 0, I 0]), some (.box [I (2 + v_2), I (1 + v_3), I v_4]), some (bxStoreT v_5), some (.box [slStroke true ik_5.Strokes])] [CallOK Tryz.prog 18 [.ref 7001 0, I (2 + v_2)] (lookO [(7001, bxl00Src s'_4)]) true (.tup [agStoreT v_5, .agg [slStroke true ik_5.Strokes]]) (lookO [(7001, bxl00Src s'_5)]) ∧ (((bxl00Src s'_4 : Ob) = bxl00Src s'_4 ∨ obLe noOb true (bxl00Src s'_4) (bxl00Src s'_4)) ∧ taggedO false (bxl00Src s'_4)) ∧ True] ⟨⟨hc5, ⟨.inl rfl, (by simp [taggedO, taggedL, tagged, tagU8])⟩, trivial⟩, trivial⟩ ?_
    refine xe_then ?_
    refine xR [] [2, 3, 4] [2, 3, 4] [.ref 2 0, .ref 3 0, .ref 4 0] [some (bxStoreT v_5), some (.box [slStroke true ik_5.Strokes]), some (.box [I (2 + v_2), I (1 + v_3), I v_4])] [] trivial ?_
    refine x_ret ?_
    refine xe_end (v_5, ik_5, (Setting.mk (2 + v_2) (1 + v_3) v_4)) (show (6 ≤ v_5.Band ∧ v_5.Band ≤ 15) ∧ (v_5.Templates.length ≤ 5) ∧ (∀ x_ ∈ v_5.Templates, okTm x_ = true) ∧ (okInk' ik_5 = true) ∧ (ik_5.Strokes.length ≤ 3) ∧ ((2 ≤ (Setting.mk (2 + v_2) (1 + v_3) v_4).Points ∧ (Setting.mk (2 + v_2) (1 + v_3) v_4).Points ≤ 6) ∧ (1 ≤ (Setting.mk (2 + v_2) (1 + v_3) v_4).Most ∧ (Setting.mk (2 + v_2) (1 + v_3) v_4).Most ≤ 4) ∧ (0 ≤ (Setting.mk (2 + v_2) (1 + v_3) v_4).Pen ∧ (Setting.mk (2 + v_2) (1 + v_3) v_4).Pen ≤ 59)) ∧ (True) from ⟨(by first | assumption | omega | (dsimp only; omega)), (by first | assumption | omega | (dsimp only; omega)), (by first | assumption | omega | (dsimp only; omega)), (by first | assumption | omega | (dsimp only; omega)), (by first | assumption | omega | (dsimp only; omega)), (by first | assumption | omega | (dsimp only; omega)), trivial⟩) (trivial) (.tup [agStoreT v_5, .agg [slStroke true ik_5.Strokes], .agg [I (2 + v_2), I (1 + v_3), I v_4]]) (by kernel_rfl) (.inl rfl) (fun _ => rfl) (fun _ => (by simp [tagged, taggedL, tagStroke, tagTemplate]))
  obtain ⟨⟨v, ik, t⟩, ⟨hh0, hh1, hh2, hh3, hh4, hh5, _⟩, hc⟩ := hh
  exact ⟨v, ik, t, hh0, hh1, hh2, hh3, hh4, hh5, hc⟩



-- impl.within
theorem within_ok (n : Int) (low : Int) (high : Int) : Con Tryz.prog 43 [I n, I low, I high] true (Bv (inB n low high)) := by
  refine fn_ok (fn := Tryz.f43) (nt := 15) Tryz.func43 rfl rfl rfl rfl (by simp [taggedL, tagged]) fun B hB => ?_
  refine aR [] [0, 1, 2] [] [I n, I low, I high] [] [] hB trivial ?_
  refine aw_seq ?_
  by_cases h1 : low ≤ n
  ·refine aw_r [(2, .dec true)] [6] [] [Bv (decide (n ≤ high))] [] [low ≤ n] hB ⟨h1, trivial⟩ ?_
   refine ae_then ?_
   refine aw_ret ?_
   refine ae_ret hB (Bv (decide (n ≤ high))) (by kernel_rfl) (.inl (by first | rfl | (refine congrArg Bv ?_; simp [inB, *]; done) | (refine congrArg Bv ?_; simp [inB, *]; omega) | (refine congrArg Bv ?_; simp_all [inB]; done) | (refine congrArg Bv ?_; simp_all [inB]; omega))) rfl (fun _ => trivial)
  refine aw_r [(2, .dec false)] [6] [] [Bv false] [] [¬ (low ≤ n)] hB ⟨h1, trivial⟩ ?_
  refine ae_then ?_
  refine aw_ret ?_
  refine ae_ret hB (Bv false) (by kernel_rfl) (.inl (by first | rfl | (refine congrArg Bv ?_; simp [inB, *]; done) | (refine congrArg Bv ?_; simp [inB, *]; omega) | (refine congrArg Bv ?_; simp_all [inB]; done) | (refine congrArg Bv ?_; simp_all [inB]; omega))) rfl (fun _ => trivial)



-- impl.isLetter
theorem isLetter_ok (c : Int) : Con Tryz.prog 121 [.val (.int .u8 c)] true (Bv (inB c 97 122)) := by
  refine fn_ok (fn := Tryz.f121) (nt := 9) Tryz.func121 rfl rfl rfl rfl (by simp [taggedL, tagged]) fun B hB => ?_
  refine aR [] [0] [] [.val (.int .u8 c)] [] [] hB trivial ?_
  refine aw_seq ?_
  by_cases h1 : 97 ≤ c
  ·refine aw_r [(1, .dec true)] [2] [] [Bv (decide (c ≤ 122))] [] [97 ≤ c] hB ⟨h1, trivial⟩ ?_
   refine ae_then ?_
   refine aw_ret ?_
   refine ae_ret hB (Bv (decide (c ≤ 122))) (by kernel_rfl) (.inl (by first | rfl | (refine congrArg Bv ?_; simp [inB, *]; done) | (refine congrArg Bv ?_; simp [inB, *]; omega) | (refine congrArg Bv ?_; simp_all [inB]; done) | (refine congrArg Bv ?_; simp_all [inB]; omega))) rfl (fun _ => trivial)
  refine aw_r [(1, .dec false)] [2] [] [Bv false] [] [¬ (97 ≤ c)] hB ⟨h1, trivial⟩ ?_
  refine ae_then ?_
  refine aw_ret ?_
  refine ae_ret hB (Bv false) (by kernel_rfl) (.inl (by first | rfl | (refine congrArg Bv ?_; simp [inB, *]; done) | (refine congrArg Bv ?_; simp [inB, *]; omega) | (refine congrArg Bv ?_; simp_all [inB]; done) | (refine congrArg Bv ?_; simp_all [inB]; omega))) rfl (fun _ => trivial)



def hasB (s : ByteArray) (n : Int) : Bool := s.data.toList.any fun x => decide ((x.toNat : Int) = n)
theorem one_byte {t : ByteArray} (h : t.size = 1) : ∃ c, t = ⟨#[c]⟩ := by
  obtain ⟨⟨l⟩⟩ := t
  cases l with
  | nil => cases h
  | cons c l =>
    cases l with
    | nil => exact ⟨c, rfl⟩
    | cons d l => simp [ByteArray.size] at h
theorem has_index (l : List UInt8) (c : UInt8) : decide (0 ≤ Lib.indexByte l c) = l.any fun x => decide ((x.toNat : Int) = bAt ⟨#[c]⟩ 0) := by
  rw [← Lib.contains_iff_indexByte, Bool.eq_iff_iff]
  simp [bAt, List.contains_iff_mem]
  constructor
  · intro h; exact ⟨c, h, rfl⟩
  · rintro ⟨x, hx, e⟩
    have : x = c := UInt8.toNat_inj.1 (by omega)
    exact this ▸ hx


-- strings.Contains
theorem contains_ok (s t : ByteArray) (h : t.size = 1) : Con Tryz.prog 122 [Sv s, Sv t] true (Bv (hasB s (bAt t 0))) := by
  obtain ⟨c, rfl⟩ := one_byte h
  refine con_of_calls (vals := [.string s, .string ⟨#[c]⟩]) fun w _ => ?_
  refine (Tryz.strings_Contains_one s c w).mono ?_
  rintro e w' ⟨rfl, rfl⟩
  refine ⟨?_, Below.refl _ _⟩
  simp only [has_index, hasB]



-- impl.IsLabel
theorem implIsLabel_ok (s : ByteArray) (ok : s.size ≤ 9223372036854775807) : Con Tryz.prog 80 [Sv s] true (Bv (okLabel s)) := by
  refine fn_ok (fn := Tryz.f80) (nt := 15) Tryz.func80 rfl rfl rfl rfl (by simp [taggedL, tagged]) fun B hB => ?_
  refine aR [] [0] [] [Sv s] [] [] hB trivial ?_
  refine aw_seq ?_
  by_cases h1 : (s.size : Int) = 1
  ·rcases Bool.eq_false_or_eq_true (inB (bAt s 0) 97 122) with h2 | h2
   ·refine aw_r [(2, .dec true), (6, .call [(true, .any)] true (Bv true))] [2] [] [Bv true] [] [(s.size : Int) = 1, (0 : Int) ≤ 0 ∧ 0 < (s.size : Int), Con Tryz.prog 121 [.val (.int .u8 (bAt s 0))] true (Bv true) ∧ True] hB ⟨h1, ⟨(by omega), (by omega)⟩, ⟨(con_bool h2 (isLetter_ok (bAt s 0))), trivial⟩, trivial⟩ ?_
    refine ae_then ?_
    refine aw_ret ?_
    refine ae_ret hB (Bv true) (by kernel_rfl) (.inl (by first | (refine congrArg Bv ?_; simp_all [okLabel, labB, inB]; done) | (refine congrArg Bv ?_; have hbd := bAt_bd s 0; rw [Bool.eq_iff_iff]; simp_all [okLabel, hasB, labB, inB]; omega))) rfl (fun _ => trivial)
   refine aw_r [(2, .dec true), (6, .call [(true, .any)] true (Bv false)), (9, .call [(true, .any), (true, .any)] true (Bv (hasB (⟨#[48, 49, 50, 51, 52, 53, 54, 55, 56, 57, 43, 45, 42, 47, 61, 40, 41, 46, 44]⟩ : ByteArray) (bAt s 0))))] [2] [] [Bv (hasB (⟨#[48, 49, 50, 51, 52, 53, 54, 55, 56, 57, 43, 45, 42, 47, 61, 40, 41, 46, 44]⟩ : ByteArray) (bAt s 0))] [] [(s.size : Int) = 1, (0 : Int) ≤ 0 ∧ 0 < (s.size : Int), Con Tryz.prog 121 [.val (.int .u8 (bAt s 0))] true (Bv false) ∧ True, Con Tryz.prog 122 [Sv (⟨#[48, 49, 50, 51, 52, 53, 54, 55, 56, 57, 43, 45, 42, 47, 61, 40, 41, 46, 44]⟩ : ByteArray), Sv s] true (Bv (hasB (⟨#[48, 49, 50, 51, 52, 53, 54, 55, 56, 57, 43, 45, 42, 47, 61, 40, 41, 46, 44]⟩ : ByteArray) (bAt s 0))) ∧ True] hB ⟨h1, ⟨(by omega), (by omega)⟩, ⟨(con_bool h2 (isLetter_ok (bAt s 0))), trivial⟩, ⟨(contains_ok (⟨#[48, 49, 50, 51, 52, 53, 54, 55, 56, 57, 43, 45, 42, 47, 61, 40, 41, 46, 44]⟩ : ByteArray) s (by omega)), trivial⟩, trivial⟩ ?_
   refine ae_then ?_
   refine aw_ret ?_
   refine ae_ret hB (Bv (hasB (⟨#[48, 49, 50, 51, 52, 53, 54, 55, 56, 57, 43, 45, 42, 47, 61, 40, 41, 46, 44]⟩ : ByteArray) (bAt s 0))) (by kernel_rfl) (.inl (by first | (refine congrArg Bv ?_; simp_all [okLabel, labB, inB]; done) | (refine congrArg Bv ?_; have hbd := bAt_bd s 0; rw [Bool.eq_iff_iff]; simp_all [okLabel, hasB, labB, inB]; omega))) rfl (fun _ => trivial)
  refine aw_r [(2, .dec false)] [2] [] [Bv false] [] [¬ ((s.size : Int) = 1)] hB ⟨h1, trivial⟩ ?_
  refine ae_then ?_
  refine aw_ret ?_
  refine ae_ret hB (Bv false) (by kernel_rfl) (.inl (by first | (refine congrArg Bv ?_; simp_all [okLabel, labB, inB]; done) | (refine congrArg Bv ?_; have hbd := bAt_bd s 0; rw [Bool.eq_iff_iff]; simp_all [okLabel, hasB, labB, inB]; omega))) rfl (fun _ => trivial)



-- impl.ValidFeat
theorem ValidFeat_ok (f : Feat) : Con Tryz.prog 161 [agFeat f] true (Bv (okF f)) := by
  refine fn_ok (fn := Tryz.f161) (nt := 16) Tryz.func161 rfl rfl rfl rfl (by simp [taggedL, tagged]) fun B hB => ?_
  refine aR [(0, .new 1)] [1] [1] [.ref 1 0] [some (bxFeat f)] [] hB trivial ?_
  refine aw_seq ?_
  rcases Bool.eq_false_or_eq_true (inB f.X 0 255) with h1 | h1
  ·rcases Bool.eq_false_or_eq_true (inB f.Y 0 255) with h2 | h2
   ·refine aw_r [(2, .call [(true, .any), (true, .any), (true, .any)] true (Bv true)), (6, .call [(true, .any), (true, .any), (true, .any)] true (Bv true)), (11, .call [(true, .any), (true, .any), (true, .any)] true (Bv (inB f.D 0 7)))] [2] [] [Bv (inB f.D 0 7)] [] [Con Tryz.prog 43 [I f.X, I 0, I 255] true (Bv true) ∧ True, Con Tryz.prog 43 [I f.Y, I 0, I 255] true (Bv true) ∧ True, Con Tryz.prog 43 [I f.D, I 0, I 7] true (Bv (inB f.D 0 7)) ∧ True] hB ⟨⟨(con_bool h1 (within_ok f.X 0 255)), trivial⟩, ⟨(con_bool h2 (within_ok f.Y 0 255)), trivial⟩, ⟨(within_ok f.D 0 7), trivial⟩, trivial⟩ ?_
    refine ae_then ?_
    refine aw_ret ?_
    refine ae_ret hB (Bv (inB f.D 0 7)) (by kernel_rfl) (.inl (by first | rfl | (refine congrArg Bv ?_; simp [okF, *]; done) | (refine congrArg Bv ?_; simp [okF, *]; omega) | (refine congrArg Bv ?_; simp_all [okF]; done) | (refine congrArg Bv ?_; simp_all [okF]; omega))) rfl (fun _ => trivial)
   refine aw_r [(2, .call [(true, .any), (true, .any), (true, .any)] true (Bv true)), (6, .call [(true, .any), (true, .any), (true, .any)] true (Bv false))] [2] [] [Bv false] [] [Con Tryz.prog 43 [I f.X, I 0, I 255] true (Bv true) ∧ True, Con Tryz.prog 43 [I f.Y, I 0, I 255] true (Bv false) ∧ True] hB ⟨⟨(con_bool h1 (within_ok f.X 0 255)), trivial⟩, ⟨(con_bool h2 (within_ok f.Y 0 255)), trivial⟩, trivial⟩ ?_
   refine ae_then ?_
   refine aw_ret ?_
   refine ae_ret hB (Bv false) (by kernel_rfl) (.inl (by first | rfl | (refine congrArg Bv ?_; simp [okF, *]; done) | (refine congrArg Bv ?_; simp [okF, *]; omega) | (refine congrArg Bv ?_; simp_all [okF]; done) | (refine congrArg Bv ?_; simp_all [okF]; omega))) rfl (fun _ => trivial)
  refine aw_r [(2, .call [(true, .any), (true, .any), (true, .any)] true (Bv false))] [2] [] [Bv false] [] [Con Tryz.prog 43 [I f.X, I 0, I 255] true (Bv false) ∧ True] hB ⟨⟨(con_bool h1 (within_ok f.X 0 255)), trivial⟩, trivial⟩ ?_
  refine ae_then ?_
  refine aw_ret ?_
  refine ae_ret hB (Bv false) (by kernel_rfl) (.inl (by first | rfl | (refine congrArg Bv ?_; simp [okF, *]; done) | (refine congrArg Bv ?_; simp [okF, *]; omega) | (refine congrArg Bv ?_; simp_all [okF]; done) | (refine congrArg Bv ?_; simp_all [okF]; omega))) rfl (fun _ => trivial)



-- impl.areFeats$1
theorem areFeats1_ok (f : Feat) : Con Tryz.prog 160 [agFeat f] true (Bv (!(okF f))) := by
  refine fn_ok (fn := Tryz.f160) (nt := 6) Tryz.func160 rfl rfl rfl rfl (by simp [taggedL, tagged]) fun B hB => ?_
  refine aR [(0, .new 1)] [1] [1] [.ref 1 0] [some (bxFeat f)] [] hB trivial ?_
  refine aR [(1, .call [(true, .any)] true (Bv (okF f)))] [2] [] [Bv (!(okF f))] [] [Con Tryz.prog 161 [agFeat f] true (Bv (okF f)) ∧ True] hB ⟨⟨(ValidFeat_ok f), trivial⟩, trivial⟩ ?_
  refine aw_ret ?_
  refine ae_ret hB (Bv (!(okF f))) (by kernel_rfl) (.inl rfl) rfl (fun _ => trivial)



-- impl.areFeats
theorem containsFeat_ok_idx (s : List Feat) : Con Tryz.prog 184 [slFeat false s, .fn 160 []] true (I (firstN s.length (fun j => (!(okF (at_ s j)))))) := by
  refine fn_ok (fn := Tryz.f184) (nt := 19) Tryz.func184 rfl rfl rfl rfl (by simp [taggedL, tagged, tagFeat]) fun B hB => ?_
  refine aw_lens (x := slFeat false s) 0 rfl (fun len_s => ?_)
  simp [LenOK, LenL, cFeat, fFeat, slFeat] at len_s
  refine aR [] [0, 1] [] [slFeat false s, .fn 160 []] [] [] hB trivial ?_
  refine aw_seq ?_
  refine aR [] [0, 1, 7, 8] [] [slFeat false s, .fn 160 [], I (s.length : Int), I 0] [] [] hB trivial ?_
  refine aw_block ?_
  refine aw_loop (fun gn gσ => ∃ (t8 : Int), gn = ((s.length : Int) - t8).toNat ∧ (0 ≤ t8 ∧ t8 ≤ (s.length : Int)) ∧ (∀ j : Nat, (j : Int) < t8 → (!(okF (at_ s j))) = false) ∧ gσ = mkS [(0, slFeat false s), (1, .fn 160 []), (7, I (s.length : Int)), (8, I t8)] []) (((s.length : Int) - 0).toNat) ⟨0, rfl, (by omega), (by intro j hj; omega), rfl⟩ (fun gn gσ hI => ?_)
  obtain ⟨t8, rfl, hi0, hall0, rfl⟩ := hI
  refine aw_seq ?_
  by_cases h1 : t8 < (s.length : Int)
  ·have hi : t8.toNat < s.length := by omega
   refine aw_r [(0, .dec true)] [0, 1, 7, 8, 9] [] [slFeat false s, .fn 160 [], I (s.length : Int), I t8, Bv true] [] [t8 < (s.length : Int)] hB ⟨h1, trivial⟩ ?_
   refine ae_then ?_
   refine aw_seq ?_
   refine aw_true rfl ?_
   refine aw_skip ?_
   refine ae_then ?_
   refine aw_seq ?_
   refine aw_block ?_
   refine aR [] [0, 1, 5, 7, 8] [] [slFeat false s, .fn 160 [], I t8, I (s.length : Int), I t8] [] [] hB trivial ?_
   refine aw_seq ?_
   rcases Bool.eq_false_or_eq_true (!(okF (at_ s t8.toNat))) with h2 | h2
   ·have hfin : firstN s.length (fun j => (!(okF (at_ s j)))) = t8.toNat := firstN_hit hi h2 (fun j hj => hall0 j (by omega))
    refine aw_r [(5, .call [(true, .any)] true (Bv true))] [0, 1, 5, 7, 8, 16] [] [slFeat false s, .fn 160 [], I t8, I (s.length : Int), I t8, Bv true] [] [(0 : Int) ≤ t8 ∧ t8 < (s.length : Int), Con Tryz.prog 160 [agFeat (at_ s t8.toNat)] true (Bv true) ∧ True] hB ⟨⟨(by omega), (by omega)⟩, ⟨(con_bool h2 (areFeats1_ok (at_ s t8.toNat))), trivial⟩, trivial⟩ ?_
    refine ae_then ?_
    refine aw_true rfl ?_
    refine aR [] [4] [] [I t8] [] [] hB trivial ?_
    refine aw_ret ?_
    refine ae_ret_block (ae_ret_then (ae_ret_then (ae_ret_block (ae_ret_then ?_))))
    refine ae_ret hB (I t8) (by kernel_rfl) (.inl (by refine congrArg I ?_; first | (rw [hfin]; done) | (rw [hfin]; omega))) rfl (fun _ => trivial)
   refine aw_r [(5, .call [(true, .any)] true (Bv false))] [0, 1, 5, 7, 8, 16] [] [slFeat false s, .fn 160 [], I t8, I (s.length : Int), I t8, Bv false] [] [(0 : Int) ≤ t8 ∧ t8 < (s.length : Int), Con Tryz.prog 160 [agFeat (at_ s t8.toNat)] true (Bv false) ∧ True] hB ⟨⟨(by omega), (by omega)⟩, ⟨(con_bool h2 (areFeats1_ok (at_ s t8.toNat))), trivial⟩, trivial⟩ ?_
   refine ae_then ?_
   refine aw_false rfl ?_
   refine aw_skip ?_
   refine ae_block 1 ?_
   refine ae_then ?_
   refine aw_r [] [0, 1, 7, 8] [] [slFeat false s, .fn 160 [], I (s.length : Int), I (t8 + 1)] [] [inR .i64 (t8 + 1)] hB ⟨(inR_i64 (by omega) (by omega)), trivial⟩ ?_
   exact ae_again _ (by omega) ⟨(t8 + 1), rfl, (by omega), (by intro j hj; by_cases ej : j = t8.toNat; (subst ej; first | assumption | rfl); exact hall0 j (by omega)), rfl⟩
  have hfin : firstN s.length (fun j => (!(okF (at_ s j)))) = -1 := firstN_none (fun j hj => hall0 j (by omega))
  refine aw_r [(0, .dec false)] [0, 1, 7, 8, 9] [] [slFeat false s, .fn 160 [], I (s.length : Int), I t8, Bv false] [] [¬ (t8 < (s.length : Int))] hB ⟨h1, trivial⟩ ?_
  refine ae_then ?_
  refine aw_seq ?_
  refine aw_false rfl ?_
  refine aw_exit ?_
  refine ae_exit_then ?_
  refine ae_exit_then ?_
  refine ae_exit_same ?_
  refine ae_then ?_
  refine aR [] [4] [] [I (-1)] [] [] hB trivial ?_
  refine aw_ret ?_
  refine ae_ret hB (I (-1)) (by kernel_rfl) (.inl (by refine congrArg I ?_; first | (rw [hfin]; done) | (rw [hfin]; omega))) rfl (fun _ => trivial)

theorem containsFeat_ok (s : List Feat) : Con Tryz.prog 159 [slFeat false s, .fn 160 []] true (Bv (anyN s.length (fun j => (!(okF (at_ s j)))))) := by
  refine fn_ok (fn := Tryz.f159) (nt := 9) Tryz.func159 rfl rfl rfl rfl (by simp [taggedL, tagged, tagFeat]) fun B hB => ?_
  refine aw_lens (x := slFeat false s) 0 rfl (fun len_s => ?_)
  simp [LenOK, LenL, cFeat, fFeat, slFeat] at len_s
  refine aR [] [0, 1] [] [slFeat false s, .fn 160 []] [] [] hB trivial ?_
  refine aR [(2, .call [(true, .any), (true, .any)] true (I (firstN s.length (fun j => (!(okF (at_ s j)))))))] [4] [] [Bv (decide (0 ≤ (firstN s.length (fun j => (!(okF (at_ s j)))))))] [] [Con Tryz.prog 184 [slFeat false s, .fn 160 []] true (I (firstN s.length (fun j => (!(okF (at_ s j)))))) ∧ True] hB ⟨⟨(containsFeat_ok_idx s), trivial⟩, trivial⟩ ?_
  refine aw_ret ?_
  refine ae_ret hB (Bv (decide (0 ≤ (firstN s.length (fun j => (!(okF (at_ s j)))))))) (by kernel_rfl) (.inl (by exact congrArg Bv (firstN_any _ _))) rfl (fun _ => trivial)

theorem areFeats_ok (list : List Feat) (most : Int) : Con Tryz.prog 123 [slFeat false list, I most] true (Bv (okFeats list most)) := by
  refine fn_ok (fn := Tryz.f123) (nt := 19) Tryz.func123 rfl rfl rfl rfl (by simp [taggedL, tagged, tagFeat]) fun B hB => ?_
  refine aw_lens (x := slFeat false list) 0 rfl (fun len_list => ?_)
  simp [LenOK, LenL, cFeat, fFeat, slFeat] at len_list
  refine aR [] [0, 1] [] [slFeat false list, I most] [] [] hB trivial ?_
  refine aw_seq ?_
  by_cases h1 : 1 ≤ (list.length : Int)
  ·by_cases h2 : (list.length : Int) ≤ most
   ·refine aw_r [(2, .dec true), (7, .dec true), (11, .call [(true, .any), (true, .any)] true (Bv (anyN list.length (fun j => (!(okF (at_ list j)))))))] [4] [] [Bv (!(anyN list.length (fun j => (!(okF (at_ list j))))))] [] [1 ≤ (list.length : Int), (list.length : Int) ≤ most, Con Tryz.prog 159 [slFeat false list, .fn 160 []] true (Bv (anyN list.length (fun j => (!(okF (at_ list j)))))) ∧ True] hB ⟨h1, h2, ⟨(containsFeat_ok list), trivial⟩, trivial⟩ ?_
    refine ae_then ?_
    refine aw_ret ?_
    refine ae_ret hB (Bv (!(anyN list.length (fun j => (!(okF (at_ list j))))))) (by kernel_rfl) (.inl (by first | rfl | (refine congrArg Bv ?_; simp [okFeats, anyN_not, *]; done) | (refine congrArg Bv ?_; simp [okFeats, anyN_not, *]; omega) | (refine congrArg Bv ?_; simp_all [okFeats, anyN_not]; done) | (refine congrArg Bv ?_; simp_all [okFeats, anyN_not]; omega))) rfl (fun _ => trivial)
   refine aw_r [(2, .dec true), (7, .dec false)] [4] [] [Bv false] [] [1 ≤ (list.length : Int), ¬ ((list.length : Int) ≤ most)] hB ⟨h1, h2, trivial⟩ ?_
   refine ae_then ?_
   refine aw_ret ?_
   refine ae_ret hB (Bv false) (by kernel_rfl) (.inl (by first | rfl | (refine congrArg Bv ?_; simp [okFeats, anyN_not, *]; done) | (refine congrArg Bv ?_; simp [okFeats, anyN_not, *]; omega) | (refine congrArg Bv ?_; simp_all [okFeats, anyN_not]; done) | (refine congrArg Bv ?_; simp_all [okFeats, anyN_not]; omega))) rfl (fun _ => trivial)
  refine aw_r [(2, .dec false)] [4] [] [Bv false] [] [¬ (1 ≤ (list.length : Int))] hB ⟨h1, trivial⟩ ?_
  refine ae_then ?_
  refine aw_ret ?_
  refine ae_ret hB (Bv false) (by kernel_rfl) (.inl (by first | rfl | (refine congrArg Bv ?_; simp [okFeats, anyN_not, *]; done) | (refine congrArg Bv ?_; simp [okFeats, anyN_not, *]; omega) | (refine congrArg Bv ?_; simp_all [okFeats, anyN_not]; done) | (refine congrArg Bv ?_; simp_all [okFeats, anyN_not]; omega))) rfl (fun _ => trivial)



-- impl.ValidSeq
theorem ValidSeq_ok (list : List Feat) : Con Tryz.prog 81 [slFeat false list] true (Bv (okFeats list 72)) := by
  refine fn_ok (fn := Tryz.f81) (nt := 5) Tryz.func81 rfl rfl rfl rfl (by simp [taggedL, tagged, tagFeat]) fun B hB => ?_
  refine aw_lens (x := slFeat false list) 0 rfl (fun len_list => ?_)
  simp [LenOK, LenL, cFeat, fFeat, slFeat] at len_list
  refine aR [] [0] [] [slFeat false list] [] [] hB trivial ?_
  refine aR [(1, .call [(true, .any), (true, .any)] true (Bv (okFeats list 72)))] [2] [] [Bv (okFeats list 72)] [] [Con Tryz.prog 123 [slFeat false list, I 72] true (Bv (okFeats list 72)) ∧ True] hB ⟨⟨(areFeats_ok list 72), trivial⟩, trivial⟩ ?_
  refine aw_ret ?_
  refine ae_ret hB (Bv (okFeats list 72)) (by kernel_rfl) (.inl rfl) rfl (fun _ => trivial)



-- impl.validTemplate
theorem validTemplate_ok (t : Template) (ok : t.Label.size ≤ 9223372036854775807) : Con Tryz.prog 46 [agTemplate t] true (Bv (okTm t)) := by
  refine fn_ok (fn := Tryz.f46) (nt := 11) Tryz.func46 rfl rfl rfl rfl (by simp [taggedL, tagged, tagFeat]) fun B hB => ?_
  refine aw_lens (x := agTemplate t) 0 rfl (fun len_t => ?_)
  simp [LenOK, LenL, cFeat, fFeat, slFeat] at len_t
  refine aR [(0, .new 1)] [1] [1] [.ref 1 0] [some (bxTemplate t)] [] hB trivial ?_
  refine aw_seq ?_
  rcases Bool.eq_false_or_eq_true (okLabel t.Label) with h1 | h1
  ·refine aw_r [(2, .call [(true, .any)] true (Bv true)), (6, .call [(true, .any)] true (Bv (okFeats t.Feats 72)))] [2] [] [Bv (okFeats t.Feats 72)] [] [Con Tryz.prog 80 [Sv t.Label] true (Bv true) ∧ True, Con Tryz.prog 81 [slFeat false t.Feats] true (Bv (okFeats t.Feats 72)) ∧ True] hB ⟨⟨(con_bool h1 (implIsLabel_ok t.Label ok)), trivial⟩, ⟨(ValidSeq_ok t.Feats), trivial⟩, trivial⟩ ?_
   refine ae_then ?_
   refine aw_ret ?_
   refine ae_ret hB (Bv (okFeats t.Feats 72)) (by kernel_rfl) (.inl (by first | rfl | (refine congrArg Bv ?_; simp [okTm, *]; done) | (refine congrArg Bv ?_; simp [okTm, *]; omega) | (refine congrArg Bv ?_; simp_all [okTm]; done) | (refine congrArg Bv ?_; simp_all [okTm]; omega))) rfl (fun _ => trivial)
  refine aw_r [(2, .call [(true, .any)] true (Bv false))] [2] [] [Bv false] [] [Con Tryz.prog 80 [Sv t.Label] true (Bv false) ∧ True] hB ⟨⟨(con_bool h1 (implIsLabel_ok t.Label ok)), trivial⟩, trivial⟩ ?_
  refine ae_then ?_
  refine aw_ret ?_
  refine ae_ret hB (Bv false) (by kernel_rfl) (.inl (by first | rfl | (refine congrArg Bv ?_; simp [okTm, *]; done) | (refine congrArg Bv ?_; simp [okTm, *]; omega) | (refine congrArg Bv ?_; simp_all [okTm]; done) | (refine congrArg Bv ?_; simp_all [okTm]; omega))) rfl (fun _ => trivial)



def okTemplate (x : Template) : Prop := (x.Label.size ≤ 9223372036854775807)


-- impl.ValidStore$1
theorem ValidStore1_ok (t : Template) (ok : okTemplate t) : Con Tryz.prog 45 [agTemplate t] true (Bv (!(okTm t))) := by
  refine fn_ok (fn := Tryz.f45) (nt := 6) Tryz.func45 rfl rfl rfl rfl (by simp [taggedL, tagged, tagFeat]) fun B hB => ?_
  refine aw_lens (x := agTemplate t) 0 rfl (fun len_t => ?_)
  simp [LenOK, LenL, cFeat, fFeat, slFeat] at len_t
  refine aR [(0, .new 1)] [1] [1] [.ref 1 0] [some (bxTemplate t)] [] hB trivial ?_
  refine aR [(1, .call [(true, .any)] true (Bv (okTm t)))] [2] [] [Bv (!(okTm t))] [] [Con Tryz.prog 46 [agTemplate t] true (Bv (okTm t)) ∧ True] hB ⟨⟨(validTemplate_ok t ok), trivial⟩, trivial⟩ ?_
  refine aw_ret ?_
  refine ae_ret hB (Bv (!(okTm t))) (by kernel_rfl) (.inl rfl) rfl (fun _ => trivial)



def okStore (x : Store) : Prop := (∀ y ∈ x.Templates, okTemplate y)


-- impl.ValidStore
theorem containsTm_ok_idx (s : List Template) (hel : ∀ j, j < s.length → okTemplate (at_ s j)) : Con Tryz.prog 79 [slTemplate false s, .fn 45 []] true (I (firstN s.length (fun j => (!(okTm (at_ s j)))))) := by
  refine fn_ok (fn := Tryz.f79) (nt := 19) Tryz.func79 rfl rfl rfl rfl (by simp [taggedL, tagged, tagTemplate]) fun B hB => ?_
  refine aw_lens (x := slTemplate false s) 0 rfl (fun len_s => ?_)
  simp [LenOK, LenL, cFeat, cTemplate, fFeat, fTemplate, slFeat, slTemplate] at len_s
  refine aR [] [0, 1] [] [slTemplate false s, .fn 45 []] [] [] hB trivial ?_
  refine aw_seq ?_
  refine aR [] [0, 1, 7, 8] [] [slTemplate false s, .fn 45 [], I (s.length : Int), I 0] [] [] hB trivial ?_
  refine aw_block ?_
  refine aw_loop (fun gn gσ => ∃ (t8 : Int), gn = ((s.length : Int) - t8).toNat ∧ (0 ≤ t8 ∧ t8 ≤ (s.length : Int)) ∧ (∀ j : Nat, (j : Int) < t8 → (!(okTm (at_ s j))) = false) ∧ gσ = mkS [(0, slTemplate false s), (1, .fn 45 []), (7, I (s.length : Int)), (8, I t8)] []) (((s.length : Int) - 0).toNat) ⟨0, rfl, (by omega), (by intro j hj; omega), rfl⟩ (fun gn gσ hI => ?_)
  obtain ⟨t8, rfl, hi0, hall0, rfl⟩ := hI
  refine aw_seq ?_
  by_cases h1 : t8 < (s.length : Int)
  ·have hi : t8.toNat < s.length := by omega
   refine aw_r [(0, .dec true)] [0, 1, 7, 8, 9] [] [slTemplate false s, .fn 45 [], I (s.length : Int), I t8, Bv true] [] [t8 < (s.length : Int)] hB ⟨h1, trivial⟩ ?_
   refine ae_then ?_
   refine aw_seq ?_
   refine aw_true rfl ?_
   refine aw_skip ?_
   refine ae_then ?_
   refine aw_seq ?_
   refine aw_block ?_
   refine aR [] [0, 1, 5, 7, 8] [] [slTemplate false s, .fn 45 [], I t8, I (s.length : Int), I t8] [] [] hB trivial ?_
   refine aw_seq ?_
   rcases Bool.eq_false_or_eq_true (!(okTm (at_ s t8.toNat))) with h2 | h2
   ·have hfin : firstN s.length (fun j => (!(okTm (at_ s j)))) = t8.toNat := firstN_hit hi h2 (fun j hj => hall0 j (by omega))
    refine aw_r [(5, .call [(true, .any)] true (Bv true))] [0, 1, 5, 7, 8, 16] [] [slTemplate false s, .fn 45 [], I t8, I (s.length : Int), I t8, Bv true] [] [(0 : Int) ≤ t8 ∧ t8 < (s.length : Int), Con Tryz.prog 45 [agTemplate (at_ s t8.toNat)] true (Bv true) ∧ True] hB ⟨⟨(by omega), (by omega)⟩, ⟨(con_bool h2 (ValidStore1_ok (at_ s t8.toNat) (hel _ hi))), trivial⟩, trivial⟩ ?_
    refine ae_then ?_
    refine aw_true rfl ?_
    refine aR [] [4] [] [I t8] [] [] hB trivial ?_
    refine aw_ret ?_
    refine ae_ret_block (ae_ret_then (ae_ret_then (ae_ret_block (ae_ret_then ?_))))
    refine ae_ret hB (I t8) (by kernel_rfl) (.inl (by refine congrArg I ?_; first | (rw [hfin]; done) | (rw [hfin]; omega))) rfl (fun _ => trivial)
   refine aw_r [(5, .call [(true, .any)] true (Bv false))] [0, 1, 5, 7, 8, 16] [] [slTemplate false s, .fn 45 [], I t8, I (s.length : Int), I t8, Bv false] [] [(0 : Int) ≤ t8 ∧ t8 < (s.length : Int), Con Tryz.prog 45 [agTemplate (at_ s t8.toNat)] true (Bv false) ∧ True] hB ⟨⟨(by omega), (by omega)⟩, ⟨(con_bool h2 (ValidStore1_ok (at_ s t8.toNat) (hel _ hi))), trivial⟩, trivial⟩ ?_
   refine ae_then ?_
   refine aw_false rfl ?_
   refine aw_skip ?_
   refine ae_block 1 ?_
   refine ae_then ?_
   refine aw_r [] [0, 1, 7, 8] [] [slTemplate false s, .fn 45 [], I (s.length : Int), I (t8 + 1)] [] [inR .i64 (t8 + 1)] hB ⟨(inR_i64 (by omega) (by omega)), trivial⟩ ?_
   exact ae_again _ (by omega) ⟨(t8 + 1), rfl, (by omega), (by intro j hj; by_cases ej : j = t8.toNat; (subst ej; first | assumption | rfl); exact hall0 j (by omega)), rfl⟩
  have hfin : firstN s.length (fun j => (!(okTm (at_ s j)))) = -1 := firstN_none (fun j hj => hall0 j (by omega))
  refine aw_r [(0, .dec false)] [0, 1, 7, 8, 9] [] [slTemplate false s, .fn 45 [], I (s.length : Int), I t8, Bv false] [] [¬ (t8 < (s.length : Int))] hB ⟨h1, trivial⟩ ?_
  refine ae_then ?_
  refine aw_seq ?_
  refine aw_false rfl ?_
  refine aw_exit ?_
  refine ae_exit_then ?_
  refine ae_exit_then ?_
  refine ae_exit_same ?_
  refine ae_then ?_
  refine aR [] [4] [] [I (-1)] [] [] hB trivial ?_
  refine aw_ret ?_
  refine ae_ret hB (I (-1)) (by kernel_rfl) (.inl (by refine congrArg I ?_; first | (rw [hfin]; done) | (rw [hfin]; omega))) rfl (fun _ => trivial)

theorem containsTm_ok (s : List Template) (hel : ∀ j, j < s.length → okTemplate (at_ s j)) : Con Tryz.prog 44 [slTemplate false s, .fn 45 []] true (Bv (anyN s.length (fun j => (!(okTm (at_ s j)))))) := by
  refine fn_ok (fn := Tryz.f44) (nt := 9) Tryz.func44 rfl rfl rfl rfl (by simp [taggedL, tagged, tagTemplate]) fun B hB => ?_
  refine aw_lens (x := slTemplate false s) 0 rfl (fun len_s => ?_)
  simp [LenOK, LenL, cFeat, cTemplate, fFeat, fTemplate, slFeat, slTemplate] at len_s
  refine aR [] [0, 1] [] [slTemplate false s, .fn 45 []] [] [] hB trivial ?_
  refine aR [(2, .call [(true, .any), (true, .any)] true (I (firstN s.length (fun j => (!(okTm (at_ s j)))))))] [4] [] [Bv (decide (0 ≤ (firstN s.length (fun j => (!(okTm (at_ s j)))))))] [] [Con Tryz.prog 79 [slTemplate false s, .fn 45 []] true (I (firstN s.length (fun j => (!(okTm (at_ s j)))))) ∧ True] hB ⟨⟨(containsTm_ok_idx s hel), trivial⟩, trivial⟩ ?_
  refine aw_ret ?_
  refine ae_ret hB (Bv (decide (0 ≤ (firstN s.length (fun j => (!(okTm (at_ s j)))))))) (by kernel_rfl) (.inl (by exact congrArg Bv (firstN_any _ _))) rfl (fun _ => trivial)

theorem ValidStore_ok (s : Store) (ok : okStore s) : Con Tryz.prog 19 [agStore s] true (Bv (okStore' s)) := by
  refine fn_ok (fn := Tryz.f19) (nt := 18) Tryz.func19 rfl rfl rfl rfl (by simp [taggedL, tagged, tagTemplate]) fun B hB => ?_
  refine aw_lens (x := agStore s) 0 rfl (fun len_s => ?_)
  simp [LenOK, LenL, cFeat, cTemplate, fFeat, fTemplate, slFeat, slTemplate] at len_s
  refine aR [(0, .new 1)] [1] [1] [.ref 1 0] [some (bxStore s)] [] hB trivial ?_
  refine aw_seq ?_
  rcases Bool.eq_false_or_eq_true (inB s.Band 0 72) with h1 | h1
  ·by_cases h2 : (s.Templates.length : Int) ≤ 40
   ·refine aw_r [(2, .call [(true, .any), (true, .any), (true, .any)] true (Bv true)), (7, .dec true), (12, .call [(true, .any), (true, .any)] true (Bv (anyN s.Templates.length (fun j => (!(okTm (at_ s.Templates j)))))))] [2] [] [Bv (!(anyN s.Templates.length (fun j => (!(okTm (at_ s.Templates j))))))] [] [Con Tryz.prog 43 [I s.Band, I 0, I 72] true (Bv true) ∧ True, (s.Templates.length : Int) ≤ 40, Con Tryz.prog 44 [slTemplate false s.Templates, .fn 45 []] true (Bv (anyN s.Templates.length (fun j => (!(okTm (at_ s.Templates j)))))) ∧ True] hB ⟨⟨(con_bool h1 (within_ok s.Band 0 72)), trivial⟩, h2, ⟨(containsTm_ok s.Templates (fun j hj => ok _ (at_mem hj))), trivial⟩, trivial⟩ ?_
    refine ae_then ?_
    refine aw_ret ?_
    refine ae_ret hB (Bv (!(anyN s.Templates.length (fun j => (!(okTm (at_ s.Templates j))))))) (by kernel_rfl) (.inl (by first | rfl | (refine congrArg Bv ?_; simp [okStore', anyN_not, *]; done) | (refine congrArg Bv ?_; simp [okStore', anyN_not, *]; omega) | (refine congrArg Bv ?_; simp_all [okStore', anyN_not]; done) | (refine congrArg Bv ?_; simp_all [okStore', anyN_not]; omega))) rfl (fun _ => trivial)
   refine aw_r [(2, .call [(true, .any), (true, .any), (true, .any)] true (Bv true)), (7, .dec false)] [2] [] [Bv false] [] [Con Tryz.prog 43 [I s.Band, I 0, I 72] true (Bv true) ∧ True, ¬ ((s.Templates.length : Int) ≤ 40)] hB ⟨⟨(con_bool h1 (within_ok s.Band 0 72)), trivial⟩, h2, trivial⟩ ?_
   refine ae_then ?_
   refine aw_ret ?_
   refine ae_ret hB (Bv false) (by kernel_rfl) (.inl (by first | rfl | (refine congrArg Bv ?_; simp [okStore', anyN_not, *]; done) | (refine congrArg Bv ?_; simp [okStore', anyN_not, *]; omega) | (refine congrArg Bv ?_; simp_all [okStore', anyN_not]; done) | (refine congrArg Bv ?_; simp_all [okStore', anyN_not]; omega))) rfl (fun _ => trivial)
  refine aw_r [(2, .call [(true, .any), (true, .any), (true, .any)] true (Bv false))] [2] [] [Bv false] [] [Con Tryz.prog 43 [I s.Band, I 0, I 72] true (Bv false) ∧ True] hB ⟨⟨(con_bool h1 (within_ok s.Band 0 72)), trivial⟩, trivial⟩ ?_
  refine ae_then ?_
  refine aw_ret ?_
  refine ae_ret hB (Bv false) (by kernel_rfl) (.inl (by first | rfl | (refine congrArg Bv ?_; simp [okStore', anyN_not, *]; done) | (refine congrArg Bv ?_; simp [okStore', anyN_not, *]; omega) | (refine congrArg Bv ?_; simp_all [okStore', anyN_not]; done) | (refine congrArg Bv ?_; simp_all [okStore', anyN_not]; omega))) rfl (fun _ => trivial)



-- impl.isCoord
theorem isCoord_ok (n : Int) : Con Tryz.prog 124 [I n] true (Bv (inB n 0 4095)) := by
  refine fn_ok (fn := Tryz.f124) (nt := 5) Tryz.func124 rfl rfl rfl rfl (by simp [taggedL, tagged]) fun B hB => ?_
  refine aR [] [0] [] [I n] [] [] hB trivial ?_
  refine aR [(1, .call [(true, .any), (true, .any), (true, .any)] true (Bv (inB n 0 4095)))] [2] [] [Bv (inB n 0 4095)] [] [Con Tryz.prog 43 [I n, I 0, I 4095] true (Bv (inB n 0 4095)) ∧ True] hB ⟨⟨(within_ok n 0 4095), trivial⟩, trivial⟩ ?_
  refine aw_ret ?_
  refine ae_ret hB (Bv (inB n 0 4095)) (by kernel_rfl) (.inl rfl) rfl (fun _ => trivial)



-- impl.validPoint
theorem validPoint_ok (p : Point) : Con Tryz.prog 82 [agPoint p] true (Bv (okP p)) := by
  refine fn_ok (fn := Tryz.f82) (nt := 16) Tryz.func82 rfl rfl rfl rfl (by simp [taggedL, tagged]) fun B hB => ?_
  refine aR [(0, .new 1)] [1] [1] [.ref 1 0] [some (bxPoint p)] [] hB trivial ?_
  refine aw_seq ?_
  rcases Bool.eq_false_or_eq_true (inB p.X 0 4095) with h1 | h1
  ·rcases Bool.eq_false_or_eq_true (inB p.Y 0 4095) with h2 | h2
   ·refine aw_r [(2, .call [(true, .any)] true (Bv true)), (6, .call [(true, .any)] true (Bv true)), (11, .call [(true, .any), (true, .any), (true, .any)] true (Bv (inB p.T 0 3600000)))] [2] [] [Bv (inB p.T 0 3600000)] [] [Con Tryz.prog 124 [I p.X] true (Bv true) ∧ True, Con Tryz.prog 124 [I p.Y] true (Bv true) ∧ True, Con Tryz.prog 43 [I p.T, I 0, I 3600000] true (Bv (inB p.T 0 3600000)) ∧ True] hB ⟨⟨(con_bool h1 (isCoord_ok p.X)), trivial⟩, ⟨(con_bool h2 (isCoord_ok p.Y)), trivial⟩, ⟨(within_ok p.T 0 3600000), trivial⟩, trivial⟩ ?_
    refine ae_then ?_
    refine aw_ret ?_
    refine ae_ret hB (Bv (inB p.T 0 3600000)) (by kernel_rfl) (.inl (by first | rfl | (refine congrArg Bv ?_; simp [okP, *]; done) | (refine congrArg Bv ?_; simp [okP, *]; omega) | (refine congrArg Bv ?_; simp_all [okP]; done) | (refine congrArg Bv ?_; simp_all [okP]; omega))) rfl (fun _ => trivial)
   refine aw_r [(2, .call [(true, .any)] true (Bv true)), (6, .call [(true, .any)] true (Bv false))] [2] [] [Bv false] [] [Con Tryz.prog 124 [I p.X] true (Bv true) ∧ True, Con Tryz.prog 124 [I p.Y] true (Bv false) ∧ True] hB ⟨⟨(con_bool h1 (isCoord_ok p.X)), trivial⟩, ⟨(con_bool h2 (isCoord_ok p.Y)), trivial⟩, trivial⟩ ?_
   refine ae_then ?_
   refine aw_ret ?_
   refine ae_ret hB (Bv false) (by kernel_rfl) (.inl (by first | rfl | (refine congrArg Bv ?_; simp [okP, *]; done) | (refine congrArg Bv ?_; simp [okP, *]; omega) | (refine congrArg Bv ?_; simp_all [okP]; done) | (refine congrArg Bv ?_; simp_all [okP]; omega))) rfl (fun _ => trivial)
  refine aw_r [(2, .call [(true, .any)] true (Bv false))] [2] [] [Bv false] [] [Con Tryz.prog 124 [I p.X] true (Bv false) ∧ True] hB ⟨⟨(con_bool h1 (isCoord_ok p.X)), trivial⟩, trivial⟩ ?_
  refine ae_then ?_
  refine aw_ret ?_
  refine ae_ret hB (Bv false) (by kernel_rfl) (.inl (by first | rfl | (refine congrArg Bv ?_; simp [okP, *]; done) | (refine congrArg Bv ?_; simp [okP, *]; omega) | (refine congrArg Bv ?_; simp_all [okP]; done) | (refine congrArg Bv ?_; simp_all [okP]; omega))) rfl (fun _ => trivial)



-- impl.ValidStroke
theorem ValidStroke_ok (s : Stroke) : Con Tryz.prog 47 [.agg [slPoint false s.Points]] true (Bv (okStroke' s)) := by
  refine fn_ok (fn := Tryz.f47) (nt := 43) Tryz.func47 rfl rfl rfl rfl (by simp [taggedL, tagged, tagPoint]) fun B hB => ?_
  refine aw_lens (x := .agg [slPoint false s.Points]) 0 rfl (fun len_s => ?_)
  simp [LenOK, LenL, cPoint, fPoint, slPoint] at len_s
  refine aR [(0, .new 1)] [1] [1] [.ref 1 0] [some (.box [slPoint false s.Points])] [] hB trivial ?_
  refine aw_seq ?_
  refine aR [] [1, 6, 7, 8] [1] [.ref 1 0, slPoint false s.Points, I (s.Points.length : Int), I 0] [some (.box [slPoint false s.Points])] [] hB trivial ?_
  refine aw_block ?_
  refine aw_loop (fun gn gσ => ∃ (t8 : Int), gn = ((s.Points.length : Int) - t8).toNat ∧ (0 ≤ t8 ∧ t8 ≤ (s.Points.length : Int)) ∧ (∀ j : Nat, (j : Int) < t8 → okPt s.Points j = true) ∧ gσ = mkS [(1, .ref 1 0), (6, slPoint false s.Points), (7, I (s.Points.length : Int)), (8, I t8)] [(1, .box [slPoint false s.Points])]) (((s.Points.length : Int) - 0).toNat) ⟨0, rfl, (by omega), (by intro j hj; omega), rfl⟩ (fun gn gσ hI => ?_)
  obtain ⟨t8, rfl, hi0, hall0, rfl⟩ := hI
  refine aw_seq ?_
  by_cases h1 : t8 < (s.Points.length : Int)
  ·have hi : t8.toNat < s.Points.length := by omega
   refine aw_r [(0, .dec true)] [1, 6, 7, 8, 9] [1] [.ref 1 0, slPoint false s.Points, I (s.Points.length : Int), I t8, Bv true] [some (.box [slPoint false s.Points])] [t8 < (s.Points.length : Int)] hB ⟨h1, trivial⟩ ?_
   refine ae_then ?_
   refine aw_seq ?_
   refine aw_true rfl ?_
   refine aw_skip ?_
   refine ae_then ?_
   refine aw_seq ?_
   refine aw_block ?_
   refine aR [(3, .new 4)] [1, 3, 4, 6, 7, 8] [1, 4] [.ref 1 0, I t8, .ref 4 0, slPoint false s.Points, I (s.Points.length : Int), I t8] [some (.box [slPoint false s.Points]), some (bxPoint (at_ s.Points t8.toNat))] [(0 : Int) ≤ t8 ∧ t8 < (s.Points.length : Int)] hB ⟨⟨(by omega), (by omega)⟩, trivial⟩ ?_
   refine aw_seq ?_
   rcases Bool.eq_false_or_eq_true (okP (at_ s.Points t8.toNat)) with h2 | h2
   ·by_cases h3 : 0 < t8
    ·by_cases h4 : ((at_ s.Points t8.toNat).T) ≤ ((at_ s.Points ((t8 - 1).toNat)).T)
     ·have hall : allN s.Points.length (okPt s.Points) = false := allN_not hi (okPt_no h3 h4)
      refine aw_r [(1, .call [(true, .any)] true (Bv true)), (5, .dec true), (16, .dec true)] [1, 6, 7, 8, 31] [1] [.ref 1 0, slPoint false s.Points, I (s.Points.length : Int), I t8, Bv true] [some (.box [slPoint false s.Points])] [Con Tryz.prog 82 [agPoint (at_ s.Points t8.toNat)] true (Bv true) ∧ True, 0 < t8, inR .i64 (t8 - 1), (0 : Int) ≤ (t8 - 1) ∧ (t8 - 1) < (s.Points.length : Int), ((at_ s.Points t8.toNat).T) ≤ ((at_ s.Points ((t8 - 1).toNat)).T)] hB ⟨⟨(con_bool h2 (validPoint_ok (at_ s.Points t8.toNat))), trivial⟩, h3, (inR_i64 (by omega) (by omega)), ⟨(by omega), (by omega)⟩, h4, trivial⟩ ?_
      refine ae_then ?_
      refine aw_true rfl ?_
      refine aR [] [2] [] [Bv false] [] [] hB trivial ?_
      refine aw_ret ?_
      refine ae_ret_block (ae_ret_then (ae_ret_then (ae_ret_block (ae_ret_then ?_))))
      refine ae_ret hB (Bv false) (by kernel_rfl) (.inl (by first | rfl | (refine congrArg Bv ?_; simp [okStroke', inB, *]; done) | (refine congrArg Bv ?_; simp [okStroke', inB, *]; omega) | (refine congrArg Bv ?_; simp_all [okStroke', inB]; done) | (refine congrArg Bv ?_; simp_all [okStroke', inB]; omega))) rfl (fun _ => trivial)
     have hok := okPt_yes h2 h3 h4
     refine aw_r [(1, .call [(true, .any)] true (Bv true)), (5, .dec true), (16, .dec false)] [1, 6, 7, 8, 31] [1] [.ref 1 0, slPoint false s.Points, I (s.Points.length : Int), I t8, Bv false] [some (.box [slPoint false s.Points])] [Con Tryz.prog 82 [agPoint (at_ s.Points t8.toNat)] true (Bv true) ∧ True, 0 < t8, inR .i64 (t8 - 1), (0 : Int) ≤ (t8 - 1) ∧ (t8 - 1) < (s.Points.length : Int), ¬ (((at_ s.Points t8.toNat).T) ≤ ((at_ s.Points ((t8 - 1).toNat)).T))] hB ⟨⟨(con_bool h2 (validPoint_ok (at_ s.Points t8.toNat))), trivial⟩, h3, (inR_i64 (by omega) (by omega)), ⟨(by omega), (by omega)⟩, h4, trivial⟩ ?_
     refine ae_then ?_
     refine aw_false rfl ?_
     refine aw_skip ?_
     refine ae_block 1 ?_
     refine ae_then ?_
     refine aw_r [] [1, 6, 7, 8] [1] [.ref 1 0, slPoint false s.Points, I (s.Points.length : Int), I (t8 + 1)] [some (.box [slPoint false s.Points])] [inR .i64 (t8 + 1)] hB ⟨(inR_i64 (by omega) (by omega)), trivial⟩ ?_
     exact ae_again _ (by omega) ⟨(t8 + 1), rfl, (by omega), (by intro j hj; by_cases ej : j = t8.toNat; (subst ej; first | assumption | exact hok); exact hall0 j (by omega)), rfl⟩
    have hok := okPt_zero h2 hi0.1 h3
    refine aw_r [(1, .call [(true, .any)] true (Bv true)), (5, .dec false)] [1, 6, 7, 8, 31] [1] [.ref 1 0, slPoint false s.Points, I (s.Points.length : Int), I t8, Bv false] [some (.box [slPoint false s.Points])] [Con Tryz.prog 82 [agPoint (at_ s.Points t8.toNat)] true (Bv true) ∧ True, ¬ (0 < t8)] hB ⟨⟨(con_bool h2 (validPoint_ok (at_ s.Points t8.toNat))), trivial⟩, h3, trivial⟩ ?_
    refine ae_then ?_
    refine aw_false rfl ?_
    refine aw_skip ?_
    refine ae_block 1 ?_
    refine ae_then ?_
    refine aw_r [] [1, 6, 7, 8] [1] [.ref 1 0, slPoint false s.Points, I (s.Points.length : Int), I (t8 + 1)] [some (.box [slPoint false s.Points])] [inR .i64 (t8 + 1)] hB ⟨(inR_i64 (by omega) (by omega)), trivial⟩ ?_
    exact ae_again _ (by omega) ⟨(t8 + 1), rfl, (by omega), (by intro j hj; by_cases ej : j = t8.toNat; (subst ej; first | assumption | exact hok); exact hall0 j (by omega)), rfl⟩
   have hall : allN s.Points.length (okPt s.Points) = false := allN_not hi (okPt_bad h2)
   refine aw_r [(1, .call [(true, .any)] true (Bv false))] [1, 6, 7, 8, 31] [1] [.ref 1 0, slPoint false s.Points, I (s.Points.length : Int), I t8, Bv true] [some (.box [slPoint false s.Points])] [Con Tryz.prog 82 [agPoint (at_ s.Points t8.toNat)] true (Bv false) ∧ True] hB ⟨⟨(con_bool h2 (validPoint_ok (at_ s.Points t8.toNat))), trivial⟩, trivial⟩ ?_
   refine ae_then ?_
   refine aw_true rfl ?_
   refine aR [] [2] [] [Bv false] [] [] hB trivial ?_
   refine aw_ret ?_
   refine ae_ret_block (ae_ret_then (ae_ret_then (ae_ret_block (ae_ret_then ?_))))
   refine ae_ret hB (Bv false) (by kernel_rfl) (.inl (by first | rfl | (refine congrArg Bv ?_; simp [okStroke', inB, *]; done) | (refine congrArg Bv ?_; simp [okStroke', inB, *]; omega) | (refine congrArg Bv ?_; simp_all [okStroke', inB]; done) | (refine congrArg Bv ?_; simp_all [okStroke', inB]; omega))) rfl (fun _ => trivial)
  have hall : allN s.Points.length (okPt s.Points) = true := allN_at (fun j hj => hall0 j (by omega))
  refine aw_r [(0, .dec false)] [1, 6, 7, 8, 9] [1] [.ref 1 0, slPoint false s.Points, I (s.Points.length : Int), I t8, Bv false] [some (.box [slPoint false s.Points])] [¬ (t8 < (s.Points.length : Int))] hB ⟨h1, trivial⟩ ?_
  refine ae_then ?_
  refine aw_seq ?_
  refine aw_false rfl ?_
  refine aw_exit ?_
  refine ae_exit_then ?_
  refine ae_exit_then ?_
  refine ae_exit_same ?_
  refine ae_then ?_
  refine aw_seq ?_
  by_cases h5 : 1 ≤ (s.Points.length : Int)
  ·refine aw_r [(3, .dec true)] [2] [] [Bv (decide ((s.Points.length : Int) ≤ 60))] [] [1 ≤ (s.Points.length : Int)] hB ⟨h5, trivial⟩ ?_
   refine ae_then ?_
   refine aw_ret ?_
   refine ae_ret hB (Bv (decide ((s.Points.length : Int) ≤ 60))) (by kernel_rfl) (.inl (by first | rfl | (refine congrArg Bv ?_; simp [okStroke', inB, *]; done) | (refine congrArg Bv ?_; simp [okStroke', inB, *]; omega) | (refine congrArg Bv ?_; simp_all [okStroke', inB]; done) | (refine congrArg Bv ?_; simp_all [okStroke', inB]; omega))) rfl (fun _ => trivial)
  refine aw_r [(3, .dec false)] [2] [] [Bv false] [] [¬ (1 ≤ (s.Points.length : Int))] hB ⟨h5, trivial⟩ ?_
  refine ae_then ?_
  refine aw_ret ?_
  refine ae_ret hB (Bv false) (by kernel_rfl) (.inl (by first | rfl | (refine congrArg Bv ?_; simp [okStroke', inB, *]; done) | (refine congrArg Bv ?_; simp [okStroke', inB, *]; omega) | (refine congrArg Bv ?_; simp_all [okStroke', inB]; done) | (refine congrArg Bv ?_; simp_all [okStroke', inB]; omega))) rfl (fun _ => trivial)



-- impl.firstOf
theorem firstOf_ok (s : Stroke) (ok : okStroke' s = true) : Con Tryz.prog 48 [.agg [slPoint false s.Points]] true (agPoint (at_ s.Points 0)) := by
  have hln := okS_len ok
  refine fn_ok (fn := Tryz.f48) (nt := 7) Tryz.func48 rfl rfl rfl rfl (by simp [taggedL, tagged, tagPoint]) fun B hB => ?_
  refine aw_lens (x := .agg [slPoint false s.Points]) 0 rfl (fun len_s => ?_)
  simp [LenOK, LenL, cPoint, fPoint, slPoint] at len_s
  refine aR [(0, .new 1), (1, .new 2)] [1, 2] [1, 2] [.ref 1 0, .ref 2 0] [some (.box [slPoint false s.Points]), some (.box [I 0, I 0, I 0])] [] hB trivial ?_
  refine aR [] [2] [2] [.ref 2 0] [some (bxPoint (at_ s.Points 0))] [(0 : Int) ≤ 0 ∧ 0 < (s.Points.length : Int)] hB ⟨⟨(by omega), (by omega)⟩, trivial⟩ ?_
  refine aw_ret ?_
  refine ae_ret hB (agPoint (at_ s.Points 0)) (by kernel_rfl) (.inl rfl) rfl (fun _ => (by simp [tagged, taggedL]))



-- impl.lastOf
theorem lastOf_ok (s : Stroke) (ok : okStroke' s = true) : Con Tryz.prog 49 [.agg [slPoint false s.Points]] true (agPoint (at_ s.Points (s.Points.length - 1))) := by
  have hln := okS_len ok
  refine fn_ok (fn := Tryz.f49) (nt := 11) Tryz.func49 rfl rfl rfl rfl (by simp [taggedL, tagged, tagPoint]) fun B hB => ?_
  refine aw_lens (x := .agg [slPoint false s.Points]) 0 rfl (fun len_s => ?_)
  simp [LenOK, LenL, cPoint, fPoint, slPoint] at len_s
  refine aR [(0, .new 1), (1, .new 2)] [1, 2] [1, 2] [.ref 1 0, .ref 2 0] [some (.box [slPoint false s.Points]), some (.box [I 0, I 0, I 0])] [] hB trivial ?_
  refine aR [] [2] [2] [.ref 2 0] [some (bxPoint (at_ s.Points (((s.Points.length : Int) - 1).toNat)))] [inR .i64 ((s.Points.length : Int) - 1), (0 : Int) ≤ ((s.Points.length : Int) - 1) ∧ ((s.Points.length : Int) - 1) < (s.Points.length : Int)] hB ⟨(inR_i64 (by omega) (by omega)), ⟨(by omega), (by omega)⟩, trivial⟩ ?_
  refine aw_ret ?_
  refine ae_ret hB (agPoint (at_ s.Points (((s.Points.length : Int) - 1).toNat))) (by kernel_rfl) (.inl (by first | rfl | (have e : ((s.Points.length : Int) - 1).toNat = s.Points.length - 1 := (by omega); rw [e]))) rfl (fun _ => (by simp [tagged, taggedL]))



-- impl.ValidInk
theorem ValidInk_ok (ik : Ink) : Con Tryz.prog 20 [.agg [slStroke false ik.Strokes]] true (Bv (okInk' ik)) := by
  refine fn_ok (fn := Tryz.f20) (nt := 39) Tryz.func20 rfl rfl rfl rfl (by simp [taggedL, tagged, tagStroke]) fun B hB => ?_
  refine aw_lens (x := .agg [slStroke false ik.Strokes]) 0 rfl (fun len_ik => ?_)
  simp [LenOK, LenL, cPoint, cStroke, fPoint, fStroke, slPoint, slStroke] at len_ik
  refine aR [(0, .new 1)] [1] [1] [.ref 1 0] [some (.box [slStroke false ik.Strokes])] [] hB trivial ?_
  refine aw_seq ?_
  refine aR [] [1, 6, 7, 8] [1] [.ref 1 0, slStroke false ik.Strokes, I (ik.Strokes.length : Int), I 0] [some (.box [slStroke false ik.Strokes])] [] hB trivial ?_
  refine aw_block ?_
  refine aw_loop (fun gn gσ => ∃ (t8 : Int), gn = ((ik.Strokes.length : Int) - t8).toNat ∧ (0 ≤ t8 ∧ t8 ≤ (ik.Strokes.length : Int)) ∧ (∀ j : Nat, (j : Int) < t8 → okSA ik.Strokes j = true) ∧ gσ = mkS [(1, .ref 1 0), (6, slStroke false ik.Strokes), (7, I (ik.Strokes.length : Int)), (8, I t8)] [(1, .box [slStroke false ik.Strokes])]) (((ik.Strokes.length : Int) - 0).toNat) ⟨0, rfl, (by omega), (by intro j hj; omega), rfl⟩ (fun gn gσ hI => ?_)
  obtain ⟨t8, rfl, hi0, hall0, rfl⟩ := hI
  refine aw_seq ?_
  by_cases h1 : t8 < (ik.Strokes.length : Int)
  ·have hi : t8.toNat < ik.Strokes.length := by omega
   refine aw_r [(0, .dec true)] [1, 6, 7, 8, 9] [1] [.ref 1 0, slStroke false ik.Strokes, I (ik.Strokes.length : Int), I t8, Bv true] [some (.box [slStroke false ik.Strokes])] [t8 < (ik.Strokes.length : Int)] hB ⟨h1, trivial⟩ ?_
   refine ae_then ?_
   refine aw_seq ?_
   refine aw_true rfl ?_
   refine aw_skip ?_
   refine ae_then ?_
   refine aw_seq ?_
   refine aw_block ?_
   refine aR [(3, .new 4)] [1, 3, 4, 6, 7, 8] [1, 4] [.ref 1 0, I t8, .ref 4 0, slStroke false ik.Strokes, I (ik.Strokes.length : Int), I t8] [some (.box [slStroke false ik.Strokes]), some (.box [slPoint false ((at_ ik.Strokes t8.toNat).Points)])] [(0 : Int) ≤ t8 ∧ t8 < (ik.Strokes.length : Int)] hB ⟨⟨(by omega), (by omega)⟩, trivial⟩ ?_
   refine aw_seq ?_
   rcases Bool.eq_false_or_eq_true (okStroke' (at_ ik.Strokes t8.toNat)) with h2 | h2
   ·have hln := okS_len h2
    by_cases h3 : 0 < t8
    ·have hpr := okS_len (okSA_ok (hall0 (t8 - 1).toNat (by omega)))
     by_cases h4 : ((at_ (at_ ik.Strokes t8.toNat).Points 0).T) ≤ ((at_ (at_ ik.Strokes ((t8 - 1).toNat)).Points ((at_ ik.Strokes ((t8 - 1).toNat)).Points.length - 1)).T)
     ·have hall : allN ik.Strokes.length (okSA ik.Strokes) = false := allN_not hi (okSA_no h3 h4)
      refine aw_r [(1, .call [(true, .any)] true (Bv true)), (5, .dec true), (8, .call [(true, .any)] true (agPoint (at_ (at_ ik.Strokes t8.toNat).Points 0))), (16, .call [(true, .any)] true (agPoint (at_ (at_ ik.Strokes ((t8 - 1).toNat)).Points ((at_ ik.Strokes ((t8 - 1).toNat)).Points.length - 1)))), (18, .dec true)] [1, 6, 7, 8, 33] [1] [.ref 1 0, slStroke false ik.Strokes, I (ik.Strokes.length : Int), I t8, Bv true] [some (.box [slStroke false ik.Strokes])] [Con Tryz.prog 47 [.agg [slPoint false ((at_ ik.Strokes t8.toNat).Points)]] true (Bv true) ∧ True, 0 < t8, Con Tryz.prog 48 [.agg [slPoint false ((at_ ik.Strokes t8.toNat).Points)]] true (agPoint (at_ (at_ ik.Strokes t8.toNat).Points 0)) ∧ True, inR .i64 (t8 - 1), (0 : Int) ≤ (t8 - 1) ∧ (t8 - 1) < (ik.Strokes.length : Int), Con Tryz.prog 49 [.agg [slPoint false ((at_ ik.Strokes ((t8 - 1).toNat)).Points)]] true (agPoint (at_ (at_ ik.Strokes ((t8 - 1).toNat)).Points ((at_ ik.Strokes ((t8 - 1).toNat)).Points.length - 1))) ∧ True, ((at_ (at_ ik.Strokes t8.toNat).Points 0).T) ≤ ((at_ (at_ ik.Strokes ((t8 - 1).toNat)).Points ((at_ ik.Strokes ((t8 - 1).toNat)).Points.length - 1)).T)] hB ⟨⟨(con_bool h2 (ValidStroke_ok (at_ ik.Strokes t8.toNat))), trivial⟩, h3, ⟨(firstOf_ok (at_ ik.Strokes t8.toNat) (by first | assumption | exact okSA_ok (hall0 _ (by omega)))), trivial⟩, (inR_i64 (by omega) (by omega)), ⟨(by omega), (by omega)⟩, ⟨(lastOf_ok (at_ ik.Strokes ((t8 - 1).toNat)) (by first | assumption | exact okSA_ok (hall0 _ (by omega)))), trivial⟩, h4, trivial⟩ ?_
      refine ae_then ?_
      refine aw_true rfl ?_
      refine aR [] [2] [] [Bv false] [] [] hB trivial ?_
      refine aw_ret ?_
      refine ae_ret_block (ae_ret_then (ae_ret_then (ae_ret_block (ae_ret_then ?_))))
      refine ae_ret hB (Bv false) (by kernel_rfl) (.inl (by first | rfl | (refine congrArg Bv ?_; simp [okInk', *]; done) | (refine congrArg Bv ?_; simp [okInk', *]; omega) | (refine congrArg Bv ?_; simp_all [okInk']; done) | (refine congrArg Bv ?_; simp_all [okInk']; omega))) rfl (fun _ => trivial)
     have hok := okSA_yes h2 h3 h4
     refine aw_r [(1, .call [(true, .any)] true (Bv true)), (5, .dec true), (8, .call [(true, .any)] true (agPoint (at_ (at_ ik.Strokes t8.toNat).Points 0))), (16, .call [(true, .any)] true (agPoint (at_ (at_ ik.Strokes ((t8 - 1).toNat)).Points ((at_ ik.Strokes ((t8 - 1).toNat)).Points.length - 1)))), (18, .dec false)] [1, 6, 7, 8, 33] [1] [.ref 1 0, slStroke false ik.Strokes, I (ik.Strokes.length : Int), I t8, Bv false] [some (.box [slStroke false ik.Strokes])] [Con Tryz.prog 47 [.agg [slPoint false ((at_ ik.Strokes t8.toNat).Points)]] true (Bv true) ∧ True, 0 < t8, Con Tryz.prog 48 [.agg [slPoint false ((at_ ik.Strokes t8.toNat).Points)]] true (agPoint (at_ (at_ ik.Strokes t8.toNat).Points 0)) ∧ True, inR .i64 (t8 - 1), (0 : Int) ≤ (t8 - 1) ∧ (t8 - 1) < (ik.Strokes.length : Int), Con Tryz.prog 49 [.agg [slPoint false ((at_ ik.Strokes ((t8 - 1).toNat)).Points)]] true (agPoint (at_ (at_ ik.Strokes ((t8 - 1).toNat)).Points ((at_ ik.Strokes ((t8 - 1).toNat)).Points.length - 1))) ∧ True, ¬ (((at_ (at_ ik.Strokes t8.toNat).Points 0).T) ≤ ((at_ (at_ ik.Strokes ((t8 - 1).toNat)).Points ((at_ ik.Strokes ((t8 - 1).toNat)).Points.length - 1)).T))] hB ⟨⟨(con_bool h2 (ValidStroke_ok (at_ ik.Strokes t8.toNat))), trivial⟩, h3, ⟨(firstOf_ok (at_ ik.Strokes t8.toNat) (by first | assumption | exact okSA_ok (hall0 _ (by omega)))), trivial⟩, (inR_i64 (by omega) (by omega)), ⟨(by omega), (by omega)⟩, ⟨(lastOf_ok (at_ ik.Strokes ((t8 - 1).toNat)) (by first | assumption | exact okSA_ok (hall0 _ (by omega)))), trivial⟩, h4, trivial⟩ ?_
     refine ae_then ?_
     refine aw_false rfl ?_
     refine aw_skip ?_
     refine ae_block 1 ?_
     refine ae_then ?_
     refine aw_r [] [1, 6, 7, 8] [1] [.ref 1 0, slStroke false ik.Strokes, I (ik.Strokes.length : Int), I (t8 + 1)] [some (.box [slStroke false ik.Strokes])] [inR .i64 (t8 + 1)] hB ⟨(inR_i64 (by omega) (by omega)), trivial⟩ ?_
     exact ae_again _ (by omega) ⟨(t8 + 1), rfl, (by omega), (by intro j hj; by_cases ej : j = t8.toNat; (subst ej; first | assumption | exact hok); exact hall0 j (by omega)), rfl⟩
    have hok := okSA_zero h2 hi0.1 h3
    refine aw_r [(1, .call [(true, .any)] true (Bv true)), (5, .dec false)] [1, 6, 7, 8, 33] [1] [.ref 1 0, slStroke false ik.Strokes, I (ik.Strokes.length : Int), I t8, Bv false] [some (.box [slStroke false ik.Strokes])] [Con Tryz.prog 47 [.agg [slPoint false ((at_ ik.Strokes t8.toNat).Points)]] true (Bv true) ∧ True, ¬ (0 < t8)] hB ⟨⟨(con_bool h2 (ValidStroke_ok (at_ ik.Strokes t8.toNat))), trivial⟩, h3, trivial⟩ ?_
    refine ae_then ?_
    refine aw_false rfl ?_
    refine aw_skip ?_
    refine ae_block 1 ?_
    refine ae_then ?_
    refine aw_r [] [1, 6, 7, 8] [1] [.ref 1 0, slStroke false ik.Strokes, I (ik.Strokes.length : Int), I (t8 + 1)] [some (.box [slStroke false ik.Strokes])] [inR .i64 (t8 + 1)] hB ⟨(inR_i64 (by omega) (by omega)), trivial⟩ ?_
    exact ae_again _ (by omega) ⟨(t8 + 1), rfl, (by omega), (by intro j hj; by_cases ej : j = t8.toNat; (subst ej; first | assumption | exact hok); exact hall0 j (by omega)), rfl⟩
   have hall : allN ik.Strokes.length (okSA ik.Strokes) = false := allN_not hi (okSA_bad (by simpa using h2))
   refine aw_r [(1, .call [(true, .any)] true (Bv false))] [1, 6, 7, 8, 33] [1] [.ref 1 0, slStroke false ik.Strokes, I (ik.Strokes.length : Int), I t8, Bv true] [some (.box [slStroke false ik.Strokes])] [Con Tryz.prog 47 [.agg [slPoint false ((at_ ik.Strokes t8.toNat).Points)]] true (Bv false) ∧ True] hB ⟨⟨(con_bool h2 (ValidStroke_ok (at_ ik.Strokes t8.toNat))), trivial⟩, trivial⟩ ?_
   refine ae_then ?_
   refine aw_true rfl ?_
   refine aR [] [2] [] [Bv false] [] [] hB trivial ?_
   refine aw_ret ?_
   refine ae_ret_block (ae_ret_then (ae_ret_then (ae_ret_block (ae_ret_then ?_))))
   refine ae_ret hB (Bv false) (by kernel_rfl) (.inl (by first | rfl | (refine congrArg Bv ?_; simp [okInk', *]; done) | (refine congrArg Bv ?_; simp [okInk', *]; omega) | (refine congrArg Bv ?_; simp_all [okInk']; done) | (refine congrArg Bv ?_; simp_all [okInk']; omega))) rfl (fun _ => trivial)
  have hall : allN ik.Strokes.length (okSA ik.Strokes) = true := allN_at (fun j hj => hall0 j (by omega))
  refine aw_r [(0, .dec false)] [1, 6, 7, 8, 9] [1] [.ref 1 0, slStroke false ik.Strokes, I (ik.Strokes.length : Int), I t8, Bv false] [some (.box [slStroke false ik.Strokes])] [¬ (t8 < (ik.Strokes.length : Int))] hB ⟨h1, trivial⟩ ?_
  refine ae_then ?_
  refine aw_seq ?_
  refine aw_false rfl ?_
  refine aw_exit ?_
  refine ae_exit_then ?_
  refine ae_exit_then ?_
  refine ae_exit_same ?_
  refine ae_then ?_
  refine aR [] [2] [] [Bv (decide ((ik.Strokes.length : Int) ≤ 16))] [] [] hB trivial ?_
  refine aw_ret ?_
  refine ae_ret hB (Bv (decide ((ik.Strokes.length : Int) ≤ 16))) (by kernel_rfl) (.inl (by first | rfl | (refine congrArg Bv ?_; simp [okInk', *]; done) | (refine congrArg Bv ?_; simp [okInk', *]; omega) | (refine congrArg Bv ?_; simp_all [okInk']; done) | (refine congrArg Bv ?_; simp_all [okInk']; omega))) rfl (fun _ => trivial)



-- impl.ValidSetting
theorem ValidSetting_ok (t : Setting) : Con Tryz.prog 21 [agSetting t] true (Bv (okSet t)) := by
  refine fn_ok (fn := Tryz.f21) (nt := 16) Tryz.func21 rfl rfl rfl rfl (by simp [taggedL, tagged]) fun B hB => ?_
  refine aR [(0, .new 1)] [1] [1] [.ref 1 0] [some (bxSetting t)] [] hB trivial ?_
  refine aw_seq ?_
  rcases Bool.eq_false_or_eq_true (inB t.Points 2 24) with h1 | h1
  ·rcases Bool.eq_false_or_eq_true (inB t.Most 1 8) with h2 | h2
   ·refine aw_r [(2, .call [(true, .any), (true, .any), (true, .any)] true (Bv true)), (6, .call [(true, .any), (true, .any), (true, .any)] true (Bv true)), (11, .call [(true, .any), (true, .any), (true, .any)] true (Bv (inB t.Pen 0 1000)))] [2] [] [Bv (inB t.Pen 0 1000)] [] [Con Tryz.prog 43 [I t.Points, I 2, I 24] true (Bv true) ∧ True, Con Tryz.prog 43 [I t.Most, I 1, I 8] true (Bv true) ∧ True, Con Tryz.prog 43 [I t.Pen, I 0, I 1000] true (Bv (inB t.Pen 0 1000)) ∧ True] hB ⟨⟨(con_bool h1 (within_ok t.Points 2 24)), trivial⟩, ⟨(con_bool h2 (within_ok t.Most 1 8)), trivial⟩, ⟨(within_ok t.Pen 0 1000), trivial⟩, trivial⟩ ?_
    refine ae_then ?_
    refine aw_ret ?_
    refine ae_ret hB (Bv (inB t.Pen 0 1000)) (by kernel_rfl) (.inl (by first | rfl | (refine congrArg Bv ?_; simp [okSet, *]; done) | (refine congrArg Bv ?_; simp [okSet, *]; omega) | (refine congrArg Bv ?_; simp_all [okSet]; done) | (refine congrArg Bv ?_; simp_all [okSet]; omega))) rfl (fun _ => trivial)
   refine aw_r [(2, .call [(true, .any), (true, .any), (true, .any)] true (Bv true)), (6, .call [(true, .any), (true, .any), (true, .any)] true (Bv false))] [2] [] [Bv false] [] [Con Tryz.prog 43 [I t.Points, I 2, I 24] true (Bv true) ∧ True, Con Tryz.prog 43 [I t.Most, I 1, I 8] true (Bv false) ∧ True] hB ⟨⟨(con_bool h1 (within_ok t.Points 2 24)), trivial⟩, ⟨(con_bool h2 (within_ok t.Most 1 8)), trivial⟩, trivial⟩ ?_
   refine ae_then ?_
   refine aw_ret ?_
   refine ae_ret hB (Bv false) (by kernel_rfl) (.inl (by first | rfl | (refine congrArg Bv ?_; simp [okSet, *]; done) | (refine congrArg Bv ?_; simp [okSet, *]; omega) | (refine congrArg Bv ?_; simp_all [okSet]; done) | (refine congrArg Bv ?_; simp_all [okSet]; omega))) rfl (fun _ => trivial)
  refine aw_r [(2, .call [(true, .any), (true, .any), (true, .any)] true (Bv false))] [2] [] [Bv false] [] [Con Tryz.prog 43 [I t.Points, I 2, I 24] true (Bv false) ∧ True] hB ⟨⟨(con_bool h1 (within_ok t.Points 2 24)), trivial⟩, trivial⟩ ?_
  refine ae_then ?_
  refine aw_ret ?_
  refine ae_ret hB (Bv false) (by kernel_rfl) (.inl (by first | rfl | (refine congrArg Bv ?_; simp [okSet, *]; done) | (refine congrArg Bv ?_; simp [okSet, *]; omega) | (refine congrArg Bv ?_; simp_all [okSet]; done) | (refine congrArg Bv ?_; simp_all [okSet]; omega))) rfl (fun _ => trivial)



-- impl.joinBoxes
theorem joinBoxes_ok (a : Box) (b : Box) : Con Tryz.prog 126 [agBox a, agBox b] true (agBox (joinB a b)) := by
  refine fn_ok (fn := Tryz.f126) (nt := 26) Tryz.func126 rfl rfl rfl rfl (by simp [taggedL, tagged]) fun B hB => ?_
  refine aR [(0, .new 2), (1, .new 3), (2, .new 4)] [2, 3, 4] [2, 3, 4] [.ref 2 0, .ref 3 0, .ref 4 0] [some (bxBox a), some (bxBox b), some (.box [I 0, I 0, I 0, I 0])] [] hB trivial ?_
  refine aR [] [4] [4] [.ref 4 0] [some (.box [I (min a.X1 b.X1), I (min a.Y1 b.Y1), I (max a.X2 b.X2), I (max a.Y2 b.Y2)])] [] hB trivial ?_
  refine aw_ret ?_
  refine ae_ret hB (.agg [I (min a.X1 b.X1), I (min a.Y1 b.Y1), I (max a.X2 b.X2), I (max a.Y2 b.Y2)]) (by kernel_rfl) (.inl (by first | rfl | (refine congrArg Bv ?_; simp [*]; done) | (refine congrArg Bv ?_; simp [*]; omega) | (refine congrArg Bv ?_; simp_all []; done) | (refine congrArg Bv ?_; simp_all []; omega))) rfl (fun _ => (by simp [tagged, taggedL]))



-- impl.boxOfStroke
theorem boxOfStroke_ok (s : Stroke) (ok : okStroke' s = true) : Con Tryz.prog 125 [.agg [slPoint false s.Points]] true (agBox (boxS s.Points s.Points.length)) := by
  have hln := okS_len ok
  refine fn_ok (fn := Tryz.f125) (nt := 38) Tryz.func125 rfl rfl rfl rfl (by simp [taggedL, tagged, tagPoint]) fun B hB => ?_
  refine aw_lens (x := .agg [slPoint false s.Points]) 0 rfl (fun len_s => ?_)
  simp [LenOK, LenL, cPoint, fPoint, slPoint] at len_s
  refine aR [(0, .new 1), (1, .new 2)] [1, 2] [1, 2] [.ref 1 0, .ref 2 0] [some (.box [slPoint false s.Points]), some (.box [I 0, I 0, I 0, I 0])] [] hB trivial ?_
  refine aR [(1, .call [(true, .any)] true (agPoint (at_ s.Points 0))), (2, .new 3)] [1, 2, 3] [1, 2, 3] [.ref 1 0, .ref 2 0, .ref 3 0] [some (.box [slPoint false s.Points]), some (.box [I 0, I 0, I 0, I 0]), some (bxPoint (at_ s.Points 0))] [Con Tryz.prog 48 [.agg [slPoint false s.Points]] true (agPoint (at_ s.Points 0)) ∧ True] hB ⟨⟨(firstOf_ok s ok), trivial⟩, trivial⟩ ?_
  refine aR [(9, .new 4)] [1, 2, 4] [1, 2, 4] [.ref 1 0, .ref 2 0, .ref 4 0] [some (.box [slPoint false s.Points]), some (.box [I 0, I 0, I 0, I 0]), some (.box [I ((at_ s.Points 0).X), I ((at_ s.Points 0).Y), I ((at_ s.Points 0).X), I ((at_ s.Points 0).Y)])] [] hB trivial ?_
  refine aw_seq ?_
  refine aR [] [2, 4, 19, 20, 21] [2, 4] [.ref 2 0, .ref 4 0, slPoint false s.Points, I (s.Points.length : Int), I 0] [some (.box [I 0, I 0, I 0, I 0]), some (.box [I ((at_ s.Points 0).X), I ((at_ s.Points 0).Y), I ((at_ s.Points 0).X), I ((at_ s.Points 0).Y)])] [] hB trivial ?_
  refine aw_block ?_
  refine aw_loop (fun gn gσ => ∃ (t21 : Int) (x1 : Int) (y1 : Int) (x2 : Int) (y2 : Int), gn = ((s.Points.length : Int) - t21).toNat ∧ (0 ≤ t21 ∧ t21 ≤ (s.Points.length : Int)) ∧ (Box.mk x1 y1 x2 y2 = boxS s.Points t21.toNat) ∧ gσ = mkS [(2, .ref 2 0), (4, .ref 4 0), (19, slPoint false s.Points), (20, I (s.Points.length : Int)), (21, I t21)] [(2, .box [I 0, I 0, I 0, I 0]), (4, .box [I x1, I y1, I x2, I y2])]) (((s.Points.length : Int) - 0).toNat) ⟨0, (at_ s.Points 0).X, (at_ s.Points 0).Y, (at_ s.Points 0).X, (at_ s.Points 0).Y, rfl, (by omega), (by first | rfl | exact (boxS_one _).symm), rfl⟩ (fun gn gσ hI => ?_)
  obtain ⟨t21, x1, y1, x2, y2, rfl, hi0, hb1, rfl⟩ := hI
  refine aw_seq ?_
  by_cases h1 : t21 < (s.Points.length : Int)
  ·have hi : t21.toNat < s.Points.length := by omega
   refine aw_r [(0, .dec true)] [2, 4, 19, 20, 21, 22] [2, 4] [.ref 2 0, .ref 4 0, slPoint false s.Points, I (s.Points.length : Int), I t21, Bv true] [some (.box [I 0, I 0, I 0, I 0]), some (.box [I x1, I y1, I x2, I y2])] [t21 < (s.Points.length : Int)] hB ⟨h1, trivial⟩ ?_
   refine ae_then ?_
   refine aw_seq ?_
   refine aw_true rfl ?_
   refine aw_skip ?_
   refine ae_then ?_
   refine aw_seq ?_
   refine aw_block ?_
   refine aR [(2, .new 6)] [2, 4, 6, 19, 20, 21] [2, 4, 6] [.ref 2 0, .ref 4 0, .ref 6 0, slPoint false s.Points, I (s.Points.length : Int), I t21] [some (.box [I 0, I 0, I 0, I 0]), some (.box [I x1, I y1, I x2, I y2]), some (bxPoint (at_ s.Points t21.toNat))] [(0 : Int) ≤ t21 ∧ t21 < (s.Points.length : Int)] hB ⟨⟨(by omega), (by omega)⟩, trivial⟩ ?_
   refine aw_r [(10, .call [(true, .any), (true, .any)] true (agBox (joinB (Box.mk x1 y1 x2 y2) (Box.mk ((at_ s.Points t21.toNat).X) ((at_ s.Points t21.toNat).Y) ((at_ s.Points t21.toNat).X) ((at_ s.Points t21.toNat).Y)))))] [2, 4, 19, 20, 21] [2, 4] [.ref 2 0, .ref 4 0, slPoint false s.Points, I (s.Points.length : Int), I t21] [some (.box [I 0, I 0, I 0, I 0]), some (bxBox (joinB (Box.mk x1 y1 x2 y2) (Box.mk ((at_ s.Points t21.toNat).X) ((at_ s.Points t21.toNat).Y) ((at_ s.Points t21.toNat).X) ((at_ s.Points t21.toNat).Y))))] [Con Tryz.prog 126 [.agg [I x1, I y1, I x2, I y2], .agg [I ((at_ s.Points t21.toNat).X), I ((at_ s.Points t21.toNat).Y), I ((at_ s.Points t21.toNat).X), I ((at_ s.Points t21.toNat).Y)]] true (agBox (joinB (Box.mk x1 y1 x2 y2) (Box.mk ((at_ s.Points t21.toNat).X) ((at_ s.Points t21.toNat).Y) ((at_ s.Points t21.toNat).X) ((at_ s.Points t21.toNat).Y)))) ∧ True] hB ⟨⟨(joinBoxes_ok (Box.mk x1 y1 x2 y2) (Box.mk ((at_ s.Points t21.toNat).X) ((at_ s.Points t21.toNat).Y) ((at_ s.Points t21.toNat).X) ((at_ s.Points t21.toNat).Y))), trivial⟩, trivial⟩ ?_
   refine ae_block 1 ?_
   refine ae_then ?_
   refine aw_r [] [2, 4, 19, 20, 21] [2, 4] [.ref 2 0, .ref 4 0, slPoint false s.Points, I (s.Points.length : Int), I (t21 + 1)] [some (.box [I 0, I 0, I 0, I 0]), some (bxBox (joinB (Box.mk x1 y1 x2 y2) (Box.mk ((at_ s.Points t21.toNat).X) ((at_ s.Points t21.toNat).Y) ((at_ s.Points t21.toNat).X) ((at_ s.Points t21.toNat).Y))))] [inR .i64 (t21 + 1)] hB ⟨(inR_i64 (by omega) (by omega)), trivial⟩ ?_
   refine ae_weak hB [] (T := [(2, .ref 2 0), (4, .ref 4 0), (19, slPoint false s.Points), (20, I (s.Points.length : Int)), (21, I (t21 + 1))]) (O := [(2, .box [I 0, I 0, I 0, I 0]), (4, .box [I ((joinB (Box.mk x1 y1 x2 y2) (Box.mk ((at_ s.Points t21.toNat).X) ((at_ s.Points t21.toNat).Y) ((at_ s.Points t21.toNat).X) ((at_ s.Points t21.toNat).Y))).X1), I ((joinB (Box.mk x1 y1 x2 y2) (Box.mk ((at_ s.Points t21.toNat).X) ((at_ s.Points t21.toNat).Y) ((at_ s.Points t21.toNat).X) ((at_ s.Points t21.toNat).Y))).Y1), I ((joinB (Box.mk x1 y1 x2 y2) (Box.mk ((at_ s.Points t21.toNat).X) ((at_ s.Points t21.toNat).Y) ((at_ s.Points t21.toNat).X) ((at_ s.Points t21.toNat).Y))).X2), I ((joinB (Box.mk x1 y1 x2 y2) (Box.mk ((at_ s.Points t21.toNat).X) ((at_ s.Points t21.toNat).Y) ((at_ s.Points t21.toNat).X) ((at_ s.Points t21.toNat).Y))).Y2)])]) rfl (⟨.inl rfl, .inl rfl, .inl rfl, .inl rfl, .inl rfl, trivial⟩) (⟨.inl rfl, .inr ⟨rfl, ⟨rfl, ⟨rfl, ⟨rfl, rfl⟩⟩⟩⟩, trivial⟩) (ae_again _ (by omega) ⟨(t21 + 1), (joinB (Box.mk x1 y1 x2 y2) (Box.mk ((at_ s.Points t21.toNat).X) ((at_ s.Points t21.toNat).Y) ((at_ s.Points t21.toNat).X) ((at_ s.Points t21.toNat).Y))).X1, (joinB (Box.mk x1 y1 x2 y2) (Box.mk ((at_ s.Points t21.toNat).X) ((at_ s.Points t21.toNat).Y) ((at_ s.Points t21.toNat).X) ((at_ s.Points t21.toNat).Y))).Y1, (joinB (Box.mk x1 y1 x2 y2) (Box.mk ((at_ s.Points t21.toNat).X) ((at_ s.Points t21.toNat).Y) ((at_ s.Points t21.toNat).X) ((at_ s.Points t21.toNat).Y))).X2, (joinB (Box.mk x1 y1 x2 y2) (Box.mk ((at_ s.Points t21.toNat).X) ((at_ s.Points t21.toNat).Y) ((at_ s.Points t21.toNat).X) ((at_ s.Points t21.toNat).Y))).Y2, rfl, (by omega), (by rw [boxS_succ (by omega), ← hb1]; rfl), rfl⟩)
  have hie : t21.toNat = s.Points.length := by omega
  rw [hie] at hb1
  refine aw_r [(0, .dec false)] [2, 4, 19, 20, 21, 22] [2, 4] [.ref 2 0, .ref 4 0, slPoint false s.Points, I (s.Points.length : Int), I t21, Bv false] [some (.box [I 0, I 0, I 0, I 0]), some (.box [I x1, I y1, I x2, I y2])] [¬ (t21 < (s.Points.length : Int))] hB ⟨h1, trivial⟩ ?_
  refine ae_then ?_
  refine aw_seq ?_
  refine aw_false rfl ?_
  refine aw_exit ?_
  refine ae_exit_then ?_
  refine ae_exit_then ?_
  refine ae_exit_same ?_
  refine ae_then ?_
  refine aR [] [2] [2] [.ref 2 0] [some (.box [I x1, I y1, I x2, I y2])] [] hB trivial ?_
  refine aw_ret ?_
  refine ae_ret hB (.agg [I x1, I y1, I x2, I y2]) (by kernel_rfl) (.inl (by rw [← hb1])) rfl (fun _ => (by simp [tagged, taggedL]))



-- impl.boxOfInk
theorem boxOfInk_ok (ik : Ink) (ok : okInk' ik = true) (h0 : 1 ≤ ik.Strokes.length) : Con Tryz.prog 83 [.agg [slStroke false ik.Strokes]] true (agBox (inkB ik.Strokes ik.Strokes.length)) := by
  refine fn_ok (fn := Tryz.f83) (nt := 24) Tryz.func83 rfl rfl rfl rfl (by simp [taggedL, tagged, tagStroke]) fun B hB => ?_
  refine aw_lens (x := .agg [slStroke false ik.Strokes]) 0 rfl (fun len_ik => ?_)
  simp [LenOK, LenL, cPoint, cStroke, fPoint, fStroke, slPoint, slStroke] at len_ik
  refine aR [(0, .new 1), (1, .new 2)] [1, 2] [1, 2] [.ref 1 0, .ref 2 0] [some (.box [slStroke false ik.Strokes]), some (.box [I 0, I 0, I 0, I 0])] [] hB trivial ?_
  refine aR [(4, .call [(true, .any)] true (agBox (boxS (at_ ik.Strokes 0).Points (at_ ik.Strokes 0).Points.length))), (5, .new 3)] [1, 2, 3] [1, 2, 3] [.ref 1 0, .ref 2 0, .ref 3 0] [some (.box [slStroke false ik.Strokes]), some (.box [I 0, I 0, I 0, I 0]), some (bxBox (boxS (at_ ik.Strokes 0).Points (at_ ik.Strokes 0).Points.length))] [(0 : Int) ≤ 0 ∧ 0 < (ik.Strokes.length : Int), Con Tryz.prog 125 [.agg [slPoint false ((at_ ik.Strokes 0).Points)]] true (agBox (boxS (at_ ik.Strokes 0).Points (at_ ik.Strokes 0).Points.length)) ∧ True] hB ⟨⟨(by omega), (by omega)⟩, ⟨(boxOfStroke_ok (at_ ik.Strokes 0) (okI_all ok _ (by omega))), trivial⟩, trivial⟩ ?_
  refine aw_seq ?_
  refine aR [] [2, 3, 12, 13, 14] [2, 3] [.ref 2 0, .ref 3 0, slStroke false ik.Strokes, I (ik.Strokes.length : Int), I 0] [some (.box [I 0, I 0, I 0, I 0]), some (bxBox (boxS (at_ ik.Strokes 0).Points (at_ ik.Strokes 0).Points.length))] [] hB trivial ?_
  refine aw_block ?_
  refine aw_weak hB [] (T := [(2, .ref 2 0), (3, .ref 3 0), (12, slStroke false ik.Strokes), (13, I (ik.Strokes.length : Int)), (14, I 0)]) (O := [(2, .box [I 0, I 0, I 0, I 0]), (3, .box [I ((boxS (at_ ik.Strokes 0).Points (at_ ik.Strokes 0).Points.length).X1), I ((boxS (at_ ik.Strokes 0).Points (at_ ik.Strokes 0).Points.length).Y1), I ((boxS (at_ ik.Strokes 0).Points (at_ ik.Strokes 0).Points.length).X2), I ((boxS (at_ ik.Strokes 0).Points (at_ ik.Strokes 0).Points.length).Y2)])]) rfl (⟨.inl rfl, .inl rfl, .inl rfl, .inl rfl, .inl rfl, trivial⟩) (⟨.inl rfl, .inr ⟨rfl, ⟨rfl, ⟨rfl, ⟨rfl, rfl⟩⟩⟩⟩, trivial⟩) ?_
  refine aw_loop (fun gn gσ => ∃ (t14 : Int) (x1 : Int) (y1 : Int) (x2 : Int) (y2 : Int), gn = ((ik.Strokes.length : Int) - t14).toNat ∧ (0 ≤ t14 ∧ t14 ≤ (ik.Strokes.length : Int)) ∧ (Box.mk x1 y1 x2 y2 = inkB ik.Strokes t14.toNat) ∧ gσ = mkS [(2, .ref 2 0), (3, .ref 3 0), (12, slStroke false ik.Strokes), (13, I (ik.Strokes.length : Int)), (14, I t14)] [(2, .box [I 0, I 0, I 0, I 0]), (3, .box [I x1, I y1, I x2, I y2])]) (((ik.Strokes.length : Int) - 0).toNat) ⟨0, (boxS (at_ ik.Strokes 0).Points (at_ ik.Strokes 0).Points.length).X1, (boxS (at_ ik.Strokes 0).Points (at_ ik.Strokes 0).Points.length).Y1, (boxS (at_ ik.Strokes 0).Points (at_ ik.Strokes 0).Points.length).X2, (boxS (at_ ik.Strokes 0).Points (at_ ik.Strokes 0).Points.length).Y2, rfl, (by omega), (by first | rfl | exact (inkB_one _).symm), rfl⟩ (fun gn gσ hI => ?_)
  obtain ⟨t14, x1, y1, x2, y2, rfl, hi0, hb1, rfl⟩ := hI
  refine aw_seq ?_
  by_cases h1 : t14 < (ik.Strokes.length : Int)
  ·have hi : t14.toNat < ik.Strokes.length := by omega
   refine aw_r [(0, .dec true)] [2, 3, 12, 13, 14, 15] [2, 3] [.ref 2 0, .ref 3 0, slStroke false ik.Strokes, I (ik.Strokes.length : Int), I t14, Bv true] [some (.box [I 0, I 0, I 0, I 0]), some (.box [I x1, I y1, I x2, I y2])] [t14 < (ik.Strokes.length : Int)] hB ⟨h1, trivial⟩ ?_
   refine ae_then ?_
   refine aw_seq ?_
   refine aw_true rfl ?_
   refine aw_skip ?_
   refine ae_then ?_
   refine aw_seq ?_
   refine aw_block ?_
   refine aR [(2, .new 5)] [2, 3, 5, 12, 13, 14] [2, 3, 5] [.ref 2 0, .ref 3 0, .ref 5 0, slStroke false ik.Strokes, I (ik.Strokes.length : Int), I t14] [some (.box [I 0, I 0, I 0, I 0]), some (.box [I x1, I y1, I x2, I y2]), some (.box [slPoint false ((at_ ik.Strokes t14.toNat).Points)])] [(0 : Int) ≤ t14 ∧ t14 < (ik.Strokes.length : Int)] hB ⟨⟨(by omega), (by omega)⟩, trivial⟩ ?_
   refine aw_r [(2, .call [(true, .any)] true (agBox (boxS (at_ ik.Strokes t14.toNat).Points (at_ ik.Strokes t14.toNat).Points.length))), (3, .call [(true, .any), (true, .any)] true (agBox (joinB (Box.mk x1 y1 x2 y2) (boxS (at_ ik.Strokes t14.toNat).Points (at_ ik.Strokes t14.toNat).Points.length))))] [2, 3, 12, 13, 14] [2, 3] [.ref 2 0, .ref 3 0, slStroke false ik.Strokes, I (ik.Strokes.length : Int), I t14] [some (.box [I 0, I 0, I 0, I 0]), some (bxBox (joinB (Box.mk x1 y1 x2 y2) (boxS (at_ ik.Strokes t14.toNat).Points (at_ ik.Strokes t14.toNat).Points.length)))] [Con Tryz.prog 125 [.agg [slPoint false ((at_ ik.Strokes t14.toNat).Points)]] true (agBox (boxS (at_ ik.Strokes t14.toNat).Points (at_ ik.Strokes t14.toNat).Points.length)) ∧ True, Con Tryz.prog 126 [.agg [I x1, I y1, I x2, I y2], agBox (boxS (at_ ik.Strokes t14.toNat).Points (at_ ik.Strokes t14.toNat).Points.length)] true (agBox (joinB (Box.mk x1 y1 x2 y2) (boxS (at_ ik.Strokes t14.toNat).Points (at_ ik.Strokes t14.toNat).Points.length))) ∧ True] hB ⟨⟨(boxOfStroke_ok (at_ ik.Strokes t14.toNat) (okI_all ok _ (by omega))), trivial⟩, ⟨(joinBoxes_ok (Box.mk x1 y1 x2 y2) (boxS (at_ ik.Strokes t14.toNat).Points (at_ ik.Strokes t14.toNat).Points.length)), trivial⟩, trivial⟩ ?_
   refine ae_block 1 ?_
   refine ae_then ?_
   refine aw_r [] [2, 3, 12, 13, 14] [2, 3] [.ref 2 0, .ref 3 0, slStroke false ik.Strokes, I (ik.Strokes.length : Int), I (t14 + 1)] [some (.box [I 0, I 0, I 0, I 0]), some (bxBox (joinB (Box.mk x1 y1 x2 y2) (boxS (at_ ik.Strokes t14.toNat).Points (at_ ik.Strokes t14.toNat).Points.length)))] [inR .i64 (t14 + 1)] hB ⟨(inR_i64 (by omega) (by omega)), trivial⟩ ?_
   refine ae_weak hB [] (T := [(2, .ref 2 0), (3, .ref 3 0), (12, slStroke false ik.Strokes), (13, I (ik.Strokes.length : Int)), (14, I (t14 + 1))]) (O := [(2, .box [I 0, I 0, I 0, I 0]), (3, .box [I ((joinB (Box.mk x1 y1 x2 y2) (boxS (at_ ik.Strokes t14.toNat).Points (at_ ik.Strokes t14.toNat).Points.length)).X1), I ((joinB (Box.mk x1 y1 x2 y2) (boxS (at_ ik.Strokes t14.toNat).Points (at_ ik.Strokes t14.toNat).Points.length)).Y1), I ((joinB (Box.mk x1 y1 x2 y2) (boxS (at_ ik.Strokes t14.toNat).Points (at_ ik.Strokes t14.toNat).Points.length)).X2), I ((joinB (Box.mk x1 y1 x2 y2) (boxS (at_ ik.Strokes t14.toNat).Points (at_ ik.Strokes t14.toNat).Points.length)).Y2)])]) rfl (⟨.inl rfl, .inl rfl, .inl rfl, .inl rfl, .inl rfl, trivial⟩) (⟨.inl rfl, .inr ⟨rfl, ⟨rfl, ⟨rfl, ⟨rfl, rfl⟩⟩⟩⟩, trivial⟩) (ae_again _ (by omega) ⟨(t14 + 1), (joinB (Box.mk x1 y1 x2 y2) (boxS (at_ ik.Strokes t14.toNat).Points (at_ ik.Strokes t14.toNat).Points.length)).X1, (joinB (Box.mk x1 y1 x2 y2) (boxS (at_ ik.Strokes t14.toNat).Points (at_ ik.Strokes t14.toNat).Points.length)).Y1, (joinB (Box.mk x1 y1 x2 y2) (boxS (at_ ik.Strokes t14.toNat).Points (at_ ik.Strokes t14.toNat).Points.length)).X2, (joinB (Box.mk x1 y1 x2 y2) (boxS (at_ ik.Strokes t14.toNat).Points (at_ ik.Strokes t14.toNat).Points.length)).Y2, rfl, (by omega), (by rw [inkB_succ (by omega), ← hb1]; rfl), rfl⟩)
  have hie : t14.toNat = ik.Strokes.length := by omega
  rw [hie] at hb1
  refine aw_r [(0, .dec false)] [2, 3, 12, 13, 14, 15] [2, 3] [.ref 2 0, .ref 3 0, slStroke false ik.Strokes, I (ik.Strokes.length : Int), I t14, Bv false] [some (.box [I 0, I 0, I 0, I 0]), some (.box [I x1, I y1, I x2, I y2])] [¬ (t14 < (ik.Strokes.length : Int))] hB ⟨h1, trivial⟩ ?_
  refine ae_then ?_
  refine aw_seq ?_
  refine aw_false rfl ?_
  refine aw_exit ?_
  refine ae_exit_then ?_
  refine ae_exit_then ?_
  refine ae_exit_same ?_
  refine ae_then ?_
  refine aR [] [2] [2] [.ref 2 0] [some (.box [I x1, I y1, I x2, I y2])] [] hB trivial ?_
  refine aw_ret ?_
  refine ae_ret hB (.agg [I x1, I y1, I x2, I y2]) (by kernel_rfl) (.inl (by rw [← hb1])) rfl (fun _ => (by simp [tagged, taggedL]))



-- impl.squared
theorem squared_ok (a : Point) (b : Point) (ha : okP a = true) (hb : okP b = true) : Con Tryz.prog 200 [agPoint a, agPoint b] true (I (farQ a b)) := by
  have ha' := okP_iff.1 ha
  have hb' := okP_iff.1 hb
  have hfb := far_bd ha hb
  refine fn_ok (fn := Tryz.f200) (nt := 28) Tryz.func200 rfl rfl rfl rfl (by simp [taggedL, tagged]) fun B hB => ?_
  refine aR [(0, .new 2), (1, .new 3)] [2, 3] [2, 3] [.ref 2 0, .ref 3 0] [some (bxPoint a), some (bxPoint b)] [] hB trivial ?_
  refine aR [] [4] [] [I (((a.X - b.X) * (a.X - b.X)) + ((a.Y - b.Y) * (a.Y - b.Y)))] [] [inR .i64 (a.X - b.X), inR .i64 (a.X - b.X), inR .i64 ((a.X - b.X) * (a.X - b.X)), inR .i64 (a.Y - b.Y), inR .i64 (a.Y - b.Y), inR .i64 ((a.Y - b.Y) * (a.Y - b.Y)), inR .i64 (((a.X - b.X) * (a.X - b.X)) + ((a.Y - b.Y) * (a.Y - b.Y)))] hB ⟨(inR_i64 (by omega) (by omega)), (inR_i64 (by omega) (by omega)), (inR_i64 (by omega) (by omega)), (inR_i64 (by omega) (by omega)), (inR_i64 (by omega) (by omega)), (inR_i64 (by omega) (by omega)), (inR_i64 (by omega) (by omega)), trivial⟩ ?_
  refine aw_ret ?_
  refine ae_ret hB (I (((a.X - b.X) * (a.X - b.X)) + ((a.Y - b.Y) * (a.Y - b.Y)))) (by kernel_rfl) (.inl (by first | rfl | (refine congrArg Bv ?_; simp [*]; done) | (refine congrArg Bv ?_; simp [*]; omega) | (refine congrArg Bv ?_; simp_all []; done) | (refine congrArg Bv ?_; simp_all []; omega))) rfl (fun _ => trivial)



-- bits.Len64
theorem len64_ok (x : Int) (h : 0 ≤ x ∧ x ≤ 18446744073709551615) : Con Tryz.prog 114 [.val (.int .u64 x)] true (I ((Lib.bitLen x.toNat : Nat) : Int)) := by
  refine con_of_calls (vals := [.int .u64 x]) fun w _ => ?_
  refine (Tryz.bits_Len64 x w h.1 h.2).mono ?_
  rintro e w' ⟨rfl, rfl⟩
  exact ⟨rfl, Below.refl _ _⟩



-- impl.rootOf
theorem rootOf_ok (n : Int) (hn : 0 ≤ n ∧ n ≤ 1000000000000000) : Con Tryz.prog 199 [I n] true (I (rootI n)) := by
  refine fn_ok (fn := Tryz.f199) (nt := 30) Tryz.func199 rfl rfl rfl rfl (by simp [taggedL, tagged]) fun B hB => ?_
  refine aR [] [0] [] [I n] [] [] hB trivial ?_
  refine aw_seq ?_
  refine aw_seq ?_
  by_cases h1 : n = 0
  ·refine aw_r [(1, .dec true)] [0, 6] [] [I n, Bv true] [] [n = 0] hB ⟨h1, trivial⟩ ?_
   refine ae_then ?_
   refine aw_true rfl ?_
   refine aR [] [2] [] [I 0] [] [] hB trivial ?_
   refine aw_ret ?_
   refine ae_ret_then ?_
   refine ae_ret hB (I 0) (by kernel_rfl) (.inl (by first | (exact congrArg I (Eq.symm (rootI_eq (by omega) hfin hr1))) | (refine congrArg I ?_; rw [h1]; rfl))) rfl (fun _ => trivial)
  obtain ⟨hb1, hb2, hb3⟩ := root0 hn.1 hn.2
  have hq0 := div_bd (r := (1 * ((2 ^ ((((Lib.bitLen n.toNat : Nat) : Int) + 1) / 2).toNat : Nat) : Int))) hn.1 (by omega)
  refine aw_r [(1, .dec false)] [0, 6] [] [I n, Bv false] [] [¬ (n = 0)] hB ⟨h1, trivial⟩ ?_
  refine ae_then ?_
  refine aw_false rfl ?_
  refine aw_skip ?_
  refine ae_then ?_
  refine aR [(2, .call [(true, .any)] true (I ((Lib.bitLen n.toNat : Nat) : Int))), (4, .nn)] [0, 3] [] [I n, I (1 * ((2 ^ ((((Lib.bitLen n.toNat : Nat) : Int) + 1) / 2).toNat : Nat) : Int))] [] [inR .u64 n, Con Tryz.prog 114 [.val (.int .u64 n)] true (I ((Lib.bitLen n.toNat : Nat) : Int)) ∧ True, inR .i64 (((Lib.bitLen n.toNat : Nat) : Int) + 1), (0 : Int) ≤ (((Lib.bitLen n.toNat : Nat) : Int) + 1) ∧ (0 : Int) < 2 ∧ inR .i64 (((Lib.bitLen n.toNat : Nat) : Int) + 1), (0 : Int) ≤ ((((Lib.bitLen n.toNat : Nat) : Int) + 1) / 2) ∧ ((((Lib.bitLen n.toNat : Nat) : Int) + 1) / 2) ≤ ((IntKind.bits .i64 : Nat) : Int) ∧ inR .i64 (1 * ((2 ^ ((((Lib.bitLen n.toNat : Nat) : Int) + 1) / 2).toNat : Nat) : Int))] hB ⟨(inR_u64 (by omega) (by omega)), ⟨(len64_ok n (by omega)), trivial⟩, (inR_i64 (by omega) (by omega)), ⟨(by omega), (by omega), (inR_i64 (by omega) (by omega))⟩, ⟨(by omega), (show ((((Lib.bitLen n.toNat : Nat) : Int) + 1) / 2) ≤ (64 : Int) from by omega), (inR_i64 (by omega) (by omega))⟩, trivial⟩ ?_
  refine aw_seq ?_
  refine aR [(3, .nn), (5, .nn)] [0, 3, 4] [] [I n, I (1 * ((2 ^ ((((Lib.bitLen n.toNat : Nat) : Int) + 1) / 2).toNat : Nat) : Int)), I (((1 * ((2 ^ ((((Lib.bitLen n.toNat : Nat) : Int) + 1) / 2).toNat : Nat) : Int)) + (n / (1 * ((2 ^ ((((Lib.bitLen n.toNat : Nat) : Int) + 1) / 2).toNat : Nat) : Int)))) / 2)] [] [(0 : Int) ≤ n ∧ (0 : Int) < (1 * ((2 ^ ((((Lib.bitLen n.toNat : Nat) : Int) + 1) / 2).toNat : Nat) : Int)) ∧ inR .i64 n, inR .i64 ((1 * ((2 ^ ((((Lib.bitLen n.toNat : Nat) : Int) + 1) / 2).toNat : Nat) : Int)) + (n / (1 * ((2 ^ ((((Lib.bitLen n.toNat : Nat) : Int) + 1) / 2).toNat : Nat) : Int)))), (0 : Int) ≤ ((1 * ((2 ^ ((((Lib.bitLen n.toNat : Nat) : Int) + 1) / 2).toNat : Nat) : Int)) + (n / (1 * ((2 ^ ((((Lib.bitLen n.toNat : Nat) : Int) + 1) / 2).toNat : Nat) : Int)))) ∧ (0 : Int) < 2 ∧ inR .i64 ((1 * ((2 ^ ((((Lib.bitLen n.toNat : Nat) : Int) + 1) / 2).toNat : Nat) : Int)) + (n / (1 * ((2 ^ ((((Lib.bitLen n.toNat : Nat) : Int) + 1) / 2).toNat : Nat) : Int))))] hB ⟨⟨(by omega), (by omega), (inR_i64 (by omega) (by omega))⟩, (inR_i64 (by omega) (by omega)), ⟨(by omega), (by omega), (inR_i64 (by omega) (by omega))⟩, trivial⟩ ?_
  refine aw_block ?_
  refine aw_loop (fun gn gσ => ∃ (r : Int) (next : Int), gn = r.toNat ∧ (0 < r ∧ r ≤ 33554432) ∧ (n < (r + 1) * (r + 1)) ∧ (next = (r + n / r) / 2) ∧ gσ = mkS [(0, I n), (3, I r), (4, I next)] []) ((1 * ((2 ^ ((((Lib.bitLen n.toNat : Nat) : Int) + 1) / 2).toNat : Nat) : Int)).toNat) ⟨(1 * ((2 ^ ((((Lib.bitLen n.toNat : Nat) : Int) + 1) / 2).toNat : Nat) : Int)), (((1 * ((2 ^ ((((Lib.bitLen n.toNat : Nat) : Int) + 1) / 2).toNat : Nat) : Int)) + (n / (1 * ((2 ^ ((((Lib.bitLen n.toNat : Nat) : Int) + 1) / 2).toNat : Nat) : Int)))) / 2), rfl, (by omega), (by exact hb3), (by rfl), rfl⟩ (fun gn gσ hI => ?_)
  obtain ⟨r, next, rfl, hr0, hr1, hr2, rfl⟩ := hI
  refine aw_seq ?_
  refine aw_seq ?_
  by_cases h2 : next < r
  ·have hn1 := newton (n := n) hr0.1
   rw [← hr2] at hn1
   have hq1 := div_bd (r := r) hn.1 hr0.1
   have hnp := newton_pos (q := next) (by omega) (by omega) hn1
   have hq2 := div_bd (r := next) hn.1 hnp
   refine aw_r [(2, .dec true)] [0, 3, 4, 21] [] [I n, I r, I next, Bv true] [] [next < r] hB ⟨h2, trivial⟩ ?_
   refine ae_then ?_
   refine aw_true rfl ?_
   refine aw_skip ?_
   refine ae_then ?_
   refine aw_seq ?_
   refine aw_block ?_
   refine aw_r [] [0, 3] [] [I n, I next] [] [] hB trivial ?_
   refine ae_block 1 ?_
   refine ae_then ?_
   refine aw_r [(3, .nn), (5, .nn)] [0, 3, 4] [] [I n, I next, I ((next + (n / next)) / 2)] [] [(0 : Int) ≤ n ∧ (0 : Int) < next ∧ inR .i64 n, inR .i64 (next + (n / next)), (0 : Int) ≤ (next + (n / next)) ∧ (0 : Int) < 2 ∧ inR .i64 (next + (n / next))] hB ⟨⟨(by omega), (by omega), (inR_i64 (by omega) (by omega))⟩, (inR_i64 (by omega) (by omega)), ⟨(by omega), (by omega), (inR_i64 (by omega) (by omega))⟩, trivial⟩ ?_
   exact ae_again _ (by omega) ⟨next, ((next + (n / next)) / 2), rfl, (by omega), (by exact hn1), (by rfl), rfl⟩
  have hfin := newton_end hr0.1 (by rw [← hr2]; exact h2)
  refine aw_r [(2, .dec false)] [0, 3, 4, 21] [] [I n, I r, I next, Bv false] [] [¬ (next < r)] hB ⟨h2, trivial⟩ ?_
  refine ae_then ?_
  refine aw_false rfl ?_
  refine aw_exit ?_
  refine ae_exit_then ?_
  refine ae_exit_then ?_
  refine ae_exit_same ?_
  refine ae_then ?_
  refine aR [] [2] [] [I r] [] [] hB trivial ?_
  refine aw_ret ?_
  refine ae_ret hB (I r) (by kernel_rfl) (.inl (by first | (exact congrArg I (Eq.symm (rootI_eq (by omega) hfin hr1))) | (refine congrArg I ?_; rw [h1]; rfl))) rfl (fun _ => trivial)



-- impl.lengthOf
theorem lengthOf_ok (a : Point) (b : Point) (ha : okP a = true) (hb : okP b = true) : Con Tryz.prog 185 [agPoint a, agPoint b] true (I (segI a b)) := by
  have ha' := okP_iff.1 ha
  have hb' := okP_iff.1 hb
  have hfb := far_bd ha hb
  have hlb := segI_bd ha hb
  refine fn_ok (fn := Tryz.f185) (nt := 10) Tryz.func185 rfl rfl rfl rfl (by simp [taggedL, tagged]) fun B hB => ?_
  refine aR [(0, .new 2), (1, .new 3)] [2, 3] [2, 3] [.ref 2 0, .ref 3 0] [some (bxPoint a), some (bxPoint b)] [] hB trivial ?_
  refine aR [(2, .call [(true, .any), (true, .any)] true (I (farQ a b))), (4, .call [(true, .any)] true (I (rootI (256 * (farQ a b)))))] [4] [] [I (rootI (256 * (farQ a b)))] [] [Con Tryz.prog 200 [agPoint a, agPoint b] true (I (farQ a b)) ∧ True, inR .i64 (256 * (farQ a b)), Con Tryz.prog 199 [I (256 * (farQ a b))] true (I (rootI (256 * (farQ a b)))) ∧ True] hB ⟨⟨(squared_ok a b ha hb), trivial⟩, (inR_i64 (by omega) (by omega)), ⟨(rootOf_ok (256 * (farQ a b)) (by omega)), trivial⟩, trivial⟩ ?_
  refine aw_ret ?_
  refine ae_ret hB (I (rootI (256 * (farQ a b)))) (by kernel_rfl) (.inl (by first | rfl | (refine congrArg Bv ?_; simp [*]; done) | (refine congrArg Bv ?_; simp [*]; omega) | (refine congrArg Bv ?_; simp_all []; done) | (refine congrArg Bv ?_; simp_all []; omega))) rfl (fun _ => trivial)



-- impl.arcsOf
theorem arcsOf_ok (s : Stroke) (ok : okStroke' s = true) : Con Tryz.prog 162 [.agg [slPoint false s.Points]] true (slI true (arcsL s.Points s.Points.length)) := by
  have hln := okS_len ok
  refine fn_ok (fn := Tryz.f162) (nt := 35) Tryz.func162 rfl rfl rfl rfl (by simp [taggedL, tagged, tagPoint]) fun B hB => ?_
  refine aw_lens (x := .agg [slPoint false s.Points]) 0 rfl (fun len_s => ?_)
  simp [LenOK, LenL, cPoint, fPoint, slPoint] at len_s
  refine aR [(0, .new 1)] [1] [1] [.ref 1 0] [some (.box [slPoint false s.Points])] [] hB trivial ?_
  refine aR [(0, .new 5)] [1, 3] [1, 5] [.ref 1 0, .arr 5] [some (.box [slPoint false s.Points]), some (.arr 1 1 (litF [I 0] 1))] [] hB trivial ?_
  refine aw_seq ?_
  refine aR [] [1, 3, 4] [1, 5] [.ref 1 0, .arr 5, I 1] [some (.box [slPoint false s.Points]), some (.arr 1 1 (litF [I 0] 1))] [] hB trivial ?_
  refine aw_block ?_
  refine aw_weak hB [] (T := [(1, .ref 1 0), (3, .arr 5), (4, I 1)]) (O := [(1, .box [slPoint false s.Points]), (5, tAI ([0]))]) rfl (⟨.inl rfl, .inl rfl, .inl rfl, trivial⟩) (⟨.inl rfl, .inr ⟨rfl, (by first | rfl | (simp; done) | (simp; omega) | omega), fun i_ hi_ => .inl (match i_, hi_ with | 0, _ => rfl | (i + 1), h => absurd h (by simp))⟩, trivial⟩) ?_
  refine aw_loop (fun gn gσ => ∃ (arcs : List Int) (k : Int), gn = ((s.Points.length : Int) - k).toNat ∧ (1 ≤ k ∧ k ≤ (s.Points.length : Int)) ∧ (arcs = arcsL s.Points k.toNat) ∧ gσ = mkS [(1, .ref 1 0), (3, .arr 5), (4, I k)] [(1, .box [slPoint false s.Points]), (5, tAI arcs)]) (((s.Points.length : Int) - 1).toNat) ⟨[0], 1, rfl, (by omega), (by rfl), rfl⟩ (fun gn gσ hI => ?_)
  obtain ⟨arcs, k, rfl, hi0, hs0, rfl⟩ := hI
  refine aw_seq ?_
  refine aw_seq ?_
  by_cases h1 : k < (s.Points.length : Int)
  ·have hi : k.toNat < s.Points.length := by omega
   have hi2 : (k - 1).toNat < s.Points.length := by omega
   have hp1 := okS_at ok hi2
   have hp2 := okS_at ok hi
   have hlb := segI_bd hp1 hp2
   have hal : arcs.length = k.toNat := by rw [hs0, arcsL_len]
   have hav : at_ arcs (k - 1).toNat = sumS s.Points k.toNat := by rw [hs0, arcsL_at (by omega)]; congr 1; omega
   have hsb := sumS_bd ok k.toNat (by omega)
   refine aw_r [(4, .dec true)] [1, 3, 4, 10] [1, 5] [.ref 1 0, .arr 5, I k, Bv true] [some (.box [slPoint false s.Points]), some (tAI arcs)] [k < (s.Points.length : Int)] hB ⟨h1, trivial⟩ ?_
   refine ae_then ?_
   refine aw_true rfl ?_
   refine aw_skip ?_
   refine ae_then ?_
   refine aw_seq ?_
   refine aw_block ?_
   refine aw_r [(17, .call [(true, .any), (true, .any)] true (I (segI (at_ s.Points ((k - 1).toNat)) (at_ s.Points k.toNat)))), (19, .new 32), (20, .new 33)] [1, 3, 4] [1, 33] [.ref 1 0, .arr 33, I k] [some (.box [slPoint false s.Points]), some (.arr 1 (arcs.length + 1) (catF arcs.length (fI arcs) (litF [I ((at_ arcs ((k - 1).toNat)) + (segI (at_ s.Points ((k - 1).toNat)) (at_ s.Points k.toNat)))] 1)))] [inR .i64 (k - 1), (0 : Int) ≤ (k - 1) ∧ (k - 1) < (arcs.length : Int), (k - 1).toNat < arcs.length, inR .i64 (k - 1), (0 : Int) ≤ (k - 1) ∧ (k - 1) < (s.Points.length : Int), (0 : Int) ≤ k ∧ k < (s.Points.length : Int), Con Tryz.prog 185 [agPoint (at_ s.Points ((k - 1).toNat)), agPoint (at_ s.Points k.toNat)] true (I (segI (at_ s.Points ((k - 1).toNat)) (at_ s.Points k.toNat))) ∧ True, inR .i64 ((at_ arcs ((k - 1).toNat)) + (segI (at_ s.Points ((k - 1).toNat)) (at_ s.Points k.toNat))), (arcs.length + 1) * 8 ≤ 140737488355328] hB ⟨(inR_i64 (by omega) (by omega)), ⟨(by omega), (by omega)⟩, (by omega), (inR_i64 (by omega) (by omega)), ⟨(by omega), (by omega)⟩, ⟨(by omega), (by omega)⟩, ⟨(lengthOf_ok (at_ s.Points ((k - 1).toNat)) (at_ s.Points k.toNat) hp1 hp2), trivial⟩, (inR_i64 (by omega) (by omega)), (by omega), trivial⟩ ?_
   refine ae_block 1 ?_
   refine ae_then ?_
   refine aw_r [] [1, 3, 4] [1, 33] [.ref 1 0, .arr 33, I (k + 1)] [some (.box [slPoint false s.Points]), some (.arr 1 (arcs.length + 1) (catF arcs.length (fI arcs) (litF [I ((at_ arcs ((k - 1).toNat)) + (segI (at_ s.Points ((k - 1).toNat)) (at_ s.Points k.toNat)))] 1)))] [inR .i64 (k + 1)] hB ⟨(inR_i64 (by omega) (by omega)), trivial⟩ ?_
   refine ae_weak hB [(5, 33)] (T := [(1, .ref 1 0), (3, .arr 5), (4, I (k + 1))]) (O := [(1, .box [slPoint false s.Points]), (5, tAI (arcs ++ [((at_ arcs ((k - 1).toNat)) + (segI (at_ s.Points ((k - 1).toNat)) (at_ s.Points k.toNat)))]))]) rfl (⟨.inl rfl, .inl rfl, .inl rfl, trivial⟩) (⟨.inl rfl, .inr ⟨rfl, (by first | rfl | (simp; done) | (simp; omega) | omega), fun i_ hi_ => .inl (cat_snoc (enc := cI) (xs := arcs) rfl i_ hi_)⟩, trivial⟩) (ae_again _ (by omega) ⟨(arcs ++ [((at_ arcs ((k - 1).toNat)) + (segI (at_ s.Points ((k - 1).toNat)) (at_ s.Points k.toNat)))]), (k + 1), rfl, (by omega), (by have e : (k + 1).toNat = k.toNat + 1 := (by omega); rw [e, arcsL_succ, ← e, sumS_succ hi0.1, ← hs0, hav]), rfl⟩)
  have hie : k.toNat = s.Points.length := by omega
  rw [hie] at hs0
  subst hs0
  refine aw_r [(4, .dec false)] [1, 3, 4, 10] [1, 5] [.ref 1 0, .arr 5, I k, Bv false] [some (.box [slPoint false s.Points]), some (tAI (arcsL s.Points s.Points.length))] [¬ (k < (s.Points.length : Int))] hB ⟨h1, trivial⟩ ?_
  refine ae_then ?_
  refine aw_false rfl ?_
  refine aw_exit ?_
  refine ae_exit_then ?_
  refine ae_exit_then ?_
  refine ae_exit_same ?_
  refine ae_then ?_
  refine aR [] [2] [5] [.arr 5] [some (tAI (arcsL s.Points s.Points.length))] [] hB trivial ?_
  refine aw_ret ?_
  refine ae_ret hB (.arr 5) (by kernel_rfl) (.inr ⟨(fun _ => rfl), rfl, rfl, fun i _ => .inl rfl⟩) rfl (fun _ => (tagI true _))


end Go.Proofs.YtinncgigkiclpaaGreat.Ax
