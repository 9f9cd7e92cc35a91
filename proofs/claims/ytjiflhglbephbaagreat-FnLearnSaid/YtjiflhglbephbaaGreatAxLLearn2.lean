/- Contracts that the statement FnLearn reaches, part 2. No conditions. -/
import Derived.Test.YtjiflhglbephbaaGreatAxLLearn1
import Derived.Test.YtjiflhglbephbaaGreatAxR
import Derived.Test.YtjiflhglbephbaaGreatAxS
import Derived.Test.YtjiflhglbephbaaGreatSortShelf
namespace Go.Proofs.YtjiflhglbephbaaGreat.Ax
open Go.RowKit Go.ChangeShapes Go.WideShapes
set_option linter.unusedVariables false
set_option linter.unusedSimpArgs false


-- spec.l09Table
set_option maxHeartbeats 4000000 in
theorem l09Table_ok (a : List Feat) (b : List Feat) (band : Int) (hab : okAB a b) (hbd : 0 ≤ band ∧ band ≤ 1000) : ∃ (out : List Int), (flOk a b band out (a.length * b.length)) ∧ Con Tryz.prog 81 [slFeat false a, slFeat false b, I band] true (slI true out) := by
  have hla := hab.2.2
  have hnm : (a.length : Int) * (b.length : Int) = ((a.length * b.length : Nat) : Int) := (Int.natCast_mul _ _).symm
  have hnl := Nat.mul_le_mul hla.1 hla.2
  have hh : ∃ r : (List Int), ((flOk a b band r (a.length * b.length)) ∧ (True)) ∧ CallOK Tryz.prog 81 [slFeat false a, slFeat false b, I band] (lookO []) true (slI true r) (lookO []) := by
    refine fn_okX (Φ := fun r : (List Int) => (flOk a b band r (a.length * b.length)) ∧ (True)) [] (fun r => []) (fn := Tryz.f81) (nt := 117) Tryz.func81 rfl rfl (args := [slFeat false a, slFeat false b, I band]) rfl (allcons (.inl ⟨rfl, tagFeat false _⟩) (allcons (.inl ⟨rfl, tagFeat false _⟩) (allcons (.inl ⟨rfl, trivial⟩) allnil))) (res := fun r => slI true r) ?_
    refine xR [] [0, 1, 2] [] [slFeat false a, slFeat false b, I band] [] [] trivial ?_
    refine xR [] [0, 1, 2, 7] [] [slFeat false a, slFeat false b, I band, I (a.length : Int)] [] [] trivial ?_
    refine xR [] [0, 1, 2, 7, 8] [] [slFeat false a, slFeat false b, I band, I (a.length : Int), I (b.length : Int)] [] [] trivial ?_
    refine xR [(3, .new 20)] [0, 1, 2, 7, 8, 9] [20] [slFeat false a, slFeat false b, I band, I (a.length : Int), I (b.length : Int), .arr 20] [some (.arr 1 (((a.length : Int) * (b.length : Int)).toNat) (fun _ => [I 0]))] [inR .i64 ((a.length : Int) * (b.length : Int)), (0 : Int) ≤ ((a.length : Int) * (b.length : Int)) ∧ (((a.length : Int) * (b.length : Int)) : Int) ≤ ((a.length : Int) * (b.length : Int)) ∧ (8 : Int) * ((a.length : Int) * (b.length : Int)) ≤ 281474976710656 ∧ ((a.length : Int) * (b.length : Int)) ≤ 9223372036854775807] ⟨(inR_i64 (by omega) (by omega)), ⟨(by omega), (by omega), (by omega), (by omega)⟩, trivial⟩ ?_
    refine x_seq ?_
    refine xR [] [0, 1, 2, 7, 8, 9, 10] [20] [slFeat false a, slFeat false b, I band, I (a.length : Int), I (b.length : Int), .arr 20, I 0] [some (.arr 1 (((a.length : Int) * (b.length : Int)).toNat) (fun _ => [I 0]))] [] trivial ?_
    refine x_block ?_
    refine x_weak [] (T := [(0, slFeat false a), (1, slFeat false b), (2, I band), (7, I (a.length : Int)), (8, I (b.length : Int)), (9, .arr 20), (10, I 0)]) (O := [(20, .arr 1 ((List.replicate (((a.length : Int) * (b.length : Int)).toNat) 0).length) (fI (List.replicate (((a.length : Int) * (b.length : Int)).toNat) 0)))]) rfl (⟨.inl rfl, .inl rfl, .inl rfl, .inl rfl, .inl rfl, .inl rfl, .inl rfl, trivial⟩) (⟨.inr ⟨rfl, (by first | rfl | (simp; done) | (simp; omega) | omega), fun i_ hi_ => .inl (const_enc (enc := cI) rfl i_ hi_)⟩, trivial⟩) ?_
    refine x_loop (X := Int × (List Int)) (fun x => mkS [(0, slFeat false a), (1, slFeat false b), (2, I band), (7, I (a.length : Int)), (8, I (b.length : Int)), (9, .arr 20), (10, I x.1)] [(20, .arr 1 x.2.length (fI x.2))]) (fun x => (0 ≤ x.1 ∧ x.1 ≤ (a.length : Int)) ∧ (flOk a b band x.2 (x.1.toNat * b.length)) ∧ True) (fun x => ((a.length : Int) - x.1).toNat) (0, (List.replicate (((a.length : Int) * (b.length : Int)).toNat) 0)) rfl (show (0 ≤ (0 : Int) ∧ (0 : Int) ≤ (a.length : Int)) ∧ (flOk a b band (List.replicate (((a.length : Int) * (b.length : Int)).toNat) 0) ((0 : Int).toNat * b.length)) ∧ True from ⟨(by omega), (by exact ⟨by simp; omega, fun p q _ _ hk => by rw [show (0 : Int).toNat = 0 from rfl, Nat.zero_mul] at hk; omega⟩), trivial⟩) (fun x hI => ?_)
    obtain ⟨i, fl⟩ := x
    obtain ⟨hi0, hfl, _⟩ : (0 ≤ i ∧ i ≤ (a.length : Int)) ∧ (flOk a b band fl (i.toNat * b.length)) ∧ True := hI
    show XW _ _ _ _ (mkS [(0, slFeat false a), (1, slFeat false b), (2, I band), (7, I (a.length : Int)), (8, I (b.length : Int)), (9, .arr 20), (10, I i)] [(20, .arr 1 fl.length (fI fl))]) _ _
    refine x_seq ?_
    refine x_seq ?_
    by_cases h1 : i < (a.length : Int)
    ·have hi : i.toNat < a.length := by omega
     have hix : ((i.toNat : Nat) : Int) = i := by omega
     refine x_r [(2, .dec true)] [0, 1, 2, 7, 8, 9, 10, 23] [20] [slFeat false a, slFeat false b, I band, I (a.length : Int), I (b.length : Int), .arr 20, I i, Bv true] [some (.arr 1 fl.length (fI fl))] [i < (a.length : Int)] ⟨h1, trivial⟩ ?_
     refine xe_then ?_
     refine x_true rfl ?_
     refine x_skip ?_
     refine xe_then ?_
     refine x_seq ?_
     refine x_block ?_
     refine xR [] [0, 1, 2, 7, 8, 9, 10, 11] [20] [slFeat false a, slFeat false b, I band, I (a.length : Int), I (b.length : Int), .arr 20, I i, I 0] [some (.arr 1 fl.length (fI fl))] [] trivial ?_
     refine x_block ?_
     refine x_loop (X := Int × (List Int)) (fun x => mkS [(0, slFeat false a), (1, slFeat false b), (2, I band), (7, I (a.length : Int)), (8, I (b.length : Int)), (9, .arr 20), (10, I i), (11, I x.1)] [(20, .arr 1 x.2.length (fI x.2))]) (fun x => (0 ≤ x.1 ∧ x.1 ≤ (b.length : Int)) ∧ (flOk a b band x.2 (i.toNat * b.length + x.1.toNat)) ∧ True) (fun x => ((b.length : Int) - x.1).toNat) (0, fl) rfl (show (0 ≤ (0 : Int) ∧ (0 : Int) ≤ (b.length : Int)) ∧ (flOk a b band fl (i.toNat * b.length + (0 : Int).toNat)) ∧ True from ⟨(by omega), (by exact hfl), trivial⟩) (fun x hI => ?_)
     obtain ⟨j, fl'⟩ := x
     obtain ⟨hj0, hin, _⟩ : (0 ≤ j ∧ j ≤ (b.length : Int)) ∧ (flOk a b band fl' (i.toNat * b.length + j.toNat)) ∧ True := hI
     show XW _ _ _ _ (mkS [(0, slFeat false a), (1, slFeat false b), (2, I band), (7, I (a.length : Int)), (8, I (b.length : Int)), (9, .arr 20), (10, I i), (11, I j)] [(20, .arr 1 fl'.length (fI fl'))]) _ _
     refine x_seq ?_
     refine x_seq ?_
     by_cases h2 : j < (b.length : Int)
     ·have hj : j.toNat < b.length := by omega
      have hjx : ((j.toNat : Nat) : Int) = j := by omega
      have hcb := costF_bd (hab.1 _ hi) (hab.2.1 _ hj)
      have hsb := sb_at hab hin hi hj
      rw [hix, hjx] at hsb
      have hol := hin.1
      have hlt := fl_lt (j := 0) hi hj
      have hpr : i * (b.length : Int) = ((i.toNat * b.length : Nat) : Int) := by rw [Int.natCast_mul, hix]
      have hpq : (i - 1) * (b.length : Int) = ((i.toNat * b.length : Nat) : Int) - b.length := by rw [Int.sub_mul, Int.one_mul, hpr]
      have hps := Nat.mul_le_mul (show i.toNat ≤ 72 by omega) (show b.length ≤ 72 by omega)
      have hpt : 1 ≤ i → b.length ≤ i.toNat * b.length := fun q => Nat.le_mul_of_pos_left _ (by omega)
      have hka : (i * (b.length : Int) + j).toNat = i.toNat * b.length + j.toNat := by omega
      have hn1 : 0 < i → 0 < j → 0 ≤ at_ fl' ((i - 1) * (b.length : Int) + j - 1).toNat := fun q1 q2 => fl_nn hab hin (by omega) (by omega) (by omega)
      have hn2 : 0 < i → 0 ≤ at_ fl' ((i - 1) * (b.length : Int) + j).toNat := fun q1 => fl_nn hab hin (by omega) (by omega) (by omega)
      have hn3 : 0 < j → 0 ≤ at_ fl' (i * (b.length : Int) + j - 1).toNat := fun q1 => fl_nn hab hin (by omega) (by omega) (by omega)
      refine x_r [(2, .dec true)] [0, 1, 2, 7, 8, 9, 10, 11, 28] [20] [slFeat false a, slFeat false b, I band, I (a.length : Int), I (b.length : Int), .arr 20, I i, I j, Bv true] [some (.arr 1 fl'.length (fI fl'))] [j < (b.length : Int)] ⟨h2, trivial⟩ ?_
      refine xe_then ?_
      refine x_true rfl ?_
      refine x_skip ?_
      refine xe_then ?_
      refine x_seq ?_
      refine x_block ?_
      refine xR [] [0, 1, 2, 7, 8, 9, 10, 11, 12] [20] [slFeat false a, slFeat false b, I band, I (a.length : Int), I (b.length : Int), .arr 20, I i, I j, I 1000000000] [some (.arr 1 fl'.length (fI fl'))] [] trivial ?_
      refine x_seq ?_
      refine x_seq ?_
      by_cases h3 : i = 0
      ·by_cases h4 : j = 0
       ·refine x_r [(1, .dec true), (4, .dec true)] [0, 1, 2, 7, 8, 9, 10, 11, 12, 36] [20] [slFeat false a, slFeat false b, I band, I (a.length : Int), I (b.length : Int), .arr 20, I i, I j, I 1000000000, Bv true] [some (.arr 1 fl'.length (fI fl'))] [i = 0, j = 0] ⟨h3, h4, trivial⟩ ?_
        refine xe_then ?_
        refine x_true rfl ?_
        refine x_r [] [0, 1, 2, 7, 8, 9, 10, 11, 12] [20] [slFeat false a, slFeat false b, I band, I (a.length : Int), I (b.length : Int), .arr 20, I i, I j, I 0] [some (.arr 1 fl'.length (fI fl'))] [] trivial ?_
        refine xe_then ?_
        refine x_seq ?_
        refine x_seq ?_
        by_cases h5 : 0 < i
        ·by_cases h6 : 0 < j
         ·refine x_r [(1, .dec true), (4, .dec true)] [0, 1, 2, 7, 8, 9, 10, 11, 12, 42] [20] [slFeat false a, slFeat false b, I band, I (a.length : Int), I (b.length : Int), .arr 20, I i, I j, I 0, Bv true] [some (.arr 1 fl'.length (fI fl'))] [0 < i, 0 < j] ⟨h5, h6, trivial⟩ ?_
          refine xe_then ?_
          refine x_true rfl ?_
          refine x_r [(11, .call [(true, .any), (true, .any)] true (I (min 0 (at_ fl' (((((i - 1) * (b.length : Int)) + j) - 1).toNat)))))] [0, 1, 2, 7, 8, 9, 10, 11, 12] [20] [slFeat false a, slFeat false b, I band, I (a.length : Int), I (b.length : Int), .arr 20, I i, I j, I (min 0 (at_ fl' (((((i - 1) * (b.length : Int)) + j) - 1).toNat)))] [some (.arr 1 fl'.length (fI fl'))] [inR .i64 (i - 1), inR .i64 ((i - 1) * (b.length : Int)), inR .i64 (((i - 1) * (b.length : Int)) + j), inR .i64 ((((i - 1) * (b.length : Int)) + j) - 1), (0 : Int) ≤ ((((i - 1) * (b.length : Int)) + j) - 1) ∧ ((((i - 1) * (b.length : Int)) + j) - 1) < (fl'.length : Int), ((((i - 1) * (b.length : Int)) + j) - 1).toNat < fl'.length, Con Tryz.prog 62 [I 0, I (at_ fl' (((((i - 1) * (b.length : Int)) + j) - 1).toNat))] true (I (min 0 (at_ fl' (((((i - 1) * (b.length : Int)) + j) - 1).toNat)))) ∧ True] ⟨(inR_i64 (by omega) (by omega)), (inR_i64 (by omega) (by omega)), (inR_i64 (by omega) (by omega)), (inR_i64 (by omega) (by omega)), ⟨(by omega), (by omega)⟩, (by omega), ⟨(l00Min_ok 0 (at_ fl' (((((i - 1) * (b.length : Int)) + j) - 1).toNat))), trivial⟩, trivial⟩ ?_
          refine xe_then ?_
          refine x_seq ?_
          refine xR [(1, .dec true)] [0, 1, 2, 7, 8, 9, 10, 11, 12, 56] [20] [slFeat false a, slFeat false b, I band, I (a.length : Int), I (b.length : Int), .arr 20, I i, I j, I (min 0 (at_ fl' (((((i - 1) * (b.length : Int)) + j) - 1).toNat))), Bv true] [some (.arr 1 fl'.length (fI fl'))] [0 < i] ⟨h5, trivial⟩ ?_
          refine x_true rfl ?_
          refine x_r [(10, .call [(true, .any), (true, .any)] true (I (min (min 0 (at_ fl' (((((i - 1) * (b.length : Int)) + j) - 1).toNat))) (at_ fl' ((((i - 1) * (b.length : Int)) + j).toNat)))))] [0, 1, 2, 7, 8, 9, 10, 11, 12] [20] [slFeat false a, slFeat false b, I band, I (a.length : Int), I (b.length : Int), .arr 20, I i, I j, I (min (min 0 (at_ fl' (((((i - 1) * (b.length : Int)) + j) - 1).toNat))) (at_ fl' ((((i - 1) * (b.length : Int)) + j).toNat)))] [some (.arr 1 fl'.length (fI fl'))] [inR .i64 (i - 1), inR .i64 ((i - 1) * (b.length : Int)), inR .i64 (((i - 1) * (b.length : Int)) + j), (0 : Int) ≤ (((i - 1) * (b.length : Int)) + j) ∧ (((i - 1) * (b.length : Int)) + j) < (fl'.length : Int), (((i - 1) * (b.length : Int)) + j).toNat < fl'.length, Con Tryz.prog 62 [I (min 0 (at_ fl' (((((i - 1) * (b.length : Int)) + j) - 1).toNat))), I (at_ fl' ((((i - 1) * (b.length : Int)) + j).toNat))] true (I (min (min 0 (at_ fl' (((((i - 1) * (b.length : Int)) + j) - 1).toNat))) (at_ fl' ((((i - 1) * (b.length : Int)) + j).toNat)))) ∧ True] ⟨(inR_i64 (by omega) (by omega)), (inR_i64 (by omega) (by omega)), (inR_i64 (by omega) (by omega)), ⟨(by omega), (by omega)⟩, (by omega), ⟨(l00Min_ok (min 0 (at_ fl' (((((i - 1) * (b.length : Int)) + j) - 1).toNat))) (at_ fl' ((((i - 1) * (b.length : Int)) + j).toNat))), trivial⟩, trivial⟩ ?_
          refine xe_then ?_
          refine x_seq ?_
          refine xR [(1, .dec true)] [0, 1, 2, 7, 8, 9, 10, 11, 12, 69] [20] [slFeat false a, slFeat false b, I band, I (a.length : Int), I (b.length : Int), .arr 20, I i, I j, I (min (min 0 (at_ fl' (((((i - 1) * (b.length : Int)) + j) - 1).toNat))) (at_ fl' ((((i - 1) * (b.length : Int)) + j).toNat))), Bv true] [some (.arr 1 fl'.length (fI fl'))] [0 < j] ⟨h6, trivial⟩ ?_
          refine x_true rfl ?_
          refine x_r [(10, .call [(true, .any), (true, .any)] true (I (min (min (min 0 (at_ fl' (((((i - 1) * (b.length : Int)) + j) - 1).toNat))) (at_ fl' ((((i - 1) * (b.length : Int)) + j).toNat))) (at_ fl' ((((i * (b.length : Int)) + j) - 1).toNat)))))] [0, 1, 2, 7, 8, 9, 10, 11, 12] [20] [slFeat false a, slFeat false b, I band, I (a.length : Int), I (b.length : Int), .arr 20, I i, I j, I (min (min (min 0 (at_ fl' (((((i - 1) * (b.length : Int)) + j) - 1).toNat))) (at_ fl' ((((i - 1) * (b.length : Int)) + j).toNat))) (at_ fl' ((((i * (b.length : Int)) + j) - 1).toNat)))] [some (.arr 1 fl'.length (fI fl'))] [inR .i64 (i * (b.length : Int)), inR .i64 ((i * (b.length : Int)) + j), inR .i64 (((i * (b.length : Int)) + j) - 1), (0 : Int) ≤ (((i * (b.length : Int)) + j) - 1) ∧ (((i * (b.length : Int)) + j) - 1) < (fl'.length : Int), (((i * (b.length : Int)) + j) - 1).toNat < fl'.length, Con Tryz.prog 62 [I (min (min 0 (at_ fl' (((((i - 1) * (b.length : Int)) + j) - 1).toNat))) (at_ fl' ((((i - 1) * (b.length : Int)) + j).toNat))), I (at_ fl' ((((i * (b.length : Int)) + j) - 1).toNat))] true (I (min (min (min 0 (at_ fl' (((((i - 1) * (b.length : Int)) + j) - 1).toNat))) (at_ fl' ((((i - 1) * (b.length : Int)) + j).toNat))) (at_ fl' ((((i * (b.length : Int)) + j) - 1).toNat)))) ∧ True] ⟨(inR_i64 (by omega) (by omega)), (inR_i64 (by omega) (by omega)), (inR_i64 (by omega) (by omega)), ⟨(by omega), (by omega)⟩, (by omega), ⟨(l00Min_ok (min (min 0 (at_ fl' (((((i - 1) * (b.length : Int)) + j) - 1).toNat))) (at_ fl' ((((i - 1) * (b.length : Int)) + j).toNat))) (at_ fl' ((((i * (b.length : Int)) + j) - 1).toNat))), trivial⟩, trivial⟩ ?_
          refine xe_then ?_
          refine x_seq ?_
          by_cases h7 : (min (min (min 0 (at_ fl' (((((i - 1) * (b.length : Int)) + j) - 1).toNat))) (at_ fl' ((((i - 1) * (b.length : Int)) + j).toNat))) (at_ fl' ((((i * (b.length : Int)) + j) - 1).toNat))) = 1000000000
          ·refine x_r [(1, .dec true)] [0, 1, 2, 7, 8, 9, 10, 11, 12, 90] [20] [slFeat false a, slFeat false b, I band, I (a.length : Int), I (b.length : Int), .arr 20, I i, I j, I (min (min (min 0 (at_ fl' (((((i - 1) * (b.length : Int)) + j) - 1).toNat))) (at_ fl' ((((i - 1) * (b.length : Int)) + j).toNat))) (at_ fl' ((((i * (b.length : Int)) + j) - 1).toNat))), Bv true] [some (.arr 1 fl'.length (fI fl'))] [(min (min (min 0 (at_ fl' (((((i - 1) * (b.length : Int)) + j) - 1).toNat))) (at_ fl' ((((i - 1) * (b.length : Int)) + j).toNat))) (at_ fl' ((((i * (b.length : Int)) + j) - 1).toNat))) = 1000000000] ⟨h7, trivial⟩ ?_
           refine xe_then ?_
           refine x_true rfl ?_
           refine x_r [] [0, 1, 2, 7, 8, 9, 10, 11] [20] [slFeat false a, slFeat false b, I band, I (a.length : Int), I (b.length : Int), .arr 20, I i, I j] [some (.arr 1 fl'.length (fun q => bif Nat.beq q (((i * (b.length : Int)) + j).toNat) then [I 1000000000] else (fI fl') q))] [inR .i64 (i * (b.length : Int)), inR .i64 ((i * (b.length : Int)) + j), (0 : Int) ≤ ((i * (b.length : Int)) + j) ∧ ((i * (b.length : Int)) + j) < (fl'.length : Int), ((i * (b.length : Int)) + j).toNat < fl'.length] ⟨(inR_i64 (by omega) (by omega)), (inR_i64 (by omega) (by omega)), ⟨(by omega), (by omega)⟩, (by omega), trivial⟩ ?_
           refine xe_block 3 ?_
           refine xe_then ?_
           refine x_weak [] (T := [(0, slFeat false a), (1, slFeat false b), (2, I band), (7, I (a.length : Int)), (8, I (b.length : Int)), (9, .arr 20), (10, I i), (11, I j)]) (O := [(20, .arr 1 ((fl'.set (((i * (b.length : Int)) + j).toNat) 1000000000).length) (fI (fl'.set (((i * (b.length : Int)) + j).toNat) 1000000000)))]) rfl (⟨.inl rfl, .inl rfl, .inl rfl, .inl rfl, .inl rfl, .inl rfl, .inl rfl, .inl rfl, trivial⟩) (⟨.inr ⟨rfl, (by first | rfl | (simp; done) | (simp; omega) | omega), fun i_ hi_ => .inl (upd_enc (enc := cI) rfl i_ hi_)⟩, trivial⟩) ?_
           refine x_r [] [0, 1, 2, 7, 8, 9, 10, 11] [20] [slFeat false a, slFeat false b, I band, I (a.length : Int), I (b.length : Int), .arr 20, I i, I (j + 1)] [some (.arr 1 ((fl'.set (((i * (b.length : Int)) + j).toNat) 1000000000).length) (fI (fl'.set (((i * (b.length : Int)) + j).toNat) 1000000000)))] [inR .i64 (j + 1)] ⟨(inR_i64 (by omega) (by omega)), trivial⟩ ?_
           exact xe_again ((j + 1), (fl'.set (((i * (b.length : Int)) + j).toNat) 1000000000)) rfl (show (0 ≤ (j + 1) ∧ (j + 1) ≤ (b.length : Int)) ∧ (flOk a b band (fl'.set (((i * (b.length : Int)) + j).toNat) 1000000000) (i.toNat * b.length + (j + 1).toNat)) ∧ True from ⟨(by omega), (by rw [show (j + 1).toNat = j.toNat + 1 from by omega]; exact fl_step hin hi hj hka (by rw [hsb.2]; unfold sb3 sb2 sb1 sb0; (repeat' split) <;> omega)), trivial⟩) (by first | (show (((b.length : Int) - (j + 1)).toNat : Nat) < ((b.length : Int) - j).toNat; omega) | (dsimp only; omega))
          by_cases h8 : band < ((i - j).natAbs : Int)
          ·refine x_r [(1, .dec false), (6, .call [(true, .any)] true (I ((i - j).natAbs : Int))), (8, .dec true)] [0, 1, 2, 7, 8, 9, 10, 11, 12, 90] [20] [slFeat false a, slFeat false b, I band, I (a.length : Int), I (b.length : Int), .arr 20, I i, I j, I (min (min (min 0 (at_ fl' (((((i - 1) * (b.length : Int)) + j) - 1).toNat))) (at_ fl' ((((i - 1) * (b.length : Int)) + j).toNat))) (at_ fl' ((((i * (b.length : Int)) + j) - 1).toNat))), Bv true] [some (.arr 1 fl'.length (fI fl'))] [¬ ((min (min (min 0 (at_ fl' (((((i - 1) * (b.length : Int)) + j) - 1).toNat))) (at_ fl' ((((i - 1) * (b.length : Int)) + j).toNat))) (at_ fl' ((((i * (b.length : Int)) + j) - 1).toNat))) = 1000000000), inR .i64 (i - j), Con Tryz.prog 80 [I (i - j)] true (I ((i - j).natAbs : Int)) ∧ True, band < ((i - j).natAbs : Int)] ⟨h7, (inR_i64 (by omega) (by omega)), ⟨(l09Size_ok (i - j) (by omega)), trivial⟩, h8, trivial⟩ ?_
           refine xe_then ?_
           refine x_true rfl ?_
           refine x_r [] [0, 1, 2, 7, 8, 9, 10, 11] [20] [slFeat false a, slFeat false b, I band, I (a.length : Int), I (b.length : Int), .arr 20, I i, I j] [some (.arr 1 fl'.length (fun q => bif Nat.beq q (((i * (b.length : Int)) + j).toNat) then [I 1000000000] else (fI fl') q))] [inR .i64 (i * (b.length : Int)), inR .i64 ((i * (b.length : Int)) + j), (0 : Int) ≤ ((i * (b.length : Int)) + j) ∧ ((i * (b.length : Int)) + j) < (fl'.length : Int), ((i * (b.length : Int)) + j).toNat < fl'.length] ⟨(inR_i64 (by omega) (by omega)), (inR_i64 (by omega) (by omega)), ⟨(by omega), (by omega)⟩, (by omega), trivial⟩ ?_
           refine xe_block 3 ?_
           refine xe_then ?_
           refine x_weak [] (T := [(0, slFeat false a), (1, slFeat false b), (2, I band), (7, I (a.length : Int)), (8, I (b.length : Int)), (9, .arr 20), (10, I i), (11, I j)]) (O := [(20, .arr 1 ((fl'.set (((i * (b.length : Int)) + j).toNat) 1000000000).length) (fI (fl'.set (((i * (b.length : Int)) + j).toNat) 1000000000)))]) rfl (⟨.inl rfl, .inl rfl, .inl rfl, .inl rfl, .inl rfl, .inl rfl, .inl rfl, .inl rfl, trivial⟩) (⟨.inr ⟨rfl, (by first | rfl | (simp; done) | (simp; omega) | omega), fun i_ hi_ => .inl (upd_enc (enc := cI) rfl i_ hi_)⟩, trivial⟩) ?_
           refine x_r [] [0, 1, 2, 7, 8, 9, 10, 11] [20] [slFeat false a, slFeat false b, I band, I (a.length : Int), I (b.length : Int), .arr 20, I i, I (j + 1)] [some (.arr 1 ((fl'.set (((i * (b.length : Int)) + j).toNat) 1000000000).length) (fI (fl'.set (((i * (b.length : Int)) + j).toNat) 1000000000)))] [inR .i64 (j + 1)] ⟨(inR_i64 (by omega) (by omega)), trivial⟩ ?_
           exact xe_again ((j + 1), (fl'.set (((i * (b.length : Int)) + j).toNat) 1000000000)) rfl (show (0 ≤ (j + 1) ∧ (j + 1) ≤ (b.length : Int)) ∧ (flOk a b band (fl'.set (((i * (b.length : Int)) + j).toNat) 1000000000) (i.toNat * b.length + (j + 1).toNat)) ∧ True from ⟨(by omega), (by rw [show (j + 1).toNat = j.toNat + 1 from by omega]; exact fl_step hin hi hj hka (by rw [hsb.2]; unfold sb3 sb2 sb1 sb0; (repeat' split) <;> omega)), trivial⟩) (by first | (show (((b.length : Int) - (j + 1)).toNat : Nat) < ((b.length : Int) - j).toNat; omega) | (dsimp only; omega))
          refine x_r [(1, .dec false), (6, .call [(true, .any)] true (I ((i - j).natAbs : Int))), (8, .dec false)] [0, 1, 2, 7, 8, 9, 10, 11, 12, 90] [20] [slFeat false a, slFeat false b, I band, I (a.length : Int), I (b.length : Int), .arr 20, I i, I j, I (min (min (min 0 (at_ fl' (((((i - 1) * (b.length : Int)) + j) - 1).toNat))) (at_ fl' ((((i - 1) * (b.length : Int)) + j).toNat))) (at_ fl' ((((i * (b.length : Int)) + j) - 1).toNat))), Bv false] [some (.arr 1 fl'.length (fI fl'))] [¬ ((min (min (min 0 (at_ fl' (((((i - 1) * (b.length : Int)) + j) - 1).toNat))) (at_ fl' ((((i - 1) * (b.length : Int)) + j).toNat))) (at_ fl' ((((i * (b.length : Int)) + j) - 1).toNat))) = 1000000000), inR .i64 (i - j), Con Tryz.prog 80 [I (i - j)] true (I ((i - j).natAbs : Int)) ∧ True, ¬ (band < ((i - j).natAbs : Int))] ⟨h7, (inR_i64 (by omega) (by omega)), ⟨(l09Size_ok (i - j) (by omega)), trivial⟩, h8, trivial⟩ ?_
          refine xe_then ?_
          refine x_false rfl ?_
          refine x_r [(15, .call [(true, .any), (true, .any)] true (I (costF (at_ a i.toNat) (at_ b j.toNat))))] [0, 1, 2, 7, 8, 9, 10, 11] [20] [slFeat false a, slFeat false b, I band, I (a.length : Int), I (b.length : Int), .arr 20, I i, I j] [some (.arr 1 fl'.length (fun q => bif Nat.beq q (((i * (b.length : Int)) + j).toNat) then [I ((min (min (min 0 (at_ fl' (((((i - 1) * (b.length : Int)) + j) - 1).toNat))) (at_ fl' ((((i - 1) * (b.length : Int)) + j).toNat))) (at_ fl' ((((i * (b.length : Int)) + j) - 1).toNat))) + (costF (at_ a i.toNat) (at_ b j.toNat)))] else (fI fl') q))] [inR .i64 (i * (b.length : Int)), inR .i64 ((i * (b.length : Int)) + j), (0 : Int) ≤ i ∧ i < (a.length : Int), (0 : Int) ≤ j ∧ j < (b.length : Int), Con Tryz.prog 109 [agFeat (at_ a i.toNat), agFeat (at_ b j.toNat)] true (I (costF (at_ a i.toNat) (at_ b j.toNat))) ∧ True, inR .i64 ((min (min (min 0 (at_ fl' (((((i - 1) * (b.length : Int)) + j) - 1).toNat))) (at_ fl' ((((i - 1) * (b.length : Int)) + j).toNat))) (at_ fl' ((((i * (b.length : Int)) + j) - 1).toNat))) + (costF (at_ a i.toNat) (at_ b j.toNat))), (0 : Int) ≤ ((i * (b.length : Int)) + j) ∧ ((i * (b.length : Int)) + j) < (fl'.length : Int), ((i * (b.length : Int)) + j).toNat < fl'.length] ⟨(inR_i64 (by omega) (by omega)), (inR_i64 (by omega) (by omega)), ⟨(by omega), (by omega)⟩, ⟨(by omega), (by omega)⟩, ⟨(l09Cost_ok (at_ a i.toNat) (at_ b j.toNat) (by first | exact hab.1 _ (by omega) | exact hab.2.1 _ (by omega)) (by first | exact hab.1 _ (by omega) | exact hab.2.1 _ (by omega))), trivial⟩, (inR_i64 (by omega) (by omega)), ⟨(by omega), (by omega)⟩, (by omega), trivial⟩ ?_
          refine xe_block 3 ?_
          refine xe_then ?_
          refine x_weak [] (T := [(0, slFeat false a), (1, slFeat false b), (2, I band), (7, I (a.length : Int)), (8, I (b.length : Int)), (9, .arr 20), (10, I i), (11, I j)]) (O := [(20, .arr 1 ((fl'.set (((i * (b.length : Int)) + j).toNat) ((min (min (min 0 (at_ fl' (((((i - 1) * (b.length : Int)) + j) - 1).toNat))) (at_ fl' ((((i - 1) * (b.length : Int)) + j).toNat))) (at_ fl' ((((i * (b.length : Int)) + j) - 1).toNat))) + (costF (at_ a i.toNat) (at_ b j.toNat)))).length) (fI (fl'.set (((i * (b.length : Int)) + j).toNat) ((min (min (min 0 (at_ fl' (((((i - 1) * (b.length : Int)) + j) - 1).toNat))) (at_ fl' ((((i - 1) * (b.length : Int)) + j).toNat))) (at_ fl' ((((i * (b.length : Int)) + j) - 1).toNat))) + (costF (at_ a i.toNat) (at_ b j.toNat))))))]) rfl (⟨.inl rfl, .inl rfl, .inl rfl, .inl rfl, .inl rfl, .inl rfl, .inl rfl, .inl rfl, trivial⟩) (⟨.inr ⟨rfl, (by first | rfl | (simp; done) | (simp; omega) | omega), fun i_ hi_ => .inl (upd_enc (enc := cI) rfl i_ hi_)⟩, trivial⟩) ?_
          refine x_r [] [0, 1, 2, 7, 8, 9, 10, 11] [20] [slFeat false a, slFeat false b, I band, I (a.length : Int), I (b.length : Int), .arr 20, I i, I (j + 1)] [some (.arr 1 ((fl'.set (((i * (b.length : Int)) + j).toNat) ((min (min (min 0 (at_ fl' (((((i - 1) * (b.length : Int)) + j) - 1).toNat))) (at_ fl' ((((i - 1) * (b.length : Int)) + j).toNat))) (at_ fl' ((((i * (b.length : Int)) + j) - 1).toNat))) + (costF (at_ a i.toNat) (at_ b j.toNat)))).length) (fI (fl'.set (((i * (b.length : Int)) + j).toNat) ((min (min (min 0 (at_ fl' (((((i - 1) * (b.length : Int)) + j) - 1).toNat))) (at_ fl' ((((i - 1) * (b.length : Int)) + j).toNat))) (at_ fl' ((((i * (b.length : Int)) + j) - 1).toNat))) + (costF (at_ a i.toNat) (at_ b j.toNat))))))] [inR .i64 (j + 1)] ⟨(inR_i64 (by omega) (by omega)), trivial⟩ ?_
          exact xe_again ((j + 1), (fl'.set (((i * (b.length : Int)) + j).toNat) ((min (min (min 0 (at_ fl' (((((i - 1) * (b.length : Int)) + j) - 1).toNat))) (at_ fl' ((((i - 1) * (b.length : Int)) + j).toNat))) (at_ fl' ((((i * (b.length : Int)) + j) - 1).toNat))) + (costF (at_ a i.toNat) (at_ b j.toNat))))) rfl (show (0 ≤ (j + 1) ∧ (j + 1) ≤ (b.length : Int)) ∧ (flOk a b band (fl'.set (((i * (b.length : Int)) + j).toNat) ((min (min (min 0 (at_ fl' (((((i - 1) * (b.length : Int)) + j) - 1).toNat))) (at_ fl' ((((i - 1) * (b.length : Int)) + j).toNat))) (at_ fl' ((((i * (b.length : Int)) + j) - 1).toNat))) + (costF (at_ a i.toNat) (at_ b j.toNat)))) (i.toNat * b.length + (j + 1).toNat)) ∧ True from ⟨(by omega), (by rw [show (j + 1).toNat = j.toNat + 1 from by omega]; exact fl_step hin hi hj hka (by rw [hsb.2]; unfold sb3 sb2 sb1 sb0; (repeat' split) <;> omega)), trivial⟩) (by first | (show (((b.length : Int) - (j + 1)).toNat : Nat) < ((b.length : Int) - j).toNat; omega) | (dsimp only; omega))
         refine x_r [(1, .dec true), (4, .dec false)] [0, 1, 2, 7, 8, 9, 10, 11, 12, 42] [20] [slFeat false a, slFeat false b, I band, I (a.length : Int), I (b.length : Int), .arr 20, I i, I j, I 0, Bv false] [some (.arr 1 fl'.length (fI fl'))] [0 < i, ¬ (0 < j)] ⟨h5, h6, trivial⟩ ?_
         refine xe_then ?_
         refine x_false rfl ?_
         refine x_skip ?_
         refine xe_then ?_
         refine x_seq ?_
         refine xR [(1, .dec true)] [0, 1, 2, 7, 8, 9, 10, 11, 12, 56] [20] [slFeat false a, slFeat false b, I band, I (a.length : Int), I (b.length : Int), .arr 20, I i, I j, I 0, Bv true] [some (.arr 1 fl'.length (fI fl'))] [0 < i] ⟨h5, trivial⟩ ?_
         refine x_true rfl ?_
         refine x_r [(10, .call [(true, .any), (true, .any)] true (I (min 0 (at_ fl' ((((i - 1) * (b.length : Int)) + j).toNat)))))] [0, 1, 2, 7, 8, 9, 10, 11, 12] [20] [slFeat false a, slFeat false b, I band, I (a.length : Int), I (b.length : Int), .arr 20, I i, I j, I (min 0 (at_ fl' ((((i - 1) * (b.length : Int)) + j).toNat)))] [some (.arr 1 fl'.length (fI fl'))] [inR .i64 (i - 1), inR .i64 ((i - 1) * (b.length : Int)), inR .i64 (((i - 1) * (b.length : Int)) + j), (0 : Int) ≤ (((i - 1) * (b.length : Int)) + j) ∧ (((i - 1) * (b.length : Int)) + j) < (fl'.length : Int), (((i - 1) * (b.length : Int)) + j).toNat < fl'.length, Con Tryz.prog 62 [I 0, I (at_ fl' ((((i - 1) * (b.length : Int)) + j).toNat))] true (I (min 0 (at_ fl' ((((i - 1) * (b.length : Int)) + j).toNat)))) ∧ True] ⟨(inR_i64 (by omega) (by omega)), (inR_i64 (by omega) (by omega)), (inR_i64 (by omega) (by omega)), ⟨(by omega), (by omega)⟩, (by omega), ⟨(l00Min_ok 0 (at_ fl' ((((i - 1) * (b.length : Int)) + j).toNat))), trivial⟩, trivial⟩ ?_
         refine xe_then ?_
         refine x_seq ?_
         refine xR [(1, .dec false)] [0, 1, 2, 7, 8, 9, 10, 11, 12, 69] [20] [slFeat false a, slFeat false b, I band, I (a.length : Int), I (b.length : Int), .arr 20, I i, I j, I (min 0 (at_ fl' ((((i - 1) * (b.length : Int)) + j).toNat))), Bv false] [some (.arr 1 fl'.length (fI fl'))] [¬ (0 < j)] ⟨h6, trivial⟩ ?_
         refine x_false rfl ?_
         refine x_skip ?_
         refine xe_then ?_
         refine x_seq ?_
         by_cases h9 : (min 0 (at_ fl' ((((i - 1) * (b.length : Int)) + j).toNat))) = 1000000000
         ·refine x_r [(1, .dec true)] [0, 1, 2, 7, 8, 9, 10, 11, 12, 90] [20] [slFeat false a, slFeat false b, I band, I (a.length : Int), I (b.length : Int), .arr 20, I i, I j, I (min 0 (at_ fl' ((((i - 1) * (b.length : Int)) + j).toNat))), Bv true] [some (.arr 1 fl'.length (fI fl'))] [(min 0 (at_ fl' ((((i - 1) * (b.length : Int)) + j).toNat))) = 1000000000] ⟨h9, trivial⟩ ?_
          refine xe_then ?_
          refine x_true rfl ?_
          refine x_r [] [0, 1, 2, 7, 8, 9, 10, 11] [20] [slFeat false a, slFeat false b, I band, I (a.length : Int), I (b.length : Int), .arr 20, I i, I j] [some (.arr 1 fl'.length (fun q => bif Nat.beq q (((i * (b.length : Int)) + j).toNat) then [I 1000000000] else (fI fl') q))] [inR .i64 (i * (b.length : Int)), inR .i64 ((i * (b.length : Int)) + j), (0 : Int) ≤ ((i * (b.length : Int)) + j) ∧ ((i * (b.length : Int)) + j) < (fl'.length : Int), ((i * (b.length : Int)) + j).toNat < fl'.length] ⟨(inR_i64 (by omega) (by omega)), (inR_i64 (by omega) (by omega)), ⟨(by omega), (by omega)⟩, (by omega), trivial⟩ ?_
          refine xe_block 3 ?_
          refine xe_then ?_
          refine x_weak [] (T := [(0, slFeat false a), (1, slFeat false b), (2, I band), (7, I (a.length : Int)), (8, I (b.length : Int)), (9, .arr 20), (10, I i), (11, I j)]) (O := [(20, .arr 1 ((fl'.set (((i * (b.length : Int)) + j).toNat) 1000000000).length) (fI (fl'.set (((i * (b.length : Int)) + j).toNat) 1000000000)))]) rfl (⟨.inl rfl, .inl rfl, .inl rfl, .inl rfl, .inl rfl, .inl rfl, .inl rfl, .inl rfl, trivial⟩) (⟨.inr ⟨rfl, (by first | rfl | (simp; done) | (simp; omega) | omega), fun i_ hi_ => .inl (upd_enc (enc := cI) rfl i_ hi_)⟩, trivial⟩) ?_
          refine x_r [] [0, 1, 2, 7, 8, 9, 10, 11] [20] [slFeat false a, slFeat false b, I band, I (a.length : Int), I (b.length : Int), .arr 20, I i, I (j + 1)] [some (.arr 1 ((fl'.set (((i * (b.length : Int)) + j).toNat) 1000000000).length) (fI (fl'.set (((i * (b.length : Int)) + j).toNat) 1000000000)))] [inR .i64 (j + 1)] ⟨(inR_i64 (by omega) (by omega)), trivial⟩ ?_
          exact xe_again ((j + 1), (fl'.set (((i * (b.length : Int)) + j).toNat) 1000000000)) rfl (show (0 ≤ (j + 1) ∧ (j + 1) ≤ (b.length : Int)) ∧ (flOk a b band (fl'.set (((i * (b.length : Int)) + j).toNat) 1000000000) (i.toNat * b.length + (j + 1).toNat)) ∧ True from ⟨(by omega), (by rw [show (j + 1).toNat = j.toNat + 1 from by omega]; exact fl_step hin hi hj hka (by rw [hsb.2]; unfold sb3 sb2 sb1 sb0; (repeat' split) <;> omega)), trivial⟩) (by first | (show (((b.length : Int) - (j + 1)).toNat : Nat) < ((b.length : Int) - j).toNat; omega) | (dsimp only; omega))
         by_cases h10 : band < ((i - j).natAbs : Int)
         ·refine x_r [(1, .dec false), (6, .call [(true, .any)] true (I ((i - j).natAbs : Int))), (8, .dec true)] [0, 1, 2, 7, 8, 9, 10, 11, 12, 90] [20] [slFeat false a, slFeat false b, I band, I (a.length : Int), I (b.length : Int), .arr 20, I i, I j, I (min 0 (at_ fl' ((((i - 1) * (b.length : Int)) + j).toNat))), Bv true] [some (.arr 1 fl'.length (fI fl'))] [¬ ((min 0 (at_ fl' ((((i - 1) * (b.length : Int)) + j).toNat))) = 1000000000), inR .i64 (i - j), Con Tryz.prog 80 [I (i - j)] true (I ((i - j).natAbs : Int)) ∧ True, band < ((i - j).natAbs : Int)] ⟨h9, (inR_i64 (by omega) (by omega)), ⟨(l09Size_ok (i - j) (by omega)), trivial⟩, h10, trivial⟩ ?_
          refine xe_then ?_
          refine x_true rfl ?_
          refine x_r [] [0, 1, 2, 7, 8, 9, 10, 11] [20] [slFeat false a, slFeat false b, I band, I (a.length : Int), I (b.length : Int), .arr 20, I i, I j] [some (.arr 1 fl'.length (fun q => bif Nat.beq q (((i * (b.length : Int)) + j).toNat) then [I 1000000000] else (fI fl') q))] [inR .i64 (i * (b.length : Int)), inR .i64 ((i * (b.length : Int)) + j), (0 : Int) ≤ ((i * (b.length : Int)) + j) ∧ ((i * (b.length : Int)) + j) < (fl'.length : Int), ((i * (b.length : Int)) + j).toNat < fl'.length] ⟨(inR_i64 (by omega) (by omega)), (inR_i64 (by omega) (by omega)), ⟨(by omega), (by omega)⟩, (by omega), trivial⟩ ?_
          refine xe_block 3 ?_
          refine xe_then ?_
          refine x_weak [] (T := [(0, slFeat false a), (1, slFeat false b), (2, I band), (7, I (a.length : Int)), (8, I (b.length : Int)), (9, .arr 20), (10, I i), (11, I j)]) (O := [(20, .arr 1 ((fl'.set (((i * (b.length : Int)) + j).toNat) 1000000000).length) (fI (fl'.set (((i * (b.length : Int)) + j).toNat) 1000000000)))]) rfl (⟨.inl rfl, .inl rfl, .inl rfl, .inl rfl, .inl rfl, .inl rfl, .inl rfl, .inl rfl, trivial⟩) (⟨.inr ⟨rfl, (by first | rfl | (simp; done) | (simp; omega) | omega), fun i_ hi_ => .inl (upd_enc (enc := cI) rfl i_ hi_)⟩, trivial⟩) ?_
          refine x_r [] [0, 1, 2, 7, 8, 9, 10, 11] [20] [slFeat false a, slFeat false b, I band, I (a.length : Int), I (b.length : Int), .arr 20, I i, I (j + 1)] [some (.arr 1 ((fl'.set (((i * (b.length : Int)) + j).toNat) 1000000000).length) (fI (fl'.set (((i * (b.length : Int)) + j).toNat) 1000000000)))] [inR .i64 (j + 1)] ⟨(inR_i64 (by omega) (by omega)), trivial⟩ ?_
          exact xe_again ((j + 1), (fl'.set (((i * (b.length : Int)) + j).toNat) 1000000000)) rfl (show (0 ≤ (j + 1) ∧ (j + 1) ≤ (b.length : Int)) ∧ (flOk a b band (fl'.set (((i * (b.length : Int)) + j).toNat) 1000000000) (i.toNat * b.length + (j + 1).toNat)) ∧ True from ⟨(by omega), (by rw [show (j + 1).toNat = j.toNat + 1 from by omega]; exact fl_step hin hi hj hka (by rw [hsb.2]; unfold sb3 sb2 sb1 sb0; (repeat' split) <;> omega)), trivial⟩) (by first | (show (((b.length : Int) - (j + 1)).toNat : Nat) < ((b.length : Int) - j).toNat; omega) | (dsimp only; omega))
         refine x_r [(1, .dec false), (6, .call [(true, .any)] true (I ((i - j).natAbs : Int))), (8, .dec false)] [0, 1, 2, 7, 8, 9, 10, 11, 12, 90] [20] [slFeat false a, slFeat false b, I band, I (a.length : Int), I (b.length : Int), .arr 20, I i, I j, I (min 0 (at_ fl' ((((i - 1) * (b.length : Int)) + j).toNat))), Bv false] [some (.arr 1 fl'.length (fI fl'))] [¬ ((min 0 (at_ fl' ((((i - 1) * (b.length : Int)) + j).toNat))) = 1000000000), inR .i64 (i - j), Con Tryz.prog 80 [I (i - j)] true (I ((i - j).natAbs : Int)) ∧ True, ¬ (band < ((i - j).natAbs : Int))] ⟨h9, (inR_i64 (by omega) (by omega)), ⟨(l09Size_ok (i - j) (by omega)), trivial⟩, h10, trivial⟩ ?_
         refine xe_then ?_
         refine x_false rfl ?_
         refine x_r [(15, .call [(true, .any), (true, .any)] true (I (costF (at_ a i.toNat) (at_ b j.toNat))))] [0, 1, 2, 7, 8, 9, 10, 11] [20] [slFeat false a, slFeat false b, I band, I (a.length : Int), I (b.length : Int), .arr 20, I i, I j] [some (.arr 1 fl'.length (fun q => bif Nat.beq q (((i * (b.length : Int)) + j).toNat) then [I ((min 0 (at_ fl' ((((i - 1) * (b.length : Int)) + j).toNat))) + (costF (at_ a i.toNat) (at_ b j.toNat)))] else (fI fl') q))] [inR .i64 (i * (b.length : Int)), inR .i64 ((i * (b.length : Int)) + j), (0 : Int) ≤ i ∧ i < (a.length : Int), (0 : Int) ≤ j ∧ j < (b.length : Int), Con Tryz.prog 109 [agFeat (at_ a i.toNat), agFeat (at_ b j.toNat)] true (I (costF (at_ a i.toNat) (at_ b j.toNat))) ∧ True, inR .i64 ((min 0 (at_ fl' ((((i - 1) * (b.length : Int)) + j).toNat))) + (costF (at_ a i.toNat) (at_ b j.toNat))), (0 : Int) ≤ ((i * (b.length : Int)) + j) ∧ ((i * (b.length : Int)) + j) < (fl'.length : Int), ((i * (b.length : Int)) + j).toNat < fl'.length] ⟨(inR_i64 (by omega) (by omega)), (inR_i64 (by omega) (by omega)), ⟨(by omega), (by omega)⟩, ⟨(by omega), (by omega)⟩, ⟨(l09Cost_ok (at_ a i.toNat) (at_ b j.toNat) (by first | exact hab.1 _ (by omega) | exact hab.2.1 _ (by omega)) (by first | exact hab.1 _ (by omega) | exact hab.2.1 _ (by omega))), trivial⟩, (inR_i64 (by omega) (by omega)), ⟨(by omega), (by omega)⟩, (by omega), trivial⟩ ?_
         refine xe_block 3 ?_
         refine xe_then ?_
         refine x_weak [] (T := [(0, slFeat false a), (1, slFeat false b), (2, I band), (7, I (a.length : Int)), (8, I (b.length : Int)), (9, .arr 20), (10, I i), (11, I j)]) (O := [(20, .arr 1 ((fl'.set (((i * (b.length : Int)) + j).toNat) ((min 0 (at_ fl' ((((i - 1) * (b.length : Int)) + j).toNat))) + (costF (at_ a i.toNat) (at_ b j.toNat)))).length) (fI (fl'.set (((i * (b.length : Int)) + j).toNat) ((min 0 (at_ fl' ((((i - 1) * (b.length : Int)) + j).toNat))) + (costF (at_ a i.toNat) (at_ b j.toNat))))))]) rfl (⟨.inl rfl, .inl rfl, .inl rfl, .inl rfl, .inl rfl, .inl rfl, .inl rfl, .inl rfl, trivial⟩) (⟨.inr ⟨rfl, (by first | rfl | (simp; done) | (simp; omega) | omega), fun i_ hi_ => .inl (upd_enc (enc := cI) rfl i_ hi_)⟩, trivial⟩) ?_
         refine x_r [] [0, 1, 2, 7, 8, 9, 10, 11] [20] [slFeat false a, slFeat false b, I band, I (a.length : Int), I (b.length : Int), .arr 20, I i, I (j + 1)] [some (.arr 1 ((fl'.set (((i * (b.length : Int)) + j).toNat) ((min 0 (at_ fl' ((((i - 1) * (b.length : Int)) + j).toNat))) + (costF (at_ a i.toNat) (at_ b j.toNat)))).length) (fI (fl'.set (((i * (b.length : Int)) + j).toNat) ((min 0 (at_ fl' ((((i - 1) * (b.length : Int)) + j).toNat))) + (costF (at_ a i.toNat) (at_ b j.toNat))))))] [inR .i64 (j + 1)] ⟨(inR_i64 (by omega) (by omega)), trivial⟩ ?_
         exact xe_again ((j + 1), (fl'.set (((i * (b.length : Int)) + j).toNat) ((min 0 (at_ fl' ((((i - 1) * (b.length : Int)) + j).toNat))) + (costF (at_ a i.toNat) (at_ b j.toNat))))) rfl (show (0 ≤ (j + 1) ∧ (j + 1) ≤ (b.length : Int)) ∧ (flOk a b band (fl'.set (((i * (b.length : Int)) + j).toNat) ((min 0 (at_ fl' ((((i - 1) * (b.length : Int)) + j).toNat))) + (costF (at_ a i.toNat) (at_ b j.toNat)))) (i.toNat * b.length + (j + 1).toNat)) ∧ True from ⟨(by omega), (by rw [show (j + 1).toNat = j.toNat + 1 from by omega]; exact fl_step hin hi hj hka (by rw [hsb.2]; unfold sb3 sb2 sb1 sb0; (repeat' split) <;> omega)), trivial⟩) (by first | (show (((b.length : Int) - (j + 1)).toNat : Nat) < ((b.length : Int) - j).toNat; omega) | (dsimp only; omega))
        refine x_r [(1, .dec false)] [0, 1, 2, 7, 8, 9, 10, 11, 12, 42] [20] [slFeat false a, slFeat false b, I band, I (a.length : Int), I (b.length : Int), .arr 20, I i, I j, I 0, Bv false] [some (.arr 1 fl'.length (fI fl'))] [¬ (0 < i)] ⟨h5, trivial⟩ ?_
        refine xe_then ?_
        refine x_false rfl ?_
        refine x_skip ?_
        refine xe_then ?_
        refine x_seq ?_
        refine xR [(1, .dec false)] [0, 1, 2, 7, 8, 9, 10, 11, 12, 56] [20] [slFeat false a, slFeat false b, I band, I (a.length : Int), I (b.length : Int), .arr 20, I i, I j, I 0, Bv false] [some (.arr 1 fl'.length (fI fl'))] [¬ (0 < i)] ⟨h5, trivial⟩ ?_
        refine x_false rfl ?_
        refine x_skip ?_
        refine xe_then ?_
        refine x_seq ?_
        refine x_seq ?_
        by_cases h11 : 0 < j
        ·refine x_r [(1, .dec true)] [0, 1, 2, 7, 8, 9, 10, 11, 12, 69] [20] [slFeat false a, slFeat false b, I band, I (a.length : Int), I (b.length : Int), .arr 20, I i, I j, I 0, Bv true] [some (.arr 1 fl'.length (fI fl'))] [0 < j] ⟨h11, trivial⟩ ?_
         refine xe_then ?_
         refine x_true rfl ?_
         refine x_r [(10, .call [(true, .any), (true, .any)] true (I (min 0 (at_ fl' ((((i * (b.length : Int)) + j) - 1).toNat)))))] [0, 1, 2, 7, 8, 9, 10, 11, 12] [20] [slFeat false a, slFeat false b, I band, I (a.length : Int), I (b.length : Int), .arr 20, I i, I j, I (min 0 (at_ fl' ((((i * (b.length : Int)) + j) - 1).toNat)))] [some (.arr 1 fl'.length (fI fl'))] [inR .i64 (i * (b.length : Int)), inR .i64 ((i * (b.length : Int)) + j), inR .i64 (((i * (b.length : Int)) + j) - 1), (0 : Int) ≤ (((i * (b.length : Int)) + j) - 1) ∧ (((i * (b.length : Int)) + j) - 1) < (fl'.length : Int), (((i * (b.length : Int)) + j) - 1).toNat < fl'.length, Con Tryz.prog 62 [I 0, I (at_ fl' ((((i * (b.length : Int)) + j) - 1).toNat))] true (I (min 0 (at_ fl' ((((i * (b.length : Int)) + j) - 1).toNat)))) ∧ True] ⟨(inR_i64 (by omega) (by omega)), (inR_i64 (by omega) (by omega)), (inR_i64 (by omega) (by omega)), ⟨(by omega), (by omega)⟩, (by omega), ⟨(l00Min_ok 0 (at_ fl' ((((i * (b.length : Int)) + j) - 1).toNat))), trivial⟩, trivial⟩ ?_
         refine xe_then ?_
         refine x_seq ?_
         by_cases h12 : (min 0 (at_ fl' ((((i * (b.length : Int)) + j) - 1).toNat))) = 1000000000
         ·refine x_r [(1, .dec true)] [0, 1, 2, 7, 8, 9, 10, 11, 12, 90] [20] [slFeat false a, slFeat false b, I band, I (a.length : Int), I (b.length : Int), .arr 20, I i, I j, I (min 0 (at_ fl' ((((i * (b.length : Int)) + j) - 1).toNat))), Bv true] [some (.arr 1 fl'.length (fI fl'))] [(min 0 (at_ fl' ((((i * (b.length : Int)) + j) - 1).toNat))) = 1000000000] ⟨h12, trivial⟩ ?_
          refine xe_then ?_
          refine x_true rfl ?_
          refine x_r [] [0, 1, 2, 7, 8, 9, 10, 11] [20] [slFeat false a, slFeat false b, I band, I (a.length : Int), I (b.length : Int), .arr 20, I i, I j] [some (.arr 1 fl'.length (fun q => bif Nat.beq q (((i * (b.length : Int)) + j).toNat) then [I 1000000000] else (fI fl') q))] [inR .i64 (i * (b.length : Int)), inR .i64 ((i * (b.length : Int)) + j), (0 : Int) ≤ ((i * (b.length : Int)) + j) ∧ ((i * (b.length : Int)) + j) < (fl'.length : Int), ((i * (b.length : Int)) + j).toNat < fl'.length] ⟨(inR_i64 (by omega) (by omega)), (inR_i64 (by omega) (by omega)), ⟨(by omega), (by omega)⟩, (by omega), trivial⟩ ?_
          refine xe_block 3 ?_
          refine xe_then ?_
          refine x_weak [] (T := [(0, slFeat false a), (1, slFeat false b), (2, I band), (7, I (a.length : Int)), (8, I (b.length : Int)), (9, .arr 20), (10, I i), (11, I j)]) (O := [(20, .arr 1 ((fl'.set (((i * (b.length : Int)) + j).toNat) 1000000000).length) (fI (fl'.set (((i * (b.length : Int)) + j).toNat) 1000000000)))]) rfl (⟨.inl rfl, .inl rfl, .inl rfl, .inl rfl, .inl rfl, .inl rfl, .inl rfl, .inl rfl, trivial⟩) (⟨.inr ⟨rfl, (by first | rfl | (simp; done) | (simp; omega) | omega), fun i_ hi_ => .inl (upd_enc (enc := cI) rfl i_ hi_)⟩, trivial⟩) ?_
          refine x_r [] [0, 1, 2, 7, 8, 9, 10, 11] [20] [slFeat false a, slFeat false b, I band, I (a.length : Int), I (b.length : Int), .arr 20, I i, I (j + 1)] [some (.arr 1 ((fl'.set (((i * (b.length : Int)) + j).toNat) 1000000000).length) (fI (fl'.set (((i * (b.length : Int)) + j).toNat) 1000000000)))] [inR .i64 (j + 1)] ⟨(inR_i64 (by omega) (by omega)), trivial⟩ ?_
          exact xe_again ((j + 1), (fl'.set (((i * (b.length : Int)) + j).toNat) 1000000000)) rfl (show (0 ≤ (j + 1) ∧ (j + 1) ≤ (b.length : Int)) ∧ (flOk a b band (fl'.set (((i * (b.length : Int)) + j).toNat) 1000000000) (i.toNat * b.length + (j + 1).toNat)) ∧ True from ⟨(by omega), (by rw [show (j + 1).toNat = j.toNat + 1 from by omega]; exact fl_step hin hi hj hka (by rw [hsb.2]; unfold sb3 sb2 sb1 sb0; (repeat' split) <;> omega)), trivial⟩) (by first | (show (((b.length : Int) - (j + 1)).toNat : Nat) < ((b.length : Int) - j).toNat; omega) | (dsimp only; omega))
         by_cases h13 : band < ((i - j).natAbs : Int)
         ·refine x_r [(1, .dec false), (6, .call [(true, .any)] true (I ((i - j).natAbs : Int))), (8, .dec true)] [0, 1, 2, 7, 8, 9, 10, 11, 12, 90] [20] [slFeat false a, slFeat false b, I band, I (a.length : Int), I (b.length : Int), .arr 20, I i, I j, I (min 0 (at_ fl' ((((i * (b.length : Int)) + j) - 1).toNat))), Bv true] [some (.arr 1 fl'.length (fI fl'))] [¬ ((min 0 (at_ fl' ((((i * (b.length : Int)) + j) - 1).toNat))) = 1000000000), inR .i64 (i - j), Con Tryz.prog 80 [I (i - j)] true (I ((i - j).natAbs : Int)) ∧ True, band < ((i - j).natAbs : Int)] ⟨h12, (inR_i64 (by omega) (by omega)), ⟨(l09Size_ok (i - j) (by omega)), trivial⟩, h13, trivial⟩ ?_
          refine xe_then ?_
          refine x_true rfl ?_
          refine x_r [] [0, 1, 2, 7, 8, 9, 10, 11] [20] [slFeat false a, slFeat false b, I band, I (a.length : Int), I (b.length : Int), .arr 20, I i, I j] [some (.arr 1 fl'.length (fun q => bif Nat.beq q (((i * (b.length : Int)) + j).toNat) then [I 1000000000] else (fI fl') q))] [inR .i64 (i * (b.length : Int)), inR .i64 ((i * (b.length : Int)) + j), (0 : Int) ≤ ((i * (b.length : Int)) + j) ∧ ((i * (b.length : Int)) + j) < (fl'.length : Int), ((i * (b.length : Int)) + j).toNat < fl'.length] ⟨(inR_i64 (by omega) (by omega)), (inR_i64 (by omega) (by omega)), ⟨(by omega), (by omega)⟩, (by omega), trivial⟩ ?_
          refine xe_block 3 ?_
          refine xe_then ?_
          refine x_weak [] (T := [(0, slFeat false a), (1, slFeat false b), (2, I band), (7, I (a.length : Int)), (8, I (b.length : Int)), (9, .arr 20), (10, I i), (11, I j)]) (O := [(20, .arr 1 ((fl'.set (((i * (b.length : Int)) + j).toNat) 1000000000).length) (fI (fl'.set (((i * (b.length : Int)) + j).toNat) 1000000000)))]) rfl (⟨.inl rfl, .inl rfl, .inl rfl, .inl rfl, .inl rfl, .inl rfl, .inl rfl, .inl rfl, trivial⟩) (⟨.inr ⟨rfl, (by first | rfl | (simp; done) | (simp; omega) | omega), fun i_ hi_ => .inl (upd_enc (enc := cI) rfl i_ hi_)⟩, trivial⟩) ?_
          refine x_r [] [0, 1, 2, 7, 8, 9, 10, 11] [20] [slFeat false a, slFeat false b, I band, I (a.length : Int), I (b.length : Int), .arr 20, I i, I (j + 1)] [some (.arr 1 ((fl'.set (((i * (b.length : Int)) + j).toNat) 1000000000).length) (fI (fl'.set (((i * (b.length : Int)) + j).toNat) 1000000000)))] [inR .i64 (j + 1)] ⟨(inR_i64 (by omega) (by omega)), trivial⟩ ?_
          exact xe_again ((j + 1), (fl'.set (((i * (b.length : Int)) + j).toNat) 1000000000)) rfl (show (0 ≤ (j + 1) ∧ (j + 1) ≤ (b.length : Int)) ∧ (flOk a b band (fl'.set (((i * (b.length : Int)) + j).toNat) 1000000000) (i.toNat * b.length + (j + 1).toNat)) ∧ True from ⟨(by omega), (by rw [show (j + 1).toNat = j.toNat + 1 from by omega]; exact fl_step hin hi hj hka (by rw [hsb.2]; unfold sb3 sb2 sb1 sb0; (repeat' split) <;> omega)), trivial⟩) (by first | (show (((b.length : Int) - (j + 1)).toNat : Nat) < ((b.length : Int) - j).toNat; omega) | (dsimp only; omega))
         refine x_r [(1, .dec false), (6, .call [(true, .any)] true (I ((i - j).natAbs : Int))), (8, .dec false)] [0, 1, 2, 7, 8, 9, 10, 11, 12, 90] [20] [slFeat false a, slFeat false b, I band, I (a.length : Int), I (b.length : Int), .arr 20, I i, I j, I (min 0 (at_ fl' ((((i * (b.length : Int)) + j) - 1).toNat))), Bv false] [some (.arr 1 fl'.length (fI fl'))] [¬ ((min 0 (at_ fl' ((((i * (b.length : Int)) + j) - 1).toNat))) = 1000000000), inR .i64 (i - j), Con Tryz.prog 80 [I (i - j)] true (I ((i - j).natAbs : Int)) ∧ True, ¬ (band < ((i - j).natAbs : Int))] ⟨h12, (inR_i64 (by omega) (by omega)), ⟨(l09Size_ok (i - j) (by omega)), trivial⟩, h13, trivial⟩ ?_
         refine xe_then ?_
         refine x_false rfl ?_
         refine x_r [(15, .call [(true, .any), (true, .any)] true (I (costF (at_ a i.toNat) (at_ b j.toNat))))] [0, 1, 2, 7, 8, 9, 10, 11] [20] [slFeat false a, slFeat false b, I band, I (a.length : Int), I (b.length : Int), .arr 20, I i, I j] [some (.arr 1 fl'.length (fun q => bif Nat.beq q (((i * (b.length : Int)) + j).toNat) then [I ((min 0 (at_ fl' ((((i * (b.length : Int)) + j) - 1).toNat))) + (costF (at_ a i.toNat) (at_ b j.toNat)))] else (fI fl') q))] [inR .i64 (i * (b.length : Int)), inR .i64 ((i * (b.length : Int)) + j), (0 : Int) ≤ i ∧ i < (a.length : Int), (0 : Int) ≤ j ∧ j < (b.length : Int), Con Tryz.prog 109 [agFeat (at_ a i.toNat), agFeat (at_ b j.toNat)] true (I (costF (at_ a i.toNat) (at_ b j.toNat))) ∧ True, inR .i64 ((min 0 (at_ fl' ((((i * (b.length : Int)) + j) - 1).toNat))) + (costF (at_ a i.toNat) (at_ b j.toNat))), (0 : Int) ≤ ((i * (b.length : Int)) + j) ∧ ((i * (b.length : Int)) + j) < (fl'.length : Int), ((i * (b.length : Int)) + j).toNat < fl'.length] ⟨(inR_i64 (by omega) (by omega)), (inR_i64 (by omega) (by omega)), ⟨(by omega), (by omega)⟩, ⟨(by omega), (by omega)⟩, ⟨(l09Cost_ok (at_ a i.toNat) (at_ b j.toNat) (by first | exact hab.1 _ (by omega) | exact hab.2.1 _ (by omega)) (by first | exact hab.1 _ (by omega) | exact hab.2.1 _ (by omega))), trivial⟩, (inR_i64 (by omega) (by omega)), ⟨(by omega), (by omega)⟩, (by omega), trivial⟩ ?_
         refine xe_block 3 ?_
         refine xe_then ?_
         refine x_weak [] (T := [(0, slFeat false a), (1, slFeat false b), (2, I band), (7, I (a.length : Int)), (8, I (b.length : Int)), (9, .arr 20), (10, I i), (11, I j)]) (O := [(20, .arr 1 ((fl'.set (((i * (b.length : Int)) + j).toNat) ((min 0 (at_ fl' ((((i * (b.length : Int)) + j) - 1).toNat))) + (costF (at_ a i.toNat) (at_ b j.toNat)))).length) (fI (fl'.set (((i * (b.length : Int)) + j).toNat) ((min 0 (at_ fl' ((((i * (b.length : Int)) + j) - 1).toNat))) + (costF (at_ a i.toNat) (at_ b j.toNat))))))]) rfl (⟨.inl rfl, .inl rfl, .inl rfl, .inl rfl, .inl rfl, .inl rfl, .inl rfl, .inl rfl, trivial⟩) (⟨.inr ⟨rfl, (by first | rfl | (simp; done) | (simp; omega) | omega), fun i_ hi_ => .inl (upd_enc (enc := cI) rfl i_ hi_)⟩, trivial⟩) ?_
         refine x_r [] [0, 1, 2, 7, 8, 9, 10, 11] [20] [slFeat false a, slFeat false b, I band, I (a.length : Int), I (b.length : Int), .arr 20, I i, I (j + 1)] [some (.arr 1 ((fl'.set (((i * (b.length : Int)) + j).toNat) ((min 0 (at_ fl' ((((i * (b.length : Int)) + j) - 1).toNat))) + (costF (at_ a i.toNat) (at_ b j.toNat)))).length) (fI (fl'.set (((i * (b.length : Int)) + j).toNat) ((min 0 (at_ fl' ((((i * (b.length : Int)) + j) - 1).toNat))) + (costF (at_ a i.toNat) (at_ b j.toNat))))))] [inR .i64 (j + 1)] ⟨(inR_i64 (by omega) (by omega)), trivial⟩ ?_
         exact xe_again ((j + 1), (fl'.set (((i * (b.length : Int)) + j).toNat) ((min 0 (at_ fl' ((((i * (b.length : Int)) + j) - 1).toNat))) + (costF (at_ a i.toNat) (at_ b j.toNat))))) rfl (show (0 ≤ (j + 1) ∧ (j + 1) ≤ (b.length : Int)) ∧ (flOk a b band (fl'.set (((i * (b.length : Int)) + j).toNat) ((min 0 (at_ fl' ((((i * (b.length : Int)) + j) - 1).toNat))) + (costF (at_ a i.toNat) (at_ b j.toNat)))) (i.toNat * b.length + (j + 1).toNat)) ∧ True from ⟨(by omega), (by rw [show (j + 1).toNat = j.toNat + 1 from by omega]; exact fl_step hin hi hj hka (by rw [hsb.2]; unfold sb3 sb2 sb1 sb0; (repeat' split) <;> omega)), trivial⟩) (by first | (show (((b.length : Int) - (j + 1)).toNat : Nat) < ((b.length : Int) - j).toNat; omega) | (dsimp only; omega))
        refine x_r [(1, .dec false)] [0, 1, 2, 7, 8, 9, 10, 11, 12, 69] [20] [slFeat false a, slFeat false b, I band, I (a.length : Int), I (b.length : Int), .arr 20, I i, I j, I 0, Bv false] [some (.arr 1 fl'.length (fI fl'))] [¬ (0 < j)] ⟨h11, trivial⟩ ?_
        refine xe_then ?_
        refine x_false rfl ?_
        refine x_skip ?_
        refine xe_then ?_
        refine x_seq ?_
        by_cases h14 : band < ((i - j).natAbs : Int)
        ·refine x_r [(1, .dec false), (6, .call [(true, .any)] true (I ((i - j).natAbs : Int))), (8, .dec true)] [0, 1, 2, 7, 8, 9, 10, 11, 12, 90] [20] [slFeat false a, slFeat false b, I band, I (a.length : Int), I (b.length : Int), .arr 20, I i, I j, I 0, Bv true] [some (.arr 1 fl'.length (fI fl'))] [¬ ((0 : Int) = 1000000000), inR .i64 (i - j), Con Tryz.prog 80 [I (i - j)] true (I ((i - j).natAbs : Int)) ∧ True, band < ((i - j).natAbs : Int)] ⟨(by decide), (inR_i64 (by omega) (by omega)), ⟨(l09Size_ok (i - j) (by omega)), trivial⟩, h14, trivial⟩ ?_
         refine xe_then ?_
         refine x_true rfl ?_
         refine x_r [] [0, 1, 2, 7, 8, 9, 10, 11] [20] [slFeat false a, slFeat false b, I band, I (a.length : Int), I (b.length : Int), .arr 20, I i, I j] [some (.arr 1 fl'.length (fun q => bif Nat.beq q (((i * (b.length : Int)) + j).toNat) then [I 1000000000] else (fI fl') q))] [inR .i64 (i * (b.length : Int)), inR .i64 ((i * (b.length : Int)) + j), (0 : Int) ≤ ((i * (b.length : Int)) + j) ∧ ((i * (b.length : Int)) + j) < (fl'.length : Int), ((i * (b.length : Int)) + j).toNat < fl'.length] ⟨(inR_i64 (by omega) (by omega)), (inR_i64 (by omega) (by omega)), ⟨(by omega), (by omega)⟩, (by omega), trivial⟩ ?_
         refine xe_block 3 ?_
         refine xe_then ?_
         refine x_weak [] (T := [(0, slFeat false a), (1, slFeat false b), (2, I band), (7, I (a.length : Int)), (8, I (b.length : Int)), (9, .arr 20), (10, I i), (11, I j)]) (O := [(20, .arr 1 ((fl'.set (((i * (b.length : Int)) + j).toNat) 1000000000).length) (fI (fl'.set (((i * (b.length : Int)) + j).toNat) 1000000000)))]) rfl (⟨.inl rfl, .inl rfl, .inl rfl, .inl rfl, .inl rfl, .inl rfl, .inl rfl, .inl rfl, trivial⟩) (⟨.inr ⟨rfl, (by first | rfl | (simp; done) | (simp; omega) | omega), fun i_ hi_ => .inl (upd_enc (enc := cI) rfl i_ hi_)⟩, trivial⟩) ?_
         refine x_r [] [0, 1, 2, 7, 8, 9, 10, 11] [20] [slFeat false a, slFeat false b, I band, I (a.length : Int), I (b.length : Int), .arr 20, I i, I (j + 1)] [some (.arr 1 ((fl'.set (((i * (b.length : Int)) + j).toNat) 1000000000).length) (fI (fl'.set (((i * (b.length : Int)) + j).toNat) 1000000000)))] [inR .i64 (j + 1)] ⟨(inR_i64 (by omega) (by omega)), trivial⟩ ?_
         exact xe_again ((j + 1), (fl'.set (((i * (b.length : Int)) + j).toNat) 1000000000)) rfl (show (0 ≤ (j + 1) ∧ (j + 1) ≤ (b.length : Int)) ∧ (flOk a b band (fl'.set (((i * (b.length : Int)) + j).toNat) 1000000000) (i.toNat * b.length + (j + 1).toNat)) ∧ True from ⟨(by omega), (by rw [show (j + 1).toNat = j.toNat + 1 from by omega]; exact fl_step hin hi hj hka (by rw [hsb.2]; unfold sb3 sb2 sb1 sb0; (repeat' split) <;> omega)), trivial⟩) (by first | (show (((b.length : Int) - (j + 1)).toNat : Nat) < ((b.length : Int) - j).toNat; omega) | (dsimp only; omega))
        refine x_r [(1, .dec false), (6, .call [(true, .any)] true (I ((i - j).natAbs : Int))), (8, .dec false)] [0, 1, 2, 7, 8, 9, 10, 11, 12, 90] [20] [slFeat false a, slFeat false b, I band, I (a.length : Int), I (b.length : Int), .arr 20, I i, I j, I 0, Bv false] [some (.arr 1 fl'.length (fI fl'))] [¬ ((0 : Int) = 1000000000), inR .i64 (i - j), Con Tryz.prog 80 [I (i - j)] true (I ((i - j).natAbs : Int)) ∧ True, ¬ (band < ((i - j).natAbs : Int))] ⟨(by decide), (inR_i64 (by omega) (by omega)), ⟨(l09Size_ok (i - j) (by omega)), trivial⟩, h14, trivial⟩ ?_
        refine xe_then ?_
        refine x_false rfl ?_
        refine x_r [(15, .call [(true, .any), (true, .any)] true (I (costF (at_ a i.toNat) (at_ b j.toNat))))] [0, 1, 2, 7, 8, 9, 10, 11] [20] [slFeat false a, slFeat false b, I band, I (a.length : Int), I (b.length : Int), .arr 20, I i, I j] [some (.arr 1 fl'.length (fun q => bif Nat.beq q (((i * (b.length : Int)) + j).toNat) then [I (0 + (costF (at_ a i.toNat) (at_ b j.toNat)))] else (fI fl') q))] [inR .i64 (i * (b.length : Int)), inR .i64 ((i * (b.length : Int)) + j), (0 : Int) ≤ i ∧ i < (a.length : Int), (0 : Int) ≤ j ∧ j < (b.length : Int), Con Tryz.prog 109 [agFeat (at_ a i.toNat), agFeat (at_ b j.toNat)] true (I (costF (at_ a i.toNat) (at_ b j.toNat))) ∧ True, inR .i64 (0 + (costF (at_ a i.toNat) (at_ b j.toNat))), (0 : Int) ≤ ((i * (b.length : Int)) + j) ∧ ((i * (b.length : Int)) + j) < (fl'.length : Int), ((i * (b.length : Int)) + j).toNat < fl'.length] ⟨(inR_i64 (by omega) (by omega)), (inR_i64 (by omega) (by omega)), ⟨(by omega), (by omega)⟩, ⟨(by omega), (by omega)⟩, ⟨(l09Cost_ok (at_ a i.toNat) (at_ b j.toNat) (by first | exact hab.1 _ (by omega) | exact hab.2.1 _ (by omega)) (by first | exact hab.1 _ (by omega) | exact hab.2.1 _ (by omega))), trivial⟩, (inR_i64 (by omega) (by omega)), ⟨(by omega), (by omega)⟩, (by omega), trivial⟩ ?_
        refine xe_block 3 ?_
        refine xe_then ?_
        refine x_weak [] (T := [(0, slFeat false a), (1, slFeat false b), (2, I band), (7, I (a.length : Int)), (8, I (b.length : Int)), (9, .arr 20), (10, I i), (11, I j)]) (O := [(20, .arr 1 ((fl'.set (((i * (b.length : Int)) + j).toNat) (0 + (costF (at_ a i.toNat) (at_ b j.toNat)))).length) (fI (fl'.set (((i * (b.length : Int)) + j).toNat) (0 + (costF (at_ a i.toNat) (at_ b j.toNat))))))]) rfl (⟨.inl rfl, .inl rfl, .inl rfl, .inl rfl, .inl rfl, .inl rfl, .inl rfl, .inl rfl, trivial⟩) (⟨.inr ⟨rfl, (by first | rfl | (simp; done) | (simp; omega) | omega), fun i_ hi_ => .inl (upd_enc (enc := cI) rfl i_ hi_)⟩, trivial⟩) ?_
        refine x_r [] [0, 1, 2, 7, 8, 9, 10, 11] [20] [slFeat false a, slFeat false b, I band, I (a.length : Int), I (b.length : Int), .arr 20, I i, I (j + 1)] [some (.arr 1 ((fl'.set (((i * (b.length : Int)) + j).toNat) (0 + (costF (at_ a i.toNat) (at_ b j.toNat)))).length) (fI (fl'.set (((i * (b.length : Int)) + j).toNat) (0 + (costF (at_ a i.toNat) (at_ b j.toNat))))))] [inR .i64 (j + 1)] ⟨(inR_i64 (by omega) (by omega)), trivial⟩ ?_
        exact xe_again ((j + 1), (fl'.set (((i * (b.length : Int)) + j).toNat) (0 + (costF (at_ a i.toNat) (at_ b j.toNat))))) rfl (show (0 ≤ (j + 1) ∧ (j + 1) ≤ (b.length : Int)) ∧ (flOk a b band (fl'.set (((i * (b.length : Int)) + j).toNat) (0 + (costF (at_ a i.toNat) (at_ b j.toNat)))) (i.toNat * b.length + (j + 1).toNat)) ∧ True from ⟨(by omega), (by rw [show (j + 1).toNat = j.toNat + 1 from by omega]; exact fl_step hin hi hj hka (by rw [hsb.2]; unfold sb3 sb2 sb1 sb0; (repeat' split) <;> omega)), trivial⟩) (by first | (show (((b.length : Int) - (j + 1)).toNat : Nat) < ((b.length : Int) - j).toNat; omega) | (dsimp only; omega))
       refine x_r [(1, .dec true), (4, .dec false)] [0, 1, 2, 7, 8, 9, 10, 11, 12, 36] [20] [slFeat false a, slFeat false b, I band, I (a.length : Int), I (b.length : Int), .arr 20, I i, I j, I 1000000000, Bv false] [some (.arr 1 fl'.length (fI fl'))] [i = 0, ¬ (j = 0)] ⟨h3, h4, trivial⟩ ?_
       refine xe_then ?_
       refine x_false rfl ?_
       refine x_skip ?_
       refine xe_then ?_
       refine x_seq ?_
       refine x_seq ?_
       by_cases h15 : 0 < i
       ·by_cases h16 : 0 < j
        ·refine x_r [(1, .dec true), (4, .dec true)] [0, 1, 2, 7, 8, 9, 10, 11, 12, 42] [20] [slFeat false a, slFeat false b, I band, I (a.length : Int), I (b.length : Int), .arr 20, I i, I j, I 1000000000, Bv true] [some (.arr 1 fl'.length (fI fl'))] [0 < i, 0 < j] ⟨h15, h16, trivial⟩ ?_
         refine xe_then ?_
         refine x_true rfl ?_
         refine x_r [(11, .call [(true, .any), (true, .any)] true (I (min 1000000000 (at_ fl' (((((i - 1) * (b.length : Int)) + j) - 1).toNat)))))] [0, 1, 2, 7, 8, 9, 10, 11, 12] [20] [slFeat false a, slFeat false b, I band, I (a.length : Int), I (b.length : Int), .arr 20, I i, I j, I (min 1000000000 (at_ fl' (((((i - 1) * (b.length : Int)) + j) - 1).toNat)))] [some (.arr 1 fl'.length (fI fl'))] [inR .i64 (i - 1), inR .i64 ((i - 1) * (b.length : Int)), inR .i64 (((i - 1) * (b.length : Int)) + j), inR .i64 ((((i - 1) * (b.length : Int)) + j) - 1), (0 : Int) ≤ ((((i - 1) * (b.length : Int)) + j) - 1) ∧ ((((i - 1) * (b.length : Int)) + j) - 1) < (fl'.length : Int), ((((i - 1) * (b.length : Int)) + j) - 1).toNat < fl'.length, Con Tryz.prog 62 [I 1000000000, I (at_ fl' (((((i - 1) * (b.length : Int)) + j) - 1).toNat))] true (I (min 1000000000 (at_ fl' (((((i - 1) * (b.length : Int)) + j) - 1).toNat)))) ∧ True] ⟨(inR_i64 (by omega) (by omega)), (inR_i64 (by omega) (by omega)), (inR_i64 (by omega) (by omega)), (inR_i64 (by omega) (by omega)), ⟨(by omega), (by omega)⟩, (by omega), ⟨(l00Min_ok 1000000000 (at_ fl' (((((i - 1) * (b.length : Int)) + j) - 1).toNat))), trivial⟩, trivial⟩ ?_
         refine xe_then ?_
         refine x_seq ?_
         refine xR [(1, .dec true)] [0, 1, 2, 7, 8, 9, 10, 11, 12, 56] [20] [slFeat false a, slFeat false b, I band, I (a.length : Int), I (b.length : Int), .arr 20, I i, I j, I (min 1000000000 (at_ fl' (((((i - 1) * (b.length : Int)) + j) - 1).toNat))), Bv true] [some (.arr 1 fl'.length (fI fl'))] [0 < i] ⟨h15, trivial⟩ ?_
         refine x_true rfl ?_
         refine x_r [(10, .call [(true, .any), (true, .any)] true (I (min (min 1000000000 (at_ fl' (((((i - 1) * (b.length : Int)) + j) - 1).toNat))) (at_ fl' ((((i - 1) * (b.length : Int)) + j).toNat)))))] [0, 1, 2, 7, 8, 9, 10, 11, 12] [20] [slFeat false a, slFeat false b, I band, I (a.length : Int), I (b.length : Int), .arr 20, I i, I j, I (min (min 1000000000 (at_ fl' (((((i - 1) * (b.length : Int)) + j) - 1).toNat))) (at_ fl' ((((i - 1) * (b.length : Int)) + j).toNat)))] [some (.arr 1 fl'.length (fI fl'))] [inR .i64 (i - 1), inR .i64 ((i - 1) * (b.length : Int)), inR .i64 (((i - 1) * (b.length : Int)) + j), (0 : Int) ≤ (((i - 1) * (b.length : Int)) + j) ∧ (((i - 1) * (b.length : Int)) + j) < (fl'.length : Int), (((i - 1) * (b.length : Int)) + j).toNat < fl'.length, Con Tryz.prog 62 [I (min 1000000000 (at_ fl' (((((i - 1) * (b.length : Int)) + j) - 1).toNat))), I (at_ fl' ((((i - 1) * (b.length : Int)) + j).toNat))] true (I (min (min 1000000000 (at_ fl' (((((i - 1) * (b.length : Int)) + j) - 1).toNat))) (at_ fl' ((((i - 1) * (b.length : Int)) + j).toNat)))) ∧ True] ⟨(inR_i64 (by omega) (by omega)), (inR_i64 (by omega) (by omega)), (inR_i64 (by omega) (by omega)), ⟨(by omega), (by omega)⟩, (by omega), ⟨(l00Min_ok (min 1000000000 (at_ fl' (((((i - 1) * (b.length : Int)) + j) - 1).toNat))) (at_ fl' ((((i - 1) * (b.length : Int)) + j).toNat))), trivial⟩, trivial⟩ ?_
         refine xe_then ?_
         refine x_seq ?_
         refine xR [(1, .dec true)] [0, 1, 2, 7, 8, 9, 10, 11, 12, 69] [20] [slFeat false a, slFeat false b, I band, I (a.length : Int), I (b.length : Int), .arr 20, I i, I j, I (min (min 1000000000 (at_ fl' (((((i - 1) * (b.length : Int)) + j) - 1).toNat))) (at_ fl' ((((i - 1) * (b.length : Int)) + j).toNat))), Bv true] [some (.arr 1 fl'.length (fI fl'))] [0 < j] ⟨h16, trivial⟩ ?_
         refine x_true rfl ?_
         refine x_r [(10, .call [(true, .any), (true, .any)] true (I (min (min (min 1000000000 (at_ fl' (((((i - 1) * (b.length : Int)) + j) - 1).toNat))) (at_ fl' ((((i - 1) * (b.length : Int)) + j).toNat))) (at_ fl' ((((i * (b.length : Int)) + j) - 1).toNat)))))] [0, 1, 2, 7, 8, 9, 10, 11, 12] [20] [slFeat false a, slFeat false b, I band, I (a.length : Int), I (b.length : Int), .arr 20, I i, I j, I (min (min (min 1000000000 (at_ fl' (((((i - 1) * (b.length : Int)) + j) - 1).toNat))) (at_ fl' ((((i - 1) * (b.length : Int)) + j).toNat))) (at_ fl' ((((i * (b.length : Int)) + j) - 1).toNat)))] [some (.arr 1 fl'.length (fI fl'))] [inR .i64 (i * (b.length : Int)), inR .i64 ((i * (b.length : Int)) + j), inR .i64 (((i * (b.length : Int)) + j) - 1), (0 : Int) ≤ (((i * (b.length : Int)) + j) - 1) ∧ (((i * (b.length : Int)) + j) - 1) < (fl'.length : Int), (((i * (b.length : Int)) + j) - 1).toNat < fl'.length, Con Tryz.prog 62 [I (min (min 1000000000 (at_ fl' (((((i - 1) * (b.length : Int)) + j) - 1).toNat))) (at_ fl' ((((i - 1) * (b.length : Int)) + j).toNat))), I (at_ fl' ((((i * (b.length : Int)) + j) - 1).toNat))] true (I (min (min (min 1000000000 (at_ fl' (((((i - 1) * (b.length : Int)) + j) - 1).toNat))) (at_ fl' ((((i - 1) * (b.length : Int)) + j).toNat))) (at_ fl' ((((i * (b.length : Int)) + j) - 1).toNat)))) ∧ True] ⟨(inR_i64 (by omega) (by omega)), (inR_i64 (by omega) (by omega)), (inR_i64 (by omega) (by omega)), ⟨(by omega), (by omega)⟩, (by omega), ⟨(l00Min_ok (min (min 1000000000 (at_ fl' (((((i - 1) * (b.length : Int)) + j) - 1).toNat))) (at_ fl' ((((i - 1) * (b.length : Int)) + j).toNat))) (at_ fl' ((((i * (b.length : Int)) + j) - 1).toNat))), trivial⟩, trivial⟩ ?_
         refine xe_then ?_
         refine x_seq ?_
         by_cases h17 : (min (min (min 1000000000 (at_ fl' (((((i - 1) * (b.length : Int)) + j) - 1).toNat))) (at_ fl' ((((i - 1) * (b.length : Int)) + j).toNat))) (at_ fl' ((((i * (b.length : Int)) + j) - 1).toNat))) = 1000000000
         ·refine x_r [(1, .dec true)] [0, 1, 2, 7, 8, 9, 10, 11, 12, 90] [20] [slFeat false a, slFeat false b, I band, I (a.length : Int), I (b.length : Int), .arr 20, I i, I j, I (min (min (min 1000000000 (at_ fl' (((((i - 1) * (b.length : Int)) + j) - 1).toNat))) (at_ fl' ((((i - 1) * (b.length : Int)) + j).toNat))) (at_ fl' ((((i * (b.length : Int)) + j) - 1).toNat))), Bv true] [some (.arr 1 fl'.length (fI fl'))] [(min (min (min 1000000000 (at_ fl' (((((i - 1) * (b.length : Int)) + j) - 1).toNat))) (at_ fl' ((((i - 1) * (b.length : Int)) + j).toNat))) (at_ fl' ((((i * (b.length : Int)) + j) - 1).toNat))) = 1000000000] ⟨h17, trivial⟩ ?_
          refine xe_then ?_
          refine x_true rfl ?_
          refine x_r [] [0, 1, 2, 7, 8, 9, 10, 11] [20] [slFeat false a, slFeat false b, I band, I (a.length : Int), I (b.length : Int), .arr 20, I i, I j] [some (.arr 1 fl'.length (fun q => bif Nat.beq q (((i * (b.length : Int)) + j).toNat) then [I 1000000000] else (fI fl') q))] [inR .i64 (i * (b.length : Int)), inR .i64 ((i * (b.length : Int)) + j), (0 : Int) ≤ ((i * (b.length : Int)) + j) ∧ ((i * (b.length : Int)) + j) < (fl'.length : Int), ((i * (b.length : Int)) + j).toNat < fl'.length] ⟨(inR_i64 (by omega) (by omega)), (inR_i64 (by omega) (by omega)), ⟨(by omega), (by omega)⟩, (by omega), trivial⟩ ?_
          refine xe_block 3 ?_
          refine xe_then ?_
          refine x_weak [] (T := [(0, slFeat false a), (1, slFeat false b), (2, I band), (7, I (a.length : Int)), (8, I (b.length : Int)), (9, .arr 20), (10, I i), (11, I j)]) (O := [(20, .arr 1 ((fl'.set (((i * (b.length : Int)) + j).toNat) 1000000000).length) (fI (fl'.set (((i * (b.length : Int)) + j).toNat) 1000000000)))]) rfl (⟨.inl rfl, .inl rfl, .inl rfl, .inl rfl, .inl rfl, .inl rfl, .inl rfl, .inl rfl, trivial⟩) (⟨.inr ⟨rfl, (by first | rfl | (simp; done) | (simp; omega) | omega), fun i_ hi_ => .inl (upd_enc (enc := cI) rfl i_ hi_)⟩, trivial⟩) ?_
          refine x_r [] [0, 1, 2, 7, 8, 9, 10, 11] [20] [slFeat false a, slFeat false b, I band, I (a.length : Int), I (b.length : Int), .arr 20, I i, I (j + 1)] [some (.arr 1 ((fl'.set (((i * (b.length : Int)) + j).toNat) 1000000000).length) (fI (fl'.set (((i * (b.length : Int)) + j).toNat) 1000000000)))] [inR .i64 (j + 1)] ⟨(inR_i64 (by omega) (by omega)), trivial⟩ ?_
          exact xe_again ((j + 1), (fl'.set (((i * (b.length : Int)) + j).toNat) 1000000000)) rfl (show (0 ≤ (j + 1) ∧ (j + 1) ≤ (b.length : Int)) ∧ (flOk a b band (fl'.set (((i * (b.length : Int)) + j).toNat) 1000000000) (i.toNat * b.length + (j + 1).toNat)) ∧ True from ⟨(by omega), (by rw [show (j + 1).toNat = j.toNat + 1 from by omega]; exact fl_step hin hi hj hka (by rw [hsb.2]; unfold sb3 sb2 sb1 sb0; (repeat' split) <;> omega)), trivial⟩) (by first | (show (((b.length : Int) - (j + 1)).toNat : Nat) < ((b.length : Int) - j).toNat; omega) | (dsimp only; omega))
         by_cases h18 : band < ((i - j).natAbs : Int)
         ·refine x_r [(1, .dec false), (6, .call [(true, .any)] true (I ((i - j).natAbs : Int))), (8, .dec true)] [0, 1, 2, 7, 8, 9, 10, 11, 12, 90] [20] [slFeat false a, slFeat false b, I band, I (a.length : Int), I (b.length : Int), .arr 20, I i, I j, I (min (min (min 1000000000 (at_ fl' (((((i - 1) * (b.length : Int)) + j) - 1).toNat))) (at_ fl' ((((i - 1) * (b.length : Int)) + j).toNat))) (at_ fl' ((((i * (b.length : Int)) + j) - 1).toNat))), Bv true] [some (.arr 1 fl'.length (fI fl'))] [¬ ((min (min (min 1000000000 (at_ fl' (((((i - 1) * (b.length : Int)) + j) - 1).toNat))) (at_ fl' ((((i - 1) * (b.length : Int)) + j).toNat))) (at_ fl' ((((i * (b.length : Int)) + j) - 1).toNat))) = 1000000000), inR .i64 (i - j), Con Tryz.prog 80 [I (i - j)] true (I ((i - j).natAbs : Int)) ∧ True, band < ((i - j).natAbs : Int)] ⟨h17, (inR_i64 (by omega) (by omega)), ⟨(l09Size_ok (i - j) (by omega)), trivial⟩, h18, trivial⟩ ?_
          refine xe_then ?_
          refine x_true rfl ?_
          refine x_r [] [0, 1, 2, 7, 8, 9, 10, 11] [20] [slFeat false a, slFeat false b, I band, I (a.length : Int), I (b.length : Int), .arr 20, I i, I j] [some (.arr 1 fl'.length (fun q => bif Nat.beq q (((i * (b.length : Int)) + j).toNat) then [I 1000000000] else (fI fl') q))] [inR .i64 (i * (b.length : Int)), inR .i64 ((i * (b.length : Int)) + j), (0 : Int) ≤ ((i * (b.length : Int)) + j) ∧ ((i * (b.length : Int)) + j) < (fl'.length : Int), ((i * (b.length : Int)) + j).toNat < fl'.length] ⟨(inR_i64 (by omega) (by omega)), (inR_i64 (by omega) (by omega)), ⟨(by omega), (by omega)⟩, (by omega), trivial⟩ ?_
          refine xe_block 3 ?_
          refine xe_then ?_
          refine x_weak [] (T := [(0, slFeat false a), (1, slFeat false b), (2, I band), (7, I (a.length : Int)), (8, I (b.length : Int)), (9, .arr 20), (10, I i), (11, I j)]) (O := [(20, .arr 1 ((fl'.set (((i * (b.length : Int)) + j).toNat) 1000000000).length) (fI (fl'.set (((i * (b.length : Int)) + j).toNat) 1000000000)))]) rfl (⟨.inl rfl, .inl rfl, .inl rfl, .inl rfl, .inl rfl, .inl rfl, .inl rfl, .inl rfl, trivial⟩) (⟨.inr ⟨rfl, (by first | rfl | (simp; done) | (simp; omega) | omega), fun i_ hi_ => .inl (upd_enc (enc := cI) rfl i_ hi_)⟩, trivial⟩) ?_
          refine x_r [] [0, 1, 2, 7, 8, 9, 10, 11] [20] [slFeat false a, slFeat false b, I band, I (a.length : Int), I (b.length : Int), .arr 20, I i, I (j + 1)] [some (.arr 1 ((fl'.set (((i * (b.length : Int)) + j).toNat) 1000000000).length) (fI (fl'.set (((i * (b.length : Int)) + j).toNat) 1000000000)))] [inR .i64 (j + 1)] ⟨(inR_i64 (by omega) (by omega)), trivial⟩ ?_
          exact xe_again ((j + 1), (fl'.set (((i * (b.length : Int)) + j).toNat) 1000000000)) rfl (show (0 ≤ (j + 1) ∧ (j + 1) ≤ (b.length : Int)) ∧ (flOk a b band (fl'.set (((i * (b.length : Int)) + j).toNat) 1000000000) (i.toNat * b.length + (j + 1).toNat)) ∧ True from ⟨(by omega), (by rw [show (j + 1).toNat = j.toNat + 1 from by omega]; exact fl_step hin hi hj hka (by rw [hsb.2]; unfold sb3 sb2 sb1 sb0; (repeat' split) <;> omega)), trivial⟩) (by first | (show (((b.length : Int) - (j + 1)).toNat : Nat) < ((b.length : Int) - j).toNat; omega) | (dsimp only; omega))
         refine x_r [(1, .dec false), (6, .call [(true, .any)] true (I ((i - j).natAbs : Int))), (8, .dec false)] [0, 1, 2, 7, 8, 9, 10, 11, 12, 90] [20] [slFeat false a, slFeat false b, I band, I (a.length : Int), I (b.length : Int), .arr 20, I i, I j, I (min (min (min 1000000000 (at_ fl' (((((i - 1) * (b.length : Int)) + j) - 1).toNat))) (at_ fl' ((((i - 1) * (b.length : Int)) + j).toNat))) (at_ fl' ((((i * (b.length : Int)) + j) - 1).toNat))), Bv false] [some (.arr 1 fl'.length (fI fl'))] [¬ ((min (min (min 1000000000 (at_ fl' (((((i - 1) * (b.length : Int)) + j) - 1).toNat))) (at_ fl' ((((i - 1) * (b.length : Int)) + j).toNat))) (at_ fl' ((((i * (b.length : Int)) + j) - 1).toNat))) = 1000000000), inR .i64 (i - j), Con Tryz.prog 80 [I (i - j)] true (I ((i - j).natAbs : Int)) ∧ True, ¬ (band < ((i - j).natAbs : Int))] ⟨h17, (inR_i64 (by omega) (by omega)), ⟨(l09Size_ok (i - j) (by omega)), trivial⟩, h18, trivial⟩ ?_
         refine xe_then ?_
         refine x_false rfl ?_
         refine x_r [(15, .call [(true, .any), (true, .any)] true (I (costF (at_ a i.toNat) (at_ b j.toNat))))] [0, 1, 2, 7, 8, 9, 10, 11] [20] [slFeat false a, slFeat false b, I band, I (a.length : Int), I (b.length : Int), .arr 20, I i, I j] [some (.arr 1 fl'.length (fun q => bif Nat.beq q (((i * (b.length : Int)) + j).toNat) then [I ((min (min (min 1000000000 (at_ fl' (((((i - 1) * (b.length : Int)) + j) - 1).toNat))) (at_ fl' ((((i - 1) * (b.length : Int)) + j).toNat))) (at_ fl' ((((i * (b.length : Int)) + j) - 1).toNat))) + (costF (at_ a i.toNat) (at_ b j.toNat)))] else (fI fl') q))] [inR .i64 (i * (b.length : Int)), inR .i64 ((i * (b.length : Int)) + j), (0 : Int) ≤ i ∧ i < (a.length : Int), (0 : Int) ≤ j ∧ j < (b.length : Int), Con Tryz.prog 109 [agFeat (at_ a i.toNat), agFeat (at_ b j.toNat)] true (I (costF (at_ a i.toNat) (at_ b j.toNat))) ∧ True, inR .i64 ((min (min (min 1000000000 (at_ fl' (((((i - 1) * (b.length : Int)) + j) - 1).toNat))) (at_ fl' ((((i - 1) * (b.length : Int)) + j).toNat))) (at_ fl' ((((i * (b.length : Int)) + j) - 1).toNat))) + (costF (at_ a i.toNat) (at_ b j.toNat))), (0 : Int) ≤ ((i * (b.length : Int)) + j) ∧ ((i * (b.length : Int)) + j) < (fl'.length : Int), ((i * (b.length : Int)) + j).toNat < fl'.length] ⟨(inR_i64 (by omega) (by omega)), (inR_i64 (by omega) (by omega)), ⟨(by omega), (by omega)⟩, ⟨(by omega), (by omega)⟩, ⟨(l09Cost_ok (at_ a i.toNat) (at_ b j.toNat) (by first | exact hab.1 _ (by omega) | exact hab.2.1 _ (by omega)) (by first | exact hab.1 _ (by omega) | exact hab.2.1 _ (by omega))), trivial⟩, (inR_i64 (by omega) (by omega)), ⟨(by omega), (by omega)⟩, (by omega), trivial⟩ ?_
         refine xe_block 3 ?_
         refine xe_then ?_
         refine x_weak [] (T := [(0, slFeat false a), (1, slFeat false b), (2, I band), (7, I (a.length : Int)), (8, I (b.length : Int)), (9, .arr 20), (10, I i), (11, I j)]) (O := [(20, .arr 1 ((fl'.set (((i * (b.length : Int)) + j).toNat) ((min (min (min 1000000000 (at_ fl' (((((i - 1) * (b.length : Int)) + j) - 1).toNat))) (at_ fl' ((((i - 1) * (b.length : Int)) + j).toNat))) (at_ fl' ((((i * (b.length : Int)) + j) - 1).toNat))) + (costF (at_ a i.toNat) (at_ b j.toNat)))).length) (fI (fl'.set (((i * (b.length : Int)) + j).toNat) ((min (min (min 1000000000 (at_ fl' (((((i - 1) * (b.length : Int)) + j) - 1).toNat))) (at_ fl' ((((i - 1) * (b.length : Int)) + j).toNat))) (at_ fl' ((((i * (b.length : Int)) + j) - 1).toNat))) + (costF (at_ a i.toNat) (at_ b j.toNat))))))]) rfl (⟨.inl rfl, .inl rfl, .inl rfl, .inl rfl, .inl rfl, .inl rfl, .inl rfl, .inl rfl, trivial⟩) (⟨.inr ⟨rfl, (by first | rfl | (simp; done) | (simp; omega) | omega), fun i_ hi_ => .inl (upd_enc (enc := cI) rfl i_ hi_)⟩, trivial⟩) ?_
         refine x_r [] [0, 1, 2, 7, 8, 9, 10, 11] [20] [slFeat false a, slFeat false b, I band, I (a.length : Int), I (b.length : Int), .arr 20, I i, I (j + 1)] [some (.arr 1 ((fl'.set (((i * (b.length : Int)) + j).toNat) ((min (min (min 1000000000 (at_ fl' (((((i - 1) * (b.length : Int)) + j) - 1).toNat))) (at_ fl' ((((i - 1) * (b.length : Int)) + j).toNat))) (at_ fl' ((((i * (b.length : Int)) + j) - 1).toNat))) + (costF (at_ a i.toNat) (at_ b j.toNat)))).length) (fI (fl'.set (((i * (b.length : Int)) + j).toNat) ((min (min (min 1000000000 (at_ fl' (((((i - 1) * (b.length : Int)) + j) - 1).toNat))) (at_ fl' ((((i - 1) * (b.length : Int)) + j).toNat))) (at_ fl' ((((i * (b.length : Int)) + j) - 1).toNat))) + (costF (at_ a i.toNat) (at_ b j.toNat))))))] [inR .i64 (j + 1)] ⟨(inR_i64 (by omega) (by omega)), trivial⟩ ?_
         exact xe_again ((j + 1), (fl'.set (((i * (b.length : Int)) + j).toNat) ((min (min (min 1000000000 (at_ fl' (((((i - 1) * (b.length : Int)) + j) - 1).toNat))) (at_ fl' ((((i - 1) * (b.length : Int)) + j).toNat))) (at_ fl' ((((i * (b.length : Int)) + j) - 1).toNat))) + (costF (at_ a i.toNat) (at_ b j.toNat))))) rfl (show (0 ≤ (j + 1) ∧ (j + 1) ≤ (b.length : Int)) ∧ (flOk a b band (fl'.set (((i * (b.length : Int)) + j).toNat) ((min (min (min 1000000000 (at_ fl' (((((i - 1) * (b.length : Int)) + j) - 1).toNat))) (at_ fl' ((((i - 1) * (b.length : Int)) + j).toNat))) (at_ fl' ((((i * (b.length : Int)) + j) - 1).toNat))) + (costF (at_ a i.toNat) (at_ b j.toNat)))) (i.toNat * b.length + (j + 1).toNat)) ∧ True from ⟨(by omega), (by rw [show (j + 1).toNat = j.toNat + 1 from by omega]; exact fl_step hin hi hj hka (by rw [hsb.2]; unfold sb3 sb2 sb1 sb0; (repeat' split) <;> omega)), trivial⟩) (by first | (show (((b.length : Int) - (j + 1)).toNat : Nat) < ((b.length : Int) - j).toNat; omega) | (dsimp only; omega))
        refine x_r [(1, .dec true), (4, .dec false)] [0, 1, 2, 7, 8, 9, 10, 11, 12, 42] [20] [slFeat false a, slFeat false b, I band, I (a.length : Int), I (b.length : Int), .arr 20, I i, I j, I 1000000000, Bv false] [some (.arr 1 fl'.length (fI fl'))] [0 < i, ¬ (0 < j)] ⟨h15, h16, trivial⟩ ?_
        refine xe_then ?_
        refine x_false rfl ?_
        refine x_skip ?_
        refine xe_then ?_
        refine x_seq ?_
        refine xR [(1, .dec true)] [0, 1, 2, 7, 8, 9, 10, 11, 12, 56] [20] [slFeat false a, slFeat false b, I band, I (a.length : Int), I (b.length : Int), .arr 20, I i, I j, I 1000000000, Bv true] [some (.arr 1 fl'.length (fI fl'))] [0 < i] ⟨h15, trivial⟩ ?_
        refine x_true rfl ?_
        refine x_r [(10, .call [(true, .any), (true, .any)] true (I (min 1000000000 (at_ fl' ((((i - 1) * (b.length : Int)) + j).toNat)))))] [0, 1, 2, 7, 8, 9, 10, 11, 12] [20] [slFeat false a, slFeat false b, I band, I (a.length : Int), I (b.length : Int), .arr 20, I i, I j, I (min 1000000000 (at_ fl' ((((i - 1) * (b.length : Int)) + j).toNat)))] [some (.arr 1 fl'.length (fI fl'))] [inR .i64 (i - 1), inR .i64 ((i - 1) * (b.length : Int)), inR .i64 (((i - 1) * (b.length : Int)) + j), (0 : Int) ≤ (((i - 1) * (b.length : Int)) + j) ∧ (((i - 1) * (b.length : Int)) + j) < (fl'.length : Int), (((i - 1) * (b.length : Int)) + j).toNat < fl'.length, Con Tryz.prog 62 [I 1000000000, I (at_ fl' ((((i - 1) * (b.length : Int)) + j).toNat))] true (I (min 1000000000 (at_ fl' ((((i - 1) * (b.length : Int)) + j).toNat)))) ∧ True] ⟨(inR_i64 (by omega) (by omega)), (inR_i64 (by omega) (by omega)), (inR_i64 (by omega) (by omega)), ⟨(by omega), (by omega)⟩, (by omega), ⟨(l00Min_ok 1000000000 (at_ fl' ((((i - 1) * (b.length : Int)) + j).toNat))), trivial⟩, trivial⟩ ?_
        refine xe_then ?_
        refine x_seq ?_
        refine xR [(1, .dec false)] [0, 1, 2, 7, 8, 9, 10, 11, 12, 69] [20] [slFeat false a, slFeat false b, I band, I (a.length : Int), I (b.length : Int), .arr 20, I i, I j, I (min 1000000000 (at_ fl' ((((i - 1) * (b.length : Int)) + j).toNat))), Bv false] [some (.arr 1 fl'.length (fI fl'))] [¬ (0 < j)] ⟨h16, trivial⟩ ?_
        refine x_false rfl ?_
        refine x_skip ?_
        refine xe_then ?_
        refine x_seq ?_
        by_cases h19 : (min 1000000000 (at_ fl' ((((i - 1) * (b.length : Int)) + j).toNat))) = 1000000000
        ·refine x_r [(1, .dec true)] [0, 1, 2, 7, 8, 9, 10, 11, 12, 90] [20] [slFeat false a, slFeat false b, I band, I (a.length : Int), I (b.length : Int), .arr 20, I i, I j, I (min 1000000000 (at_ fl' ((((i - 1) * (b.length : Int)) + j).toNat))), Bv true] [some (.arr 1 fl'.length (fI fl'))] [(min 1000000000 (at_ fl' ((((i - 1) * (b.length : Int)) + j).toNat))) = 1000000000] ⟨h19, trivial⟩ ?_
         refine xe_then ?_
         refine x_true rfl ?_
         refine x_r [] [0, 1, 2, 7, 8, 9, 10, 11] [20] [slFeat false a, slFeat false b, I band, I (a.length : Int), I (b.length : Int), .arr 20, I i, I j] [some (.arr 1 fl'.length (fun q => bif Nat.beq q (((i * (b.length : Int)) + j).toNat) then [I 1000000000] else (fI fl') q))] [inR .i64 (i * (b.length : Int)), inR .i64 ((i * (b.length : Int)) + j), (0 : Int) ≤ ((i * (b.length : Int)) + j) ∧ ((i * (b.length : Int)) + j) < (fl'.length : Int), ((i * (b.length : Int)) + j).toNat < fl'.length] ⟨(inR_i64 (by omega) (by omega)), (inR_i64 (by omega) (by omega)), ⟨(by omega), (by omega)⟩, (by omega), trivial⟩ ?_
         refine xe_block 3 ?_
         refine xe_then ?_
         refine x_weak [] (T := [(0, slFeat false a), (1, slFeat false b), (2, I band), (7, I (a.length : Int)), (8, I (b.length : Int)), (9, .arr 20), (10, I i), (11, I j)]) (O := [(20, .arr 1 ((fl'.set (((i * (b.length : Int)) + j).toNat) 1000000000).length) (fI (fl'.set (((i * (b.length : Int)) + j).toNat) 1000000000)))]) rfl (⟨.inl rfl, .inl rfl, .inl rfl, .inl rfl, .inl rfl, .inl rfl, .inl rfl, .inl rfl, trivial⟩) (⟨.inr ⟨rfl, (by first | rfl | (simp; done) | (simp; omega) | omega), fun i_ hi_ => .inl (upd_enc (enc := cI) rfl i_ hi_)⟩, trivial⟩) ?_
         refine x_r [] [0, 1, 2, 7, 8, 9, 10, 11] [20] [slFeat false a, slFeat false b, I band, I (a.length : Int), I (b.length : Int), .arr 20, I i, I (j + 1)] [some (.arr 1 ((fl'.set (((i * (b.length : Int)) + j).toNat) 1000000000).length) (fI (fl'.set (((i * (b.length : Int)) + j).toNat) 1000000000)))] [inR .i64 (j + 1)] ⟨(inR_i64 (by omega) (by omega)), trivial⟩ ?_
         exact xe_again ((j + 1), (fl'.set (((i * (b.length : Int)) + j).toNat) 1000000000)) rfl (show (0 ≤ (j + 1) ∧ (j + 1) ≤ (b.length : Int)) ∧ (flOk a b band (fl'.set (((i * (b.length : Int)) + j).toNat) 1000000000) (i.toNat * b.length + (j + 1).toNat)) ∧ True from ⟨(by omega), (by rw [show (j + 1).toNat = j.toNat + 1 from by omega]; exact fl_step hin hi hj hka (by rw [hsb.2]; unfold sb3 sb2 sb1 sb0; (repeat' split) <;> omega)), trivial⟩) (by first | (show (((b.length : Int) - (j + 1)).toNat : Nat) < ((b.length : Int) - j).toNat; omega) | (dsimp only; omega))
        by_cases h20 : band < ((i - j).natAbs : Int)
        ·refine x_r [(1, .dec false), (6, .call [(true, .any)] true (I ((i - j).natAbs : Int))), (8, .dec true)] [0, 1, 2, 7, 8, 9, 10, 11, 12, 90] [20] [slFeat false a, slFeat false b, I band, I (a.length : Int), I (b.length : Int), .arr 20, I i, I j, I (min 1000000000 (at_ fl' ((((i - 1) * (b.length : Int)) + j).toNat))), Bv true] [some (.arr 1 fl'.length (fI fl'))] [¬ ((min 1000000000 (at_ fl' ((((i - 1) * (b.length : Int)) + j).toNat))) = 1000000000), inR .i64 (i - j), Con Tryz.prog 80 [I (i - j)] true (I ((i - j).natAbs : Int)) ∧ True, band < ((i - j).natAbs : Int)] ⟨h19, (inR_i64 (by omega) (by omega)), ⟨(l09Size_ok (i - j) (by omega)), trivial⟩, h20, trivial⟩ ?_
         refine xe_then ?_
         refine x_true rfl ?_
         refine x_r [] [0, 1, 2, 7, 8, 9, 10, 11] [20] [slFeat false a, slFeat false b, I band, I (a.length : Int), I (b.length : Int), .arr 20, I i, I j] [some (.arr 1 fl'.length (fun q => bif Nat.beq q (((i * (b.length : Int)) + j).toNat) then [I 1000000000] else (fI fl') q))] [inR .i64 (i * (b.length : Int)), inR .i64 ((i * (b.length : Int)) + j), (0 : Int) ≤ ((i * (b.length : Int)) + j) ∧ ((i * (b.length : Int)) + j) < (fl'.length : Int), ((i * (b.length : Int)) + j).toNat < fl'.length] ⟨(inR_i64 (by omega) (by omega)), (inR_i64 (by omega) (by omega)), ⟨(by omega), (by omega)⟩, (by omega), trivial⟩ ?_
         refine xe_block 3 ?_
         refine xe_then ?_
         refine x_weak [] (T := [(0, slFeat false a), (1, slFeat false b), (2, I band), (7, I (a.length : Int)), (8, I (b.length : Int)), (9, .arr 20), (10, I i), (11, I j)]) (O := [(20, .arr 1 ((fl'.set (((i * (b.length : Int)) + j).toNat) 1000000000).length) (fI (fl'.set (((i * (b.length : Int)) + j).toNat) 1000000000)))]) rfl (⟨.inl rfl, .inl rfl, .inl rfl, .inl rfl, .inl rfl, .inl rfl, .inl rfl, .inl rfl, trivial⟩) (⟨.inr ⟨rfl, (by first | rfl | (simp; done) | (simp; omega) | omega), fun i_ hi_ => .inl (upd_enc (enc := cI) rfl i_ hi_)⟩, trivial⟩) ?_
         refine x_r [] [0, 1, 2, 7, 8, 9, 10, 11] [20] [slFeat false a, slFeat false b, I band, I (a.length : Int), I (b.length : Int), .arr 20, I i, I (j + 1)] [some (.arr 1 ((fl'.set (((i * (b.length : Int)) + j).toNat) 1000000000).length) (fI (fl'.set (((i * (b.length : Int)) + j).toNat) 1000000000)))] [inR .i64 (j + 1)] ⟨(inR_i64 (by omega) (by omega)), trivial⟩ ?_
         exact xe_again ((j + 1), (fl'.set (((i * (b.length : Int)) + j).toNat) 1000000000)) rfl (show (0 ≤ (j + 1) ∧ (j + 1) ≤ (b.length : Int)) ∧ (flOk a b band (fl'.set (((i * (b.length : Int)) + j).toNat) 1000000000) (i.toNat * b.length + (j + 1).toNat)) ∧ True from ⟨(by omega), (by rw [show (j + 1).toNat = j.toNat + 1 from by omega]; exact fl_step hin hi hj hka (by rw [hsb.2]; unfold sb3 sb2 sb1 sb0; (repeat' split) <;> omega)), trivial⟩) (by first | (show (((b.length : Int) - (j + 1)).toNat : Nat) < ((b.length : Int) - j).toNat; omega) | (dsimp only; omega))
        refine x_r [(1, .dec false), (6, .call [(true, .any)] true (I ((i - j).natAbs : Int))), (8, .dec false)] [0, 1, 2, 7, 8, 9, 10, 11, 12, 90] [20] [slFeat false a, slFeat false b, I band, I (a.length : Int), I (b.length : Int), .arr 20, I i, I j, I (min 1000000000 (at_ fl' ((((i - 1) * (b.length : Int)) + j).toNat))), Bv false] [some (.arr 1 fl'.length (fI fl'))] [¬ ((min 1000000000 (at_ fl' ((((i - 1) * (b.length : Int)) + j).toNat))) = 1000000000), inR .i64 (i - j), Con Tryz.prog 80 [I (i - j)] true (I ((i - j).natAbs : Int)) ∧ True, ¬ (band < ((i - j).natAbs : Int))] ⟨h19, (inR_i64 (by omega) (by omega)), ⟨(l09Size_ok (i - j) (by omega)), trivial⟩, h20, trivial⟩ ?_
        refine xe_then ?_
        refine x_false rfl ?_
        refine x_r [(15, .call [(true, .any), (true, .any)] true (I (costF (at_ a i.toNat) (at_ b j.toNat))))] [0, 1, 2, 7, 8, 9, 10, 11] [20] [slFeat false a, slFeat false b, I band, I (a.length : Int), I (b.length : Int), .arr 20, I i, I j] [some (.arr 1 fl'.length (fun q => bif Nat.beq q (((i * (b.length : Int)) + j).toNat) then [I ((min 1000000000 (at_ fl' ((((i - 1) * (b.length : Int)) + j).toNat))) + (costF (at_ a i.toNat) (at_ b j.toNat)))] else (fI fl') q))] [inR .i64 (i * (b.length : Int)), inR .i64 ((i * (b.length : Int)) + j), (0 : Int) ≤ i ∧ i < (a.length : Int), (0 : Int) ≤ j ∧ j < (b.length : Int), Con Tryz.prog 109 [agFeat (at_ a i.toNat), agFeat (at_ b j.toNat)] true (I (costF (at_ a i.toNat) (at_ b j.toNat))) ∧ True, inR .i64 ((min 1000000000 (at_ fl' ((((i - 1) * (b.length : Int)) + j).toNat))) + (costF (at_ a i.toNat) (at_ b j.toNat))), (0 : Int) ≤ ((i * (b.length : Int)) + j) ∧ ((i * (b.length : Int)) + j) < (fl'.length : Int), ((i * (b.length : Int)) + j).toNat < fl'.length] ⟨(inR_i64 (by omega) (by omega)), (inR_i64 (by omega) (by omega)), ⟨(by omega), (by omega)⟩, ⟨(by omega), (by omega)⟩, ⟨(l09Cost_ok (at_ a i.toNat) (at_ b j.toNat) (by first | exact hab.1 _ (by omega) | exact hab.2.1 _ (by omega)) (by first | exact hab.1 _ (by omega) | exact hab.2.1 _ (by omega))), trivial⟩, (inR_i64 (by omega) (by omega)), ⟨(by omega), (by omega)⟩, (by omega), trivial⟩ ?_
        refine xe_block 3 ?_
        refine xe_then ?_
        refine x_weak [] (T := [(0, slFeat false a), (1, slFeat false b), (2, I band), (7, I (a.length : Int)), (8, I (b.length : Int)), (9, .arr 20), (10, I i), (11, I j)]) (O := [(20, .arr 1 ((fl'.set (((i * (b.length : Int)) + j).toNat) ((min 1000000000 (at_ fl' ((((i - 1) * (b.length : Int)) + j).toNat))) + (costF (at_ a i.toNat) (at_ b j.toNat)))).length) (fI (fl'.set (((i * (b.length : Int)) + j).toNat) ((min 1000000000 (at_ fl' ((((i - 1) * (b.length : Int)) + j).toNat))) + (costF (at_ a i.toNat) (at_ b j.toNat))))))]) rfl (⟨.inl rfl, .inl rfl, .inl rfl, .inl rfl, .inl rfl, .inl rfl, .inl rfl, .inl rfl, trivial⟩) (⟨.inr ⟨rfl, (by first | rfl | (simp; done) | (simp; omega) | omega), fun i_ hi_ => .inl (upd_enc (enc := cI) rfl i_ hi_)⟩, trivial⟩) ?_
        refine x_r [] [0, 1, 2, 7, 8, 9, 10, 11] [20] [slFeat false a, slFeat false b, I band, I (a.length : Int), I (b.length : Int), .arr 20, I i, I (j + 1)] [some (.arr 1 ((fl'.set (((i * (b.length : Int)) + j).toNat) ((min 1000000000 (at_ fl' ((((i - 1) * (b.length : Int)) + j).toNat))) + (costF (at_ a i.toNat) (at_ b j.toNat)))).length) (fI (fl'.set (((i * (b.length : Int)) + j).toNat) ((min 1000000000 (at_ fl' ((((i - 1) * (b.length : Int)) + j).toNat))) + (costF (at_ a i.toNat) (at_ b j.toNat))))))] [inR .i64 (j + 1)] ⟨(inR_i64 (by omega) (by omega)), trivial⟩ ?_
        exact xe_again ((j + 1), (fl'.set (((i * (b.length : Int)) + j).toNat) ((min 1000000000 (at_ fl' ((((i - 1) * (b.length : Int)) + j).toNat))) + (costF (at_ a i.toNat) (at_ b j.toNat))))) rfl (show (0 ≤ (j + 1) ∧ (j + 1) ≤ (b.length : Int)) ∧ (flOk a b band (fl'.set (((i * (b.length : Int)) + j).toNat) ((min 1000000000 (at_ fl' ((((i - 1) * (b.length : Int)) + j).toNat))) + (costF (at_ a i.toNat) (at_ b j.toNat)))) (i.toNat * b.length + (j + 1).toNat)) ∧ True from ⟨(by omega), (by rw [show (j + 1).toNat = j.toNat + 1 from by omega]; exact fl_step hin hi hj hka (by rw [hsb.2]; unfold sb3 sb2 sb1 sb0; (repeat' split) <;> omega)), trivial⟩) (by first | (show (((b.length : Int) - (j + 1)).toNat : Nat) < ((b.length : Int) - j).toNat; omega) | (dsimp only; omega))
       refine x_r [(1, .dec false)] [0, 1, 2, 7, 8, 9, 10, 11, 12, 42] [20] [slFeat false a, slFeat false b, I band, I (a.length : Int), I (b.length : Int), .arr 20, I i, I j, I 1000000000, Bv false] [some (.arr 1 fl'.length (fI fl'))] [¬ (0 < i)] ⟨h15, trivial⟩ ?_
       refine xe_then ?_
       refine x_false rfl ?_
       refine x_skip ?_
       refine xe_then ?_
       refine x_seq ?_
       refine xR [(1, .dec false)] [0, 1, 2, 7, 8, 9, 10, 11, 12, 56] [20] [slFeat false a, slFeat false b, I band, I (a.length : Int), I (b.length : Int), .arr 20, I i, I j, I 1000000000, Bv false] [some (.arr 1 fl'.length (fI fl'))] [¬ (0 < i)] ⟨h15, trivial⟩ ?_
       refine x_false rfl ?_
       refine x_skip ?_
       refine xe_then ?_
       refine x_seq ?_
       refine x_seq ?_
       by_cases h21 : 0 < j
       ·refine x_r [(1, .dec true)] [0, 1, 2, 7, 8, 9, 10, 11, 12, 69] [20] [slFeat false a, slFeat false b, I band, I (a.length : Int), I (b.length : Int), .arr 20, I i, I j, I 1000000000, Bv true] [some (.arr 1 fl'.length (fI fl'))] [0 < j] ⟨h21, trivial⟩ ?_
        refine xe_then ?_
        refine x_true rfl ?_
        refine x_r [(10, .call [(true, .any), (true, .any)] true (I (min 1000000000 (at_ fl' ((((i * (b.length : Int)) + j) - 1).toNat)))))] [0, 1, 2, 7, 8, 9, 10, 11, 12] [20] [slFeat false a, slFeat false b, I band, I (a.length : Int), I (b.length : Int), .arr 20, I i, I j, I (min 1000000000 (at_ fl' ((((i * (b.length : Int)) + j) - 1).toNat)))] [some (.arr 1 fl'.length (fI fl'))] [inR .i64 (i * (b.length : Int)), inR .i64 ((i * (b.length : Int)) + j), inR .i64 (((i * (b.length : Int)) + j) - 1), (0 : Int) ≤ (((i * (b.length : Int)) + j) - 1) ∧ (((i * (b.length : Int)) + j) - 1) < (fl'.length : Int), (((i * (b.length : Int)) + j) - 1).toNat < fl'.length, Con Tryz.prog 62 [I 1000000000, I (at_ fl' ((((i * (b.length : Int)) + j) - 1).toNat))] true (I (min 1000000000 (at_ fl' ((((i * (b.length : Int)) + j) - 1).toNat)))) ∧ True] ⟨(inR_i64 (by omega) (by omega)), (inR_i64 (by omega) (by omega)), (inR_i64 (by omega) (by omega)), ⟨(by omega), (by omega)⟩, (by omega), ⟨(l00Min_ok 1000000000 (at_ fl' ((((i * (b.length : Int)) + j) - 1).toNat))), trivial⟩, trivial⟩ ?_
        refine xe_then ?_
        refine x_seq ?_
        by_cases h22 : (min 1000000000 (at_ fl' ((((i * (b.length : Int)) + j) - 1).toNat))) = 1000000000
        ·refine x_r [(1, .dec true)] [0, 1, 2, 7, 8, 9, 10, 11, 12, 90] [20] [slFeat false a, slFeat false b, I band, I (a.length : Int), I (b.length : Int), .arr 20, I i, I j, I (min 1000000000 (at_ fl' ((((i * (b.length : Int)) + j) - 1).toNat))), Bv true] [some (.arr 1 fl'.length (fI fl'))] [(min 1000000000 (at_ fl' ((((i * (b.length : Int)) + j) - 1).toNat))) = 1000000000] ⟨h22, trivial⟩ ?_
         refine xe_then ?_
         refine x_true rfl ?_
         refine x_r [] [0, 1, 2, 7, 8, 9, 10, 11] [20] [slFeat false a, slFeat false b, I band, I (a.length : Int), I (b.length : Int), .arr 20, I i, I j] [some (.arr 1 fl'.length (fun q => bif Nat.beq q (((i * (b.length : Int)) + j).toNat) then [I 1000000000] else (fI fl') q))] [inR .i64 (i * (b.length : Int)), inR .i64 ((i * (b.length : Int)) + j), (0 : Int) ≤ ((i * (b.length : Int)) + j) ∧ ((i * (b.length : Int)) + j) < (fl'.length : Int), ((i * (b.length : Int)) + j).toNat < fl'.length] ⟨(inR_i64 (by omega) (by omega)), (inR_i64 (by omega) (by omega)), ⟨(by omega), (by omega)⟩, (by omega), trivial⟩ ?_
         refine xe_block 3 ?_
         refine xe_then ?_
         refine x_weak [] (T := [(0, slFeat false a), (1, slFeat false b), (2, I band), (7, I (a.length : Int)), (8, I (b.length : Int)), (9, .arr 20), (10, I i), (11, I j)]) (O := [(20, .arr 1 ((fl'.set (((i * (b.length : Int)) + j).toNat) 1000000000).length) (fI (fl'.set (((i * (b.length : Int)) + j).toNat) 1000000000)))]) rfl (⟨.inl rfl, .inl rfl, .inl rfl, .inl rfl, .inl rfl, .inl rfl, .inl rfl, .inl rfl, trivial⟩) (⟨.inr ⟨rfl, (by first | rfl | (simp; done) | (simp; omega) | omega), fun i_ hi_ => .inl (upd_enc (enc := cI) rfl i_ hi_)⟩, trivial⟩) ?_
         refine x_r [] [0, 1, 2, 7, 8, 9, 10, 11] [20] [slFeat false a, slFeat false b, I band, I (a.length : Int), I (b.length : Int), .arr 20, I i, I (j + 1)] [some (.arr 1 ((fl'.set (((i * (b.length : Int)) + j).toNat) 1000000000).length) (fI (fl'.set (((i * (b.length : Int)) + j).toNat) 1000000000)))] [inR .i64 (j + 1)] ⟨(inR_i64 (by omega) (by omega)), trivial⟩ ?_
         exact xe_again ((j + 1), (fl'.set (((i * (b.length : Int)) + j).toNat) 1000000000)) rfl (show (0 ≤ (j + 1) ∧ (j + 1) ≤ (b.length : Int)) ∧ (flOk a b band (fl'.set (((i * (b.length : Int)) + j).toNat) 1000000000) (i.toNat * b.length + (j + 1).toNat)) ∧ True from ⟨(by omega), (by rw [show (j + 1).toNat = j.toNat + 1 from by omega]; exact fl_step hin hi hj hka (by rw [hsb.2]; unfold sb3 sb2 sb1 sb0; (repeat' split) <;> omega)), trivial⟩) (by first | (show (((b.length : Int) - (j + 1)).toNat : Nat) < ((b.length : Int) - j).toNat; omega) | (dsimp only; omega))
        by_cases h23 : band < ((i - j).natAbs : Int)
        ·refine x_r [(1, .dec false), (6, .call [(true, .any)] true (I ((i - j).natAbs : Int))), (8, .dec true)] [0, 1, 2, 7, 8, 9, 10, 11, 12, 90] [20] [slFeat false a, slFeat false b, I band, I (a.length : Int), I (b.length : Int), .arr 20, I i, I j, I (min 1000000000 (at_ fl' ((((i * (b.length : Int)) + j) - 1).toNat))), Bv true] [some (.arr 1 fl'.length (fI fl'))] [¬ ((min 1000000000 (at_ fl' ((((i * (b.length : Int)) + j) - 1).toNat))) = 1000000000), inR .i64 (i - j), Con Tryz.prog 80 [I (i - j)] true (I ((i - j).natAbs : Int)) ∧ True, band < ((i - j).natAbs : Int)] ⟨h22, (inR_i64 (by omega) (by omega)), ⟨(l09Size_ok (i - j) (by omega)), trivial⟩, h23, trivial⟩ ?_
         refine xe_then ?_
         refine x_true rfl ?_
         refine x_r [] [0, 1, 2, 7, 8, 9, 10, 11] [20] [slFeat false a, slFeat false b, I band, I (a.length : Int), I (b.length : Int), .arr 20, I i, I j] [some (.arr 1 fl'.length (fun q => bif Nat.beq q (((i * (b.length : Int)) + j).toNat) then [I 1000000000] else (fI fl') q))] [inR .i64 (i * (b.length : Int)), inR .i64 ((i * (b.length : Int)) + j), (0 : Int) ≤ ((i * (b.length : Int)) + j) ∧ ((i * (b.length : Int)) + j) < (fl'.length : Int), ((i * (b.length : Int)) + j).toNat < fl'.length] ⟨(inR_i64 (by omega) (by omega)), (inR_i64 (by omega) (by omega)), ⟨(by omega), (by omega)⟩, (by omega), trivial⟩ ?_
         refine xe_block 3 ?_
         refine xe_then ?_
         refine x_weak [] (T := [(0, slFeat false a), (1, slFeat false b), (2, I band), (7, I (a.length : Int)), (8, I (b.length : Int)), (9, .arr 20), (10, I i), (11, I j)]) (O := [(20, .arr 1 ((fl'.set (((i * (b.length : Int)) + j).toNat) 1000000000).length) (fI (fl'.set (((i * (b.length : Int)) + j).toNat) 1000000000)))]) rfl (⟨.inl rfl, .inl rfl, .inl rfl, .inl rfl, .inl rfl, .inl rfl, .inl rfl, .inl rfl, trivial⟩) (⟨.inr ⟨rfl, (by first | rfl | (simp; done) | (simp; omega) | omega), fun i_ hi_ => .inl (upd_enc (enc := cI) rfl i_ hi_)⟩, trivial⟩) ?_
         refine x_r [] [0, 1, 2, 7, 8, 9, 10, 11] [20] [slFeat false a, slFeat false b, I band, I (a.length : Int), I (b.length : Int), .arr 20, I i, I (j + 1)] [some (.arr 1 ((fl'.set (((i * (b.length : Int)) + j).toNat) 1000000000).length) (fI (fl'.set (((i * (b.length : Int)) + j).toNat) 1000000000)))] [inR .i64 (j + 1)] ⟨(inR_i64 (by omega) (by omega)), trivial⟩ ?_
         exact xe_again ((j + 1), (fl'.set (((i * (b.length : Int)) + j).toNat) 1000000000)) rfl (show (0 ≤ (j + 1) ∧ (j + 1) ≤ (b.length : Int)) ∧ (flOk a b band (fl'.set (((i * (b.length : Int)) + j).toNat) 1000000000) (i.toNat * b.length + (j + 1).toNat)) ∧ True from ⟨(by omega), (by rw [show (j + 1).toNat = j.toNat + 1 from by omega]; exact fl_step hin hi hj hka (by rw [hsb.2]; unfold sb3 sb2 sb1 sb0; (repeat' split) <;> omega)), trivial⟩) (by first | (show (((b.length : Int) - (j + 1)).toNat : Nat) < ((b.length : Int) - j).toNat; omega) | (dsimp only; omega))
        refine x_r [(1, .dec false), (6, .call [(true, .any)] true (I ((i - j).natAbs : Int))), (8, .dec false)] [0, 1, 2, 7, 8, 9, 10, 11, 12, 90] [20] [slFeat false a, slFeat false b, I band, I (a.length : Int), I (b.length : Int), .arr 20, I i, I j, I (min 1000000000 (at_ fl' ((((i * (b.length : Int)) + j) - 1).toNat))), Bv false] [some (.arr 1 fl'.length (fI fl'))] [¬ ((min 1000000000 (at_ fl' ((((i * (b.length : Int)) + j) - 1).toNat))) = 1000000000), inR .i64 (i - j), Con Tryz.prog 80 [I (i - j)] true (I ((i - j).natAbs : Int)) ∧ True, ¬ (band < ((i - j).natAbs : Int))] ⟨h22, (inR_i64 (by omega) (by omega)), ⟨(l09Size_ok (i - j) (by omega)), trivial⟩, h23, trivial⟩ ?_
        refine xe_then ?_
        refine x_false rfl ?_
        refine x_r [(15, .call [(true, .any), (true, .any)] true (I (costF (at_ a i.toNat) (at_ b j.toNat))))] [0, 1, 2, 7, 8, 9, 10, 11] [20] [slFeat false a, slFeat false b, I band, I (a.length : Int), I (b.length : Int), .arr 20, I i, I j] [some (.arr 1 fl'.length (fun q => bif Nat.beq q (((i * (b.length : Int)) + j).toNat) then [I ((min 1000000000 (at_ fl' ((((i * (b.length : Int)) + j) - 1).toNat))) + (costF (at_ a i.toNat) (at_ b j.toNat)))] else (fI fl') q))] [inR .i64 (i * (b.length : Int)), inR .i64 ((i * (b.length : Int)) + j), (0 : Int) ≤ i ∧ i < (a.length : Int), (0 : Int) ≤ j ∧ j < (b.length : Int), Con Tryz.prog 109 [agFeat (at_ a i.toNat), agFeat (at_ b j.toNat)] true (I (costF (at_ a i.toNat) (at_ b j.toNat))) ∧ True, inR .i64 ((min 1000000000 (at_ fl' ((((i * (b.length : Int)) + j) - 1).toNat))) + (costF (at_ a i.toNat) (at_ b j.toNat))), (0 : Int) ≤ ((i * (b.length : Int)) + j) ∧ ((i * (b.length : Int)) + j) < (fl'.length : Int), ((i * (b.length : Int)) + j).toNat < fl'.length] ⟨(inR_i64 (by omega) (by omega)), (inR_i64 (by omega) (by omega)), ⟨(by omega), (by omega)⟩, ⟨(by omega), (by omega)⟩, ⟨(l09Cost_ok (at_ a i.toNat) (at_ b j.toNat) (by first | exact hab.1 _ (by omega) | exact hab.2.1 _ (by omega)) (by first | exact hab.1 _ (by omega) | exact hab.2.1 _ (by omega))), trivial⟩, (inR_i64 (by omega) (by omega)), ⟨(by omega), (by omega)⟩, (by omega), trivial⟩ ?_
        refine xe_block 3 ?_
        refine xe_then ?_
        refine x_weak [] (T := [(0, slFeat false a), (1, slFeat false b), (2, I band), (7, I (a.length : Int)), (8, I (b.length : Int)), (9, .arr 20), (10, I i), (11, I j)]) (O := [(20, .arr 1 ((fl'.set (((i * (b.length : Int)) + j).toNat) ((min 1000000000 (at_ fl' ((((i * (b.length : Int)) + j) - 1).toNat))) + (costF (at_ a i.toNat) (at_ b j.toNat)))).length) (fI (fl'.set (((i * (b.length : Int)) + j).toNat) ((min 1000000000 (at_ fl' ((((i * (b.length : Int)) + j) - 1).toNat))) + (costF (at_ a i.toNat) (at_ b j.toNat))))))]) rfl (⟨.inl rfl, .inl rfl, .inl rfl, .inl rfl, .inl rfl, .inl rfl, .inl rfl, .inl rfl, trivial⟩) (⟨.inr ⟨rfl, (by first | rfl | (simp; done) | (simp; omega) | omega), fun i_ hi_ => .inl (upd_enc (enc := cI) rfl i_ hi_)⟩, trivial⟩) ?_
        refine x_r [] [0, 1, 2, 7, 8, 9, 10, 11] [20] [slFeat false a, slFeat false b, I band, I (a.length : Int), I (b.length : Int), .arr 20, I i, I (j + 1)] [some (.arr 1 ((fl'.set (((i * (b.length : Int)) + j).toNat) ((min 1000000000 (at_ fl' ((((i * (b.length : Int)) + j) - 1).toNat))) + (costF (at_ a i.toNat) (at_ b j.toNat)))).length) (fI (fl'.set (((i * (b.length : Int)) + j).toNat) ((min 1000000000 (at_ fl' ((((i * (b.length : Int)) + j) - 1).toNat))) + (costF (at_ a i.toNat) (at_ b j.toNat))))))] [inR .i64 (j + 1)] ⟨(inR_i64 (by omega) (by omega)), trivial⟩ ?_
        exact xe_again ((j + 1), (fl'.set (((i * (b.length : Int)) + j).toNat) ((min 1000000000 (at_ fl' ((((i * (b.length : Int)) + j) - 1).toNat))) + (costF (at_ a i.toNat) (at_ b j.toNat))))) rfl (show (0 ≤ (j + 1) ∧ (j + 1) ≤ (b.length : Int)) ∧ (flOk a b band (fl'.set (((i * (b.length : Int)) + j).toNat) ((min 1000000000 (at_ fl' ((((i * (b.length : Int)) + j) - 1).toNat))) + (costF (at_ a i.toNat) (at_ b j.toNat)))) (i.toNat * b.length + (j + 1).toNat)) ∧ True from ⟨(by omega), (by rw [show (j + 1).toNat = j.toNat + 1 from by omega]; exact fl_step hin hi hj hka (by rw [hsb.2]; unfold sb3 sb2 sb1 sb0; (repeat' split) <;> omega)), trivial⟩) (by first | (show (((b.length : Int) - (j + 1)).toNat : Nat) < ((b.length : Int) - j).toNat; omega) | (dsimp only; omega))
       refine x_r [(1, .dec false)] [0, 1, 2, 7, 8, 9, 10, 11, 12, 69] [20] [slFeat false a, slFeat false b, I band, I (a.length : Int), I (b.length : Int), .arr 20, I i, I j, I 1000000000, Bv false] [some (.arr 1 fl'.length (fI fl'))] [¬ (0 < j)] ⟨h21, trivial⟩ ?_
       refine xe_then ?_
       refine x_false rfl ?_
       refine x_skip ?_
       refine xe_then ?_
       refine xR [(1, .dec true)] [0, 1, 2, 7, 8, 9, 10, 11, 12, 90] [20] [slFeat false a, slFeat false b, I band, I (a.length : Int), I (b.length : Int), .arr 20, I i, I j, I 1000000000, Bv true] [some (.arr 1 fl'.length (fI fl'))] [(1000000000 : Int) = 1000000000] ⟨(by decide), trivial⟩ ?_
       refine x_true rfl ?_
       refine x_r [] [0, 1, 2, 7, 8, 9, 10, 11] [20] [slFeat false a, slFeat false b, I band, I (a.length : Int), I (b.length : Int), .arr 20, I i, I j] [some (.arr 1 fl'.length (fun q => bif Nat.beq q (((i * (b.length : Int)) + j).toNat) then [I 1000000000] else (fI fl') q))] [inR .i64 (i * (b.length : Int)), inR .i64 ((i * (b.length : Int)) + j), (0 : Int) ≤ ((i * (b.length : Int)) + j) ∧ ((i * (b.length : Int)) + j) < (fl'.length : Int), ((i * (b.length : Int)) + j).toNat < fl'.length] ⟨(inR_i64 (by omega) (by omega)), (inR_i64 (by omega) (by omega)), ⟨(by omega), (by omega)⟩, (by omega), trivial⟩ ?_
       refine xe_block 3 ?_
       refine xe_then ?_
       refine x_weak [] (T := [(0, slFeat false a), (1, slFeat false b), (2, I band), (7, I (a.length : Int)), (8, I (b.length : Int)), (9, .arr 20), (10, I i), (11, I j)]) (O := [(20, .arr 1 ((fl'.set (((i * (b.length : Int)) + j).toNat) 1000000000).length) (fI (fl'.set (((i * (b.length : Int)) + j).toNat) 1000000000)))]) rfl (⟨.inl rfl, .inl rfl, .inl rfl, .inl rfl, .inl rfl, .inl rfl, .inl rfl, .inl rfl, trivial⟩) (⟨.inr ⟨rfl, (by first | rfl | (simp; done) | (simp; omega) | omega), fun i_ hi_ => .inl (upd_enc (enc := cI) rfl i_ hi_)⟩, trivial⟩) ?_
       refine x_r [] [0, 1, 2, 7, 8, 9, 10, 11] [20] [slFeat false a, slFeat false b, I band, I (a.length : Int), I (b.length : Int), .arr 20, I i, I (j + 1)] [some (.arr 1 ((fl'.set (((i * (b.length : Int)) + j).toNat) 1000000000).length) (fI (fl'.set (((i * (b.length : Int)) + j).toNat) 1000000000)))] [inR .i64 (j + 1)] ⟨(inR_i64 (by omega) (by omega)), trivial⟩ ?_
       exact xe_again ((j + 1), (fl'.set (((i * (b.length : Int)) + j).toNat) 1000000000)) rfl (show (0 ≤ (j + 1) ∧ (j + 1) ≤ (b.length : Int)) ∧ (flOk a b band (fl'.set (((i * (b.length : Int)) + j).toNat) 1000000000) (i.toNat * b.length + (j + 1).toNat)) ∧ True from ⟨(by omega), (by rw [show (j + 1).toNat = j.toNat + 1 from by omega]; exact fl_step hin hi hj hka (by rw [hsb.2]; unfold sb3 sb2 sb1 sb0; (repeat' split) <;> omega)), trivial⟩) (by first | (show (((b.length : Int) - (j + 1)).toNat : Nat) < ((b.length : Int) - j).toNat; omega) | (dsimp only; omega))
      refine x_r [(1, .dec false)] [0, 1, 2, 7, 8, 9, 10, 11, 12, 36] [20] [slFeat false a, slFeat false b, I band, I (a.length : Int), I (b.length : Int), .arr 20, I i, I j, I 1000000000, Bv false] [some (.arr 1 fl'.length (fI fl'))] [¬ (i = 0)] ⟨h3, trivial⟩ ?_
      refine xe_then ?_
      refine x_false rfl ?_
      refine x_skip ?_
      refine xe_then ?_
      refine x_seq ?_
      refine x_seq ?_
      by_cases h24 : 0 < i
      ·by_cases h25 : 0 < j
       ·refine x_r [(1, .dec true), (4, .dec true)] [0, 1, 2, 7, 8, 9, 10, 11, 12, 42] [20] [slFeat false a, slFeat false b, I band, I (a.length : Int), I (b.length : Int), .arr 20, I i, I j, I 1000000000, Bv true] [some (.arr 1 fl'.length (fI fl'))] [0 < i, 0 < j] ⟨h24, h25, trivial⟩ ?_
        refine xe_then ?_
        refine x_true rfl ?_
        refine x_r [(11, .call [(true, .any), (true, .any)] true (I (min 1000000000 (at_ fl' (((((i - 1) * (b.length : Int)) + j) - 1).toNat)))))] [0, 1, 2, 7, 8, 9, 10, 11, 12] [20] [slFeat false a, slFeat false b, I band, I (a.length : Int), I (b.length : Int), .arr 20, I i, I j, I (min 1000000000 (at_ fl' (((((i - 1) * (b.length : Int)) + j) - 1).toNat)))] [some (.arr 1 fl'.length (fI fl'))] [inR .i64 (i - 1), inR .i64 ((i - 1) * (b.length : Int)), inR .i64 (((i - 1) * (b.length : Int)) + j), inR .i64 ((((i - 1) * (b.length : Int)) + j) - 1), (0 : Int) ≤ ((((i - 1) * (b.length : Int)) + j) - 1) ∧ ((((i - 1) * (b.length : Int)) + j) - 1) < (fl'.length : Int), ((((i - 1) * (b.length : Int)) + j) - 1).toNat < fl'.length, Con Tryz.prog 62 [I 1000000000, I (at_ fl' (((((i - 1) * (b.length : Int)) + j) - 1).toNat))] true (I (min 1000000000 (at_ fl' (((((i - 1) * (b.length : Int)) + j) - 1).toNat)))) ∧ True] ⟨(inR_i64 (by omega) (by omega)), (inR_i64 (by omega) (by omega)), (inR_i64 (by omega) (by omega)), (inR_i64 (by omega) (by omega)), ⟨(by omega), (by omega)⟩, (by omega), ⟨(l00Min_ok 1000000000 (at_ fl' (((((i - 1) * (b.length : Int)) + j) - 1).toNat))), trivial⟩, trivial⟩ ?_
        refine xe_then ?_
        refine x_seq ?_
        refine xR [(1, .dec true)] [0, 1, 2, 7, 8, 9, 10, 11, 12, 56] [20] [slFeat false a, slFeat false b, I band, I (a.length : Int), I (b.length : Int), .arr 20, I i, I j, I (min 1000000000 (at_ fl' (((((i - 1) * (b.length : Int)) + j) - 1).toNat))), Bv true] [some (.arr 1 fl'.length (fI fl'))] [0 < i] ⟨h24, trivial⟩ ?_
        refine x_true rfl ?_
        refine x_r [(10, .call [(true, .any), (true, .any)] true (I (min (min 1000000000 (at_ fl' (((((i - 1) * (b.length : Int)) + j) - 1).toNat))) (at_ fl' ((((i - 1) * (b.length : Int)) + j).toNat)))))] [0, 1, 2, 7, 8, 9, 10, 11, 12] [20] [slFeat false a, slFeat false b, I band, I (a.length : Int), I (b.length : Int), .arr 20, I i, I j, I (min (min 1000000000 (at_ fl' (((((i - 1) * (b.length : Int)) + j) - 1).toNat))) (at_ fl' ((((i - 1) * (b.length : Int)) + j).toNat)))] [some (.arr 1 fl'.length (fI fl'))] [inR .i64 (i - 1), inR .i64 ((i - 1) * (b.length : Int)), inR .i64 (((i - 1) * (b.length : Int)) + j), (0 : Int) ≤ (((i - 1) * (b.length : Int)) + j) ∧ (((i - 1) * (b.length : Int)) + j) < (fl'.length : Int), (((i - 1) * (b.length : Int)) + j).toNat < fl'.length, Con Tryz.prog 62 [I (min 1000000000 (at_ fl' (((((i - 1) * (b.length : Int)) + j) - 1).toNat))), I (at_ fl' ((((i - 1) * (b.length : Int)) + j).toNat))] true (I (min (min 1000000000 (at_ fl' (((((i - 1) * (b.length : Int)) + j) - 1).toNat))) (at_ fl' ((((i - 1) * (b.length : Int)) + j).toNat)))) ∧ True] ⟨(inR_i64 (by omega) (by omega)), (inR_i64 (by omega) (by omega)), (inR_i64 (by omega) (by omega)), ⟨(by omega), (by omega)⟩, (by omega), ⟨(l00Min_ok (min 1000000000 (at_ fl' (((((i - 1) * (b.length : Int)) + j) - 1).toNat))) (at_ fl' ((((i - 1) * (b.length : Int)) + j).toNat))), trivial⟩, trivial⟩ ?_
        refine xe_then ?_
        refine x_seq ?_
        refine xR [(1, .dec true)] [0, 1, 2, 7, 8, 9, 10, 11, 12, 69] [20] [slFeat false a, slFeat false b, I band, I (a.length : Int), I (b.length : Int), .arr 20, I i, I j, I (min (min 1000000000 (at_ fl' (((((i - 1) * (b.length : Int)) + j) - 1).toNat))) (at_ fl' ((((i - 1) * (b.length : Int)) + j).toNat))), Bv true] [some (.arr 1 fl'.length (fI fl'))] [0 < j] ⟨h25, trivial⟩ ?_
        refine x_true rfl ?_
        refine x_r [(10, .call [(true, .any), (true, .any)] true (I (min (min (min 1000000000 (at_ fl' (((((i - 1) * (b.length : Int)) + j) - 1).toNat))) (at_ fl' ((((i - 1) * (b.length : Int)) + j).toNat))) (at_ fl' ((((i * (b.length : Int)) + j) - 1).toNat)))))] [0, 1, 2, 7, 8, 9, 10, 11, 12] [20] [slFeat false a, slFeat false b, I band, I (a.length : Int), I (b.length : Int), .arr 20, I i, I j, I (min (min (min 1000000000 (at_ fl' (((((i - 1) * (b.length : Int)) + j) - 1).toNat))) (at_ fl' ((((i - 1) * (b.length : Int)) + j).toNat))) (at_ fl' ((((i * (b.length : Int)) + j) - 1).toNat)))] [some (.arr 1 fl'.length (fI fl'))] [inR .i64 (i * (b.length : Int)), inR .i64 ((i * (b.length : Int)) + j), inR .i64 (((i * (b.length : Int)) + j) - 1), (0 : Int) ≤ (((i * (b.length : Int)) + j) - 1) ∧ (((i * (b.length : Int)) + j) - 1) < (fl'.length : Int), (((i * (b.length : Int)) + j) - 1).toNat < fl'.length, Con Tryz.prog 62 [I (min (min 1000000000 (at_ fl' (((((i - 1) * (b.length : Int)) + j) - 1).toNat))) (at_ fl' ((((i - 1) * (b.length : Int)) + j).toNat))), I (at_ fl' ((((i * (b.length : Int)) + j) - 1).toNat))] true (I (min (min (min 1000000000 (at_ fl' (((((i - 1) * (b.length : Int)) + j) - 1).toNat))) (at_ fl' ((((i - 1) * (b.length : Int)) + j).toNat))) (at_ fl' ((((i * (b.length : Int)) + j) - 1).toNat)))) ∧ True] ⟨(inR_i64 (by omega) (by omega)), (inR_i64 (by omega) (by omega)), (inR_i64 (by omega) (by omega)), ⟨(by omega), (by omega)⟩, (by omega), ⟨(l00Min_ok (min (min 1000000000 (at_ fl' (((((i - 1) * (b.length : Int)) + j) - 1).toNat))) (at_ fl' ((((i - 1) * (b.length : Int)) + j).toNat))) (at_ fl' ((((i * (b.length : Int)) + j) - 1).toNat))), trivial⟩, trivial⟩ ?_
        refine xe_then ?_
        refine x_seq ?_
        by_cases h26 : (min (min (min 1000000000 (at_ fl' (((((i - 1) * (b.length : Int)) + j) - 1).toNat))) (at_ fl' ((((i - 1) * (b.length : Int)) + j).toNat))) (at_ fl' ((((i * (b.length : Int)) + j) - 1).toNat))) = 1000000000
        ·refine x_r [(1, .dec true)] [0, 1, 2, 7, 8, 9, 10, 11, 12, 90] [20] [slFeat false a, slFeat false b, I band, I (a.length : Int), I (b.length : Int), .arr 20, I i, I j, I (min (min (min 1000000000 (at_ fl' (((((i - 1) * (b.length : Int)) + j) - 1).toNat))) (at_ fl' ((((i - 1) * (b.length : Int)) + j).toNat))) (at_ fl' ((((i * (b.length : Int)) + j) - 1).toNat))), Bv true] [some (.arr 1 fl'.length (fI fl'))] [(min (min (min 1000000000 (at_ fl' (((((i - 1) * (b.length : Int)) + j) - 1).toNat))) (at_ fl' ((((i - 1) * (b.length : Int)) + j).toNat))) (at_ fl' ((((i * (b.length : Int)) + j) - 1).toNat))) = 1000000000] ⟨h26, trivial⟩ ?_
         refine xe_then ?_
         refine x_true rfl ?_
         refine x_r [] [0, 1, 2, 7, 8, 9, 10, 11] [20] [slFeat false a, slFeat false b, I band, I (a.length : Int), I (b.length : Int), .arr 20, I i, I j] [some (.arr 1 fl'.length (fun q => bif Nat.beq q (((i * (b.length : Int)) + j).toNat) then [I 1000000000] else (fI fl') q))] [inR .i64 (i * (b.length : Int)), inR .i64 ((i * (b.length : Int)) + j), (0 : Int) ≤ ((i * (b.length : Int)) + j) ∧ ((i * (b.length : Int)) + j) < (fl'.length : Int), ((i * (b.length : Int)) + j).toNat < fl'.length] ⟨(inR_i64 (by omega) (by omega)), (inR_i64 (by omega) (by omega)), ⟨(by omega), (by omega)⟩, (by omega), trivial⟩ ?_
         refine xe_block 3 ?_
         refine xe_then ?_
         refine x_weak [] (T := [(0, slFeat false a), (1, slFeat false b), (2, I band), (7, I (a.length : Int)), (8, I (b.length : Int)), (9, .arr 20), (10, I i), (11, I j)]) (O := [(20, .arr 1 ((fl'.set (((i * (b.length : Int)) + j).toNat) 1000000000).length) (fI (fl'.set (((i * (b.length : Int)) + j).toNat) 1000000000)))]) rfl (⟨.inl rfl, .inl rfl, .inl rfl, .inl rfl, .inl rfl, .inl rfl, .inl rfl, .inl rfl, trivial⟩) (⟨.inr ⟨rfl, (by first | rfl | (simp; done) | (simp; omega) | omega), fun i_ hi_ => .inl (upd_enc (enc := cI) rfl i_ hi_)⟩, trivial⟩) ?_
         refine x_r [] [0, 1, 2, 7, 8, 9, 10, 11] [20] [slFeat false a, slFeat false b, I band, I (a.length : Int), I (b.length : Int), .arr 20, I i, I (j + 1)] [some (.arr 1 ((fl'.set (((i * (b.length : Int)) + j).toNat) 1000000000).length) (fI (fl'.set (((i * (b.length : Int)) + j).toNat) 1000000000)))] [inR .i64 (j + 1)] ⟨(inR_i64 (by omega) (by omega)), trivial⟩ ?_
         exact xe_again ((j + 1), (fl'.set (((i * (b.length : Int)) + j).toNat) 1000000000)) rfl (show (0 ≤ (j + 1) ∧ (j + 1) ≤ (b.length : Int)) ∧ (flOk a b band (fl'.set (((i * (b.length : Int)) + j).toNat) 1000000000) (i.toNat * b.length + (j + 1).toNat)) ∧ True from ⟨(by omega), (by rw [show (j + 1).toNat = j.toNat + 1 from by omega]; exact fl_step hin hi hj hka (by rw [hsb.2]; unfold sb3 sb2 sb1 sb0; (repeat' split) <;> omega)), trivial⟩) (by first | (show (((b.length : Int) - (j + 1)).toNat : Nat) < ((b.length : Int) - j).toNat; omega) | (dsimp only; omega))
        by_cases h27 : band < ((i - j).natAbs : Int)
        ·refine x_r [(1, .dec false), (6, .call [(true, .any)] true (I ((i - j).natAbs : Int))), (8, .dec true)] [0, 1, 2, 7, 8, 9, 10, 11, 12, 90] [20] [slFeat false a, slFeat false b, I band, I (a.length : Int), I (b.length : Int), .arr 20, I i, I j, I (min (min (min 1000000000 (at_ fl' (((((i - 1) * (b.length : Int)) + j) - 1).toNat))) (at_ fl' ((((i - 1) * (b.length : Int)) + j).toNat))) (at_ fl' ((((i * (b.length : Int)) + j) - 1).toNat))), Bv true] [some (.arr 1 fl'.length (fI fl'))] [¬ ((min (min (min 1000000000 (at_ fl' (((((i - 1) * (b.length : Int)) + j) - 1).toNat))) (at_ fl' ((((i - 1) * (b.length : Int)) + j).toNat))) (at_ fl' ((((i * (b.length : Int)) + j) - 1).toNat))) = 1000000000), inR .i64 (i - j), Con Tryz.prog 80 [I (i - j)] true (I ((i - j).natAbs : Int)) ∧ True, band < ((i - j).natAbs : Int)] ⟨h26, (inR_i64 (by omega) (by omega)), ⟨(l09Size_ok (i - j) (by omega)), trivial⟩, h27, trivial⟩ ?_
         refine xe_then ?_
         refine x_true rfl ?_
         refine x_r [] [0, 1, 2, 7, 8, 9, 10, 11] [20] [slFeat false a, slFeat false b, I band, I (a.length : Int), I (b.length : Int), .arr 20, I i, I j] [some (.arr 1 fl'.length (fun q => bif Nat.beq q (((i * (b.length : Int)) + j).toNat) then [I 1000000000] else (fI fl') q))] [inR .i64 (i * (b.length : Int)), inR .i64 ((i * (b.length : Int)) + j), (0 : Int) ≤ ((i * (b.length : Int)) + j) ∧ ((i * (b.length : Int)) + j) < (fl'.length : Int), ((i * (b.length : Int)) + j).toNat < fl'.length] ⟨(inR_i64 (by omega) (by omega)), (inR_i64 (by omega) (by omega)), ⟨(by omega), (by omega)⟩, (by omega), trivial⟩ ?_
         refine xe_block 3 ?_
         refine xe_then ?_
         refine x_weak [] (T := [(0, slFeat false a), (1, slFeat false b), (2, I band), (7, I (a.length : Int)), (8, I (b.length : Int)), (9, .arr 20), (10, I i), (11, I j)]) (O := [(20, .arr 1 ((fl'.set (((i * (b.length : Int)) + j).toNat) 1000000000).length) (fI (fl'.set (((i * (b.length : Int)) + j).toNat) 1000000000)))]) rfl (⟨.inl rfl, .inl rfl, .inl rfl, .inl rfl, .inl rfl, .inl rfl, .inl rfl, .inl rfl, trivial⟩) (⟨.inr ⟨rfl, (by first | rfl | (simp; done) | (simp; omega) | omega), fun i_ hi_ => .inl (upd_enc (enc := cI) rfl i_ hi_)⟩, trivial⟩) ?_
         refine x_r [] [0, 1, 2, 7, 8, 9, 10, 11] [20] [slFeat false a, slFeat false b, I band, I (a.length : Int), I (b.length : Int), .arr 20, I i, I (j + 1)] [some (.arr 1 ((fl'.set (((i * (b.length : Int)) + j).toNat) 1000000000).length) (fI (fl'.set (((i * (b.length : Int)) + j).toNat) 1000000000)))] [inR .i64 (j + 1)] ⟨(inR_i64 (by omega) (by omega)), trivial⟩ ?_
         exact xe_again ((j + 1), (fl'.set (((i * (b.length : Int)) + j).toNat) 1000000000)) rfl (show (0 ≤ (j + 1) ∧ (j + 1) ≤ (b.length : Int)) ∧ (flOk a b band (fl'.set (((i * (b.length : Int)) + j).toNat) 1000000000) (i.toNat * b.length + (j + 1).toNat)) ∧ True from ⟨(by omega), (by rw [show (j + 1).toNat = j.toNat + 1 from by omega]; exact fl_step hin hi hj hka (by rw [hsb.2]; unfold sb3 sb2 sb1 sb0; (repeat' split) <;> omega)), trivial⟩) (by first | (show (((b.length : Int) - (j + 1)).toNat : Nat) < ((b.length : Int) - j).toNat; omega) | (dsimp only; omega))
        refine x_r [(1, .dec false), (6, .call [(true, .any)] true (I ((i - j).natAbs : Int))), (8, .dec false)] [0, 1, 2, 7, 8, 9, 10, 11, 12, 90] [20] [slFeat false a, slFeat false b, I band, I (a.length : Int), I (b.length : Int), .arr 20, I i, I j, I (min (min (min 1000000000 (at_ fl' (((((i - 1) * (b.length : Int)) + j) - 1).toNat))) (at_ fl' ((((i - 1) * (b.length : Int)) + j).toNat))) (at_ fl' ((((i * (b.length : Int)) + j) - 1).toNat))), Bv false] [some (.arr 1 fl'.length (fI fl'))] [¬ ((min (min (min 1000000000 (at_ fl' (((((i - 1) * (b.length : Int)) + j) - 1).toNat))) (at_ fl' ((((i - 1) * (b.length : Int)) + j).toNat))) (at_ fl' ((((i * (b.length : Int)) + j) - 1).toNat))) = 1000000000), inR .i64 (i - j), Con Tryz.prog 80 [I (i - j)] true (I ((i - j).natAbs : Int)) ∧ True, ¬ (band < ((i - j).natAbs : Int))] ⟨h26, (inR_i64 (by omega) (by omega)), ⟨(l09Size_ok (i - j) (by omega)), trivial⟩, h27, trivial⟩ ?_
        refine xe_then ?_
        refine x_false rfl ?_
        refine x_r [(15, .call [(true, .any), (true, .any)] true (I (costF (at_ a i.toNat) (at_ b j.toNat))))] [0, 1, 2, 7, 8, 9, 10, 11] [20] [slFeat false a, slFeat false b, I band, I (a.length : Int), I (b.length : Int), .arr 20, I i, I j] [some (.arr 1 fl'.length (fun q => bif Nat.beq q (((i * (b.length : Int)) + j).toNat) then [I ((min (min (min 1000000000 (at_ fl' (((((i - 1) * (b.length : Int)) + j) - 1).toNat))) (at_ fl' ((((i - 1) * (b.length : Int)) + j).toNat))) (at_ fl' ((((i * (b.length : Int)) + j) - 1).toNat))) + (costF (at_ a i.toNat) (at_ b j.toNat)))] else (fI fl') q))] [inR .i64 (i * (b.length : Int)), inR .i64 ((i * (b.length : Int)) + j), (0 : Int) ≤ i ∧ i < (a.length : Int), (0 : Int) ≤ j ∧ j < (b.length : Int), Con Tryz.prog 109 [agFeat (at_ a i.toNat), agFeat (at_ b j.toNat)] true (I (costF (at_ a i.toNat) (at_ b j.toNat))) ∧ True, inR .i64 ((min (min (min 1000000000 (at_ fl' (((((i - 1) * (b.length : Int)) + j) - 1).toNat))) (at_ fl' ((((i - 1) * (b.length : Int)) + j).toNat))) (at_ fl' ((((i * (b.length : Int)) + j) - 1).toNat))) + (costF (at_ a i.toNat) (at_ b j.toNat))), (0 : Int) ≤ ((i * (b.length : Int)) + j) ∧ ((i * (b.length : Int)) + j) < (fl'.length : Int), ((i * (b.length : Int)) + j).toNat < fl'.length] ⟨(inR_i64 (by omega) (by omega)), (inR_i64 (by omega) (by omega)), ⟨(by omega), (by omega)⟩, ⟨(by omega), (by omega)⟩, ⟨(l09Cost_ok (at_ a i.toNat) (at_ b j.toNat) (by first | exact hab.1 _ (by omega) | exact hab.2.1 _ (by omega)) (by first | exact hab.1 _ (by omega) | exact hab.2.1 _ (by omega))), trivial⟩, (inR_i64 (by omega) (by omega)), ⟨(by omega), (by omega)⟩, (by omega), trivial⟩ ?_
        refine xe_block 3 ?_
        refine xe_then ?_
        refine x_weak [] (T := [(0, slFeat false a), (1, slFeat false b), (2, I band), (7, I (a.length : Int)), (8, I (b.length : Int)), (9, .arr 20), (10, I i), (11, I j)]) (O := [(20, .arr 1 ((fl'.set (((i * (b.length : Int)) + j).toNat) ((min (min (min 1000000000 (at_ fl' (((((i - 1) * (b.length : Int)) + j) - 1).toNat))) (at_ fl' ((((i - 1) * (b.length : Int)) + j).toNat))) (at_ fl' ((((i * (b.length : Int)) + j) - 1).toNat))) + (costF (at_ a i.toNat) (at_ b j.toNat)))).length) (fI (fl'.set (((i * (b.length : Int)) + j).toNat) ((min (min (min 1000000000 (at_ fl' (((((i - 1) * (b.length : Int)) + j) - 1).toNat))) (at_ fl' ((((i - 1) * (b.length : Int)) + j).toNat))) (at_ fl' ((((i * (b.length : Int)) + j) - 1).toNat))) + (costF (at_ a i.toNat) (at_ b j.toNat))))))]) rfl (⟨.inl rfl, .inl rfl, .inl rfl, .inl rfl, .inl rfl, .inl rfl, .inl rfl, .inl rfl, trivial⟩) (⟨.inr ⟨rfl, (by first | rfl | (simp; done) | (simp; omega) | omega), fun i_ hi_ => .inl (upd_enc (enc := cI) rfl i_ hi_)⟩, trivial⟩) ?_
        refine x_r [] [0, 1, 2, 7, 8, 9, 10, 11] [20] [slFeat false a, slFeat false b, I band, I (a.length : Int), I (b.length : Int), .arr 20, I i, I (j + 1)] [some (.arr 1 ((fl'.set (((i * (b.length : Int)) + j).toNat) ((min (min (min 1000000000 (at_ fl' (((((i - 1) * (b.length : Int)) + j) - 1).toNat))) (at_ fl' ((((i - 1) * (b.length : Int)) + j).toNat))) (at_ fl' ((((i * (b.length : Int)) + j) - 1).toNat))) + (costF (at_ a i.toNat) (at_ b j.toNat)))).length) (fI (fl'.set (((i * (b.length : Int)) + j).toNat) ((min (min (min 1000000000 (at_ fl' (((((i - 1) * (b.length : Int)) + j) - 1).toNat))) (at_ fl' ((((i - 1) * (b.length : Int)) + j).toNat))) (at_ fl' ((((i * (b.length : Int)) + j) - 1).toNat))) + (costF (at_ a i.toNat) (at_ b j.toNat))))))] [inR .i64 (j + 1)] ⟨(inR_i64 (by omega) (by omega)), trivial⟩ ?_
        exact xe_again ((j + 1), (fl'.set (((i * (b.length : Int)) + j).toNat) ((min (min (min 1000000000 (at_ fl' (((((i - 1) * (b.length : Int)) + j) - 1).toNat))) (at_ fl' ((((i - 1) * (b.length : Int)) + j).toNat))) (at_ fl' ((((i * (b.length : Int)) + j) - 1).toNat))) + (costF (at_ a i.toNat) (at_ b j.toNat))))) rfl (show (0 ≤ (j + 1) ∧ (j + 1) ≤ (b.length : Int)) ∧ (flOk a b band (fl'.set (((i * (b.length : Int)) + j).toNat) ((min (min (min 1000000000 (at_ fl' (((((i - 1) * (b.length : Int)) + j) - 1).toNat))) (at_ fl' ((((i - 1) * (b.length : Int)) + j).toNat))) (at_ fl' ((((i * (b.length : Int)) + j) - 1).toNat))) + (costF (at_ a i.toNat) (at_ b j.toNat)))) (i.toNat * b.length + (j + 1).toNat)) ∧ True from ⟨(by omega), (by rw [show (j + 1).toNat = j.toNat + 1 from by omega]; exact fl_step hin hi hj hka (by rw [hsb.2]; unfold sb3 sb2 sb1 sb0; (repeat' split) <;> omega)), trivial⟩) (by first | (show (((b.length : Int) - (j + 1)).toNat : Nat) < ((b.length : Int) - j).toNat; omega) | (dsimp only; omega))
       refine x_r [(1, .dec true), (4, .dec false)] [0, 1, 2, 7, 8, 9, 10, 11, 12, 42] [20] [slFeat false a, slFeat false b, I band, I (a.length : Int), I (b.length : Int), .arr 20, I i, I j, I 1000000000, Bv false] [some (.arr 1 fl'.length (fI fl'))] [0 < i, ¬ (0 < j)] ⟨h24, h25, trivial⟩ ?_
       refine xe_then ?_
       refine x_false rfl ?_
       refine x_skip ?_
       refine xe_then ?_
       refine x_seq ?_
       refine xR [(1, .dec true)] [0, 1, 2, 7, 8, 9, 10, 11, 12, 56] [20] [slFeat false a, slFeat false b, I band, I (a.length : Int), I (b.length : Int), .arr 20, I i, I j, I 1000000000, Bv true] [some (.arr 1 fl'.length (fI fl'))] [0 < i] ⟨h24, trivial⟩ ?_
       refine x_true rfl ?_
       refine x_r [(10, .call [(true, .any), (true, .any)] true (I (min 1000000000 (at_ fl' ((((i - 1) * (b.length : Int)) + j).toNat)))))] [0, 1, 2, 7, 8, 9, 10, 11, 12] [20] [slFeat false a, slFeat false b, I band, I (a.length : Int), I (b.length : Int), .arr 20, I i, I j, I (min 1000000000 (at_ fl' ((((i - 1) * (b.length : Int)) + j).toNat)))] [some (.arr 1 fl'.length (fI fl'))] [inR .i64 (i - 1), inR .i64 ((i - 1) * (b.length : Int)), inR .i64 (((i - 1) * (b.length : Int)) + j), (0 : Int) ≤ (((i - 1) * (b.length : Int)) + j) ∧ (((i - 1) * (b.length : Int)) + j) < (fl'.length : Int), (((i - 1) * (b.length : Int)) + j).toNat < fl'.length, Con Tryz.prog 62 [I 1000000000, I (at_ fl' ((((i - 1) * (b.length : Int)) + j).toNat))] true (I (min 1000000000 (at_ fl' ((((i - 1) * (b.length : Int)) + j).toNat)))) ∧ True] ⟨(inR_i64 (by omega) (by omega)), (inR_i64 (by omega) (by omega)), (inR_i64 (by omega) (by omega)), ⟨(by omega), (by omega)⟩, (by omega), ⟨(l00Min_ok 1000000000 (at_ fl' ((((i - 1) * (b.length : Int)) + j).toNat))), trivial⟩, trivial⟩ ?_
       refine xe_then ?_
       refine x_seq ?_
       refine xR [(1, .dec false)] [0, 1, 2, 7, 8, 9, 10, 11, 12, 69] [20] [slFeat false a, slFeat false b, I band, I (a.length : Int), I (b.length : Int), .arr 20, I i, I j, I (min 1000000000 (at_ fl' ((((i - 1) * (b.length : Int)) + j).toNat))), Bv false] [some (.arr 1 fl'.length (fI fl'))] [¬ (0 < j)] ⟨h25, trivial⟩ ?_
       refine x_false rfl ?_
       refine x_skip ?_
       refine xe_then ?_
       refine x_seq ?_
       by_cases h28 : (min 1000000000 (at_ fl' ((((i - 1) * (b.length : Int)) + j).toNat))) = 1000000000
       ·refine x_r [(1, .dec true)] [0, 1, 2, 7, 8, 9, 10, 11, 12, 90] [20] [slFeat false a, slFeat false b, I band, I (a.length : Int), I (b.length : Int), .arr 20, I i, I j, I (min 1000000000 (at_ fl' ((((i - 1) * (b.length : Int)) + j).toNat))), Bv true] [some (.arr 1 fl'.length (fI fl'))] [(min 1000000000 (at_ fl' ((((i - 1) * (b.length : Int)) + j).toNat))) = 1000000000] ⟨h28, trivial⟩ ?_
        refine xe_then ?_
        refine x_true rfl ?_
        refine x_r [] [0, 1, 2, 7, 8, 9, 10, 11] [20] [slFeat false a, slFeat false b, I band, I (a.length : Int), I (b.length : Int), .arr 20, I i, I j] [some (.arr 1 fl'.length (fun q => bif Nat.beq q (((i * (b.length : Int)) + j).toNat) then [I 1000000000] else (fI fl') q))] [inR .i64 (i * (b.length : Int)), inR .i64 ((i * (b.length : Int)) + j), (0 : Int) ≤ ((i * (b.length : Int)) + j) ∧ ((i * (b.length : Int)) + j) < (fl'.length : Int), ((i * (b.length : Int)) + j).toNat < fl'.length] ⟨(inR_i64 (by omega) (by omega)), (inR_i64 (by omega) (by omega)), ⟨(by omega), (by omega)⟩, (by omega), trivial⟩ ?_
        refine xe_block 3 ?_
        refine xe_then ?_
        refine x_weak [] (T := [(0, slFeat false a), (1, slFeat false b), (2, I band), (7, I (a.length : Int)), (8, I (b.length : Int)), (9, .arr 20), (10, I i), (11, I j)]) (O := [(20, .arr 1 ((fl'.set (((i * (b.length : Int)) + j).toNat) 1000000000).length) (fI (fl'.set (((i * (b.length : Int)) + j).toNat) 1000000000)))]) rfl (⟨.inl rfl, .inl rfl, .inl rfl, .inl rfl, .inl rfl, .inl rfl, .inl rfl, .inl rfl, trivial⟩) (⟨.inr ⟨rfl, (by first | rfl | (simp; done) | (simp; omega) | omega), fun i_ hi_ => .inl (upd_enc (enc := cI) rfl i_ hi_)⟩, trivial⟩) ?_
        refine x_r [] [0, 1, 2, 7, 8, 9, 10, 11] [20] [slFeat false a, slFeat false b, I band, I (a.length : Int), I (b.length : Int), .arr 20, I i, I (j + 1)] [some (.arr 1 ((fl'.set (((i * (b.length : Int)) + j).toNat) 1000000000).length) (fI (fl'.set (((i * (b.length : Int)) + j).toNat) 1000000000)))] [inR .i64 (j + 1)] ⟨(inR_i64 (by omega) (by omega)), trivial⟩ ?_
        exact xe_again ((j + 1), (fl'.set (((i * (b.length : Int)) + j).toNat) 1000000000)) rfl (show (0 ≤ (j + 1) ∧ (j + 1) ≤ (b.length : Int)) ∧ (flOk a b band (fl'.set (((i * (b.length : Int)) + j).toNat) 1000000000) (i.toNat * b.length + (j + 1).toNat)) ∧ True from ⟨(by omega), (by rw [show (j + 1).toNat = j.toNat + 1 from by omega]; exact fl_step hin hi hj hka (by rw [hsb.2]; unfold sb3 sb2 sb1 sb0; (repeat' split) <;> omega)), trivial⟩) (by first | (show (((b.length : Int) - (j + 1)).toNat : Nat) < ((b.length : Int) - j).toNat; omega) | (dsimp only; omega))
       by_cases h29 : band < ((i - j).natAbs : Int)
       ·refine x_r [(1, .dec false), (6, .call [(true, .any)] true (I ((i - j).natAbs : Int))), (8, .dec true)] [0, 1, 2, 7, 8, 9, 10, 11, 12, 90] [20] [slFeat false a, slFeat false b, I band, I (a.length : Int), I (b.length : Int), .arr 20, I i, I j, I (min 1000000000 (at_ fl' ((((i - 1) * (b.length : Int)) + j).toNat))), Bv true] [some (.arr 1 fl'.length (fI fl'))] [¬ ((min 1000000000 (at_ fl' ((((i - 1) * (b.length : Int)) + j).toNat))) = 1000000000), inR .i64 (i - j), Con Tryz.prog 80 [I (i - j)] true (I ((i - j).natAbs : Int)) ∧ True, band < ((i - j).natAbs : Int)] ⟨h28, (inR_i64 (by omega) (by omega)), ⟨(l09Size_ok (i - j) (by omega)), trivial⟩, h29, trivial⟩ ?_
        refine xe_then ?_
        refine x_true rfl ?_
        refine x_r [] [0, 1, 2, 7, 8, 9, 10, 11] [20] [slFeat false a, slFeat false b, I band, I (a.length : Int), I (b.length : Int), .arr 20, I i, I j] [some (.arr 1 fl'.length (fun q => bif Nat.beq q (((i * (b.length : Int)) + j).toNat) then [I 1000000000] else (fI fl') q))] [inR .i64 (i * (b.length : Int)), inR .i64 ((i * (b.length : Int)) + j), (0 : Int) ≤ ((i * (b.length : Int)) + j) ∧ ((i * (b.length : Int)) + j) < (fl'.length : Int), ((i * (b.length : Int)) + j).toNat < fl'.length] ⟨(inR_i64 (by omega) (by omega)), (inR_i64 (by omega) (by omega)), ⟨(by omega), (by omega)⟩, (by omega), trivial⟩ ?_
        refine xe_block 3 ?_
        refine xe_then ?_
        refine x_weak [] (T := [(0, slFeat false a), (1, slFeat false b), (2, I band), (7, I (a.length : Int)), (8, I (b.length : Int)), (9, .arr 20), (10, I i), (11, I j)]) (O := [(20, .arr 1 ((fl'.set (((i * (b.length : Int)) + j).toNat) 1000000000).length) (fI (fl'.set (((i * (b.length : Int)) + j).toNat) 1000000000)))]) rfl (⟨.inl rfl, .inl rfl, .inl rfl, .inl rfl, .inl rfl, .inl rfl, .inl rfl, .inl rfl, trivial⟩) (⟨.inr ⟨rfl, (by first | rfl | (simp; done) | (simp; omega) | omega), fun i_ hi_ => .inl (upd_enc (enc := cI) rfl i_ hi_)⟩, trivial⟩) ?_
        refine x_r [] [0, 1, 2, 7, 8, 9, 10, 11] [20] [slFeat false a, slFeat false b, I band, I (a.length : Int), I (b.length : Int), .arr 20, I i, I (j + 1)] [some (.arr 1 ((fl'.set (((i * (b.length : Int)) + j).toNat) 1000000000).length) (fI (fl'.set (((i * (b.length : Int)) + j).toNat) 1000000000)))] [inR .i64 (j + 1)] ⟨(inR_i64 (by omega) (by omega)), trivial⟩ ?_
        exact xe_again ((j + 1), (fl'.set (((i * (b.length : Int)) + j).toNat) 1000000000)) rfl (show (0 ≤ (j + 1) ∧ (j + 1) ≤ (b.length : Int)) ∧ (flOk a b band (fl'.set (((i * (b.length : Int)) + j).toNat) 1000000000) (i.toNat * b.length + (j + 1).toNat)) ∧ True from ⟨(by omega), (by rw [show (j + 1).toNat = j.toNat + 1 from by omega]; exact fl_step hin hi hj hka (by rw [hsb.2]; unfold sb3 sb2 sb1 sb0; (repeat' split) <;> omega)), trivial⟩) (by first | (show (((b.length : Int) - (j + 1)).toNat : Nat) < ((b.length : Int) - j).toNat; omega) | (dsimp only; omega))
       refine x_r [(1, .dec false), (6, .call [(true, .any)] true (I ((i - j).natAbs : Int))), (8, .dec false)] [0, 1, 2, 7, 8, 9, 10, 11, 12, 90] [20] [slFeat false a, slFeat false b, I band, I (a.length : Int), I (b.length : Int), .arr 20, I i, I j, I (min 1000000000 (at_ fl' ((((i - 1) * (b.length : Int)) + j).toNat))), Bv false] [some (.arr 1 fl'.length (fI fl'))] [¬ ((min 1000000000 (at_ fl' ((((i - 1) * (b.length : Int)) + j).toNat))) = 1000000000), inR .i64 (i - j), Con Tryz.prog 80 [I (i - j)] true (I ((i - j).natAbs : Int)) ∧ True, ¬ (band < ((i - j).natAbs : Int))] ⟨h28, (inR_i64 (by omega) (by omega)), ⟨(l09Size_ok (i - j) (by omega)), trivial⟩, h29, trivial⟩ ?_
       refine xe_then ?_
       refine x_false rfl ?_
       refine x_r [(15, .call [(true, .any), (true, .any)] true (I (costF (at_ a i.toNat) (at_ b j.toNat))))] [0, 1, 2, 7, 8, 9, 10, 11] [20] [slFeat false a, slFeat false b, I band, I (a.length : Int), I (b.length : Int), .arr 20, I i, I j] [some (.arr 1 fl'.length (fun q => bif Nat.beq q (((i * (b.length : Int)) + j).toNat) then [I ((min 1000000000 (at_ fl' ((((i - 1) * (b.length : Int)) + j).toNat))) + (costF (at_ a i.toNat) (at_ b j.toNat)))] else (fI fl') q))] [inR .i64 (i * (b.length : Int)), inR .i64 ((i * (b.length : Int)) + j), (0 : Int) ≤ i ∧ i < (a.length : Int), (0 : Int) ≤ j ∧ j < (b.length : Int), Con Tryz.prog 109 [agFeat (at_ a i.toNat), agFeat (at_ b j.toNat)] true (I (costF (at_ a i.toNat) (at_ b j.toNat))) ∧ True, inR .i64 ((min 1000000000 (at_ fl' ((((i - 1) * (b.length : Int)) + j).toNat))) + (costF (at_ a i.toNat) (at_ b j.toNat))), (0 : Int) ≤ ((i * (b.length : Int)) + j) ∧ ((i * (b.length : Int)) + j) < (fl'.length : Int), ((i * (b.length : Int)) + j).toNat < fl'.length] ⟨(inR_i64 (by omega) (by omega)), (inR_i64 (by omega) (by omega)), ⟨(by omega), (by omega)⟩, ⟨(by omega), (by omega)⟩, ⟨(l09Cost_ok (at_ a i.toNat) (at_ b j.toNat) (by first | exact hab.1 _ (by omega) | exact hab.2.1 _ (by omega)) (by first | exact hab.1 _ (by omega) | exact hab.2.1 _ (by omega))), trivial⟩, (inR_i64 (by omega) (by omega)), ⟨(by omega), (by omega)⟩, (by omega), trivial⟩ ?_
       refine xe_block 3 ?_
       refine xe_then ?_
       refine x_weak [] (T := [(0, slFeat false a), (1, slFeat false b), (2, I band), (7, I (a.length : Int)), (8, I (b.length : Int)), (9, .arr 20), (10, I i), (11, I j)]) (O := [(20, .arr 1 ((fl'.set (((i * (b.length : Int)) + j).toNat) ((min 1000000000 (at_ fl' ((((i - 1) * (b.length : Int)) + j).toNat))) + (costF (at_ a i.toNat) (at_ b j.toNat)))).length) (fI (fl'.set (((i * (b.length : Int)) + j).toNat) ((min 1000000000 (at_ fl' ((((i - 1) * (b.length : Int)) + j).toNat))) + (costF (at_ a i.toNat) (at_ b j.toNat))))))]) rfl (⟨.inl rfl, .inl rfl, .inl rfl, .inl rfl, .inl rfl, .inl rfl, .inl rfl, .inl rfl, trivial⟩) (⟨.inr ⟨rfl, (by first | rfl | (simp; done) | (simp; omega) | omega), fun i_ hi_ => .inl (upd_enc (enc := cI) rfl i_ hi_)⟩, trivial⟩) ?_
       refine x_r [] [0, 1, 2, 7, 8, 9, 10, 11] [20] [slFeat false a, slFeat false b, I band, I (a.length : Int), I (b.length : Int), .arr 20, I i, I (j + 1)] [some (.arr 1 ((fl'.set (((i * (b.length : Int)) + j).toNat) ((min 1000000000 (at_ fl' ((((i - 1) * (b.length : Int)) + j).toNat))) + (costF (at_ a i.toNat) (at_ b j.toNat)))).length) (fI (fl'.set (((i * (b.length : Int)) + j).toNat) ((min 1000000000 (at_ fl' ((((i - 1) * (b.length : Int)) + j).toNat))) + (costF (at_ a i.toNat) (at_ b j.toNat))))))] [inR .i64 (j + 1)] ⟨(inR_i64 (by omega) (by omega)), trivial⟩ ?_
       exact xe_again ((j + 1), (fl'.set (((i * (b.length : Int)) + j).toNat) ((min 1000000000 (at_ fl' ((((i - 1) * (b.length : Int)) + j).toNat))) + (costF (at_ a i.toNat) (at_ b j.toNat))))) rfl (show (0 ≤ (j + 1) ∧ (j + 1) ≤ (b.length : Int)) ∧ (flOk a b band (fl'.set (((i * (b.length : Int)) + j).toNat) ((min 1000000000 (at_ fl' ((((i - 1) * (b.length : Int)) + j).toNat))) + (costF (at_ a i.toNat) (at_ b j.toNat)))) (i.toNat * b.length + (j + 1).toNat)) ∧ True from ⟨(by omega), (by rw [show (j + 1).toNat = j.toNat + 1 from by omega]; exact fl_step hin hi hj hka (by rw [hsb.2]; unfold sb3 sb2 sb1 sb0; (repeat' split) <;> omega)), trivial⟩) (by first | (show (((b.length : Int) - (j + 1)).toNat : Nat) < ((b.length : Int) - j).toNat; omega) | (dsimp only; omega))
      refine x_r [(1, .dec false)] [0, 1, 2, 7, 8, 9, 10, 11, 12, 42] [20] [slFeat false a, slFeat false b, I band, I (a.length : Int), I (b.length : Int), .arr 20, I i, I j, I 1000000000, Bv false] [some (.arr 1 fl'.length (fI fl'))] [¬ (0 < i)] ⟨h24, trivial⟩ ?_
      refine xe_then ?_
      refine x_false rfl ?_
      refine x_skip ?_
      refine xe_then ?_
      refine x_seq ?_
      refine xR [(1, .dec false)] [0, 1, 2, 7, 8, 9, 10, 11, 12, 56] [20] [slFeat false a, slFeat false b, I band, I (a.length : Int), I (b.length : Int), .arr 20, I i, I j, I 1000000000, Bv false] [some (.arr 1 fl'.length (fI fl'))] [¬ (0 < i)] ⟨h24, trivial⟩ ?_
      refine x_false rfl ?_
      refine x_skip ?_
      refine xe_then ?_
      refine x_seq ?_
      refine x_seq ?_
      by_cases h30 : 0 < j
      ·refine x_r [(1, .dec true)] [0, 1, 2, 7, 8, 9, 10, 11, 12, 69] [20] [slFeat false a, slFeat false b, I band, I (a.length : Int), I (b.length : Int), .arr 20, I i, I j, I 1000000000, Bv true] [some (.arr 1 fl'.length (fI fl'))] [0 < j] ⟨h30, trivial⟩ ?_
       refine xe_then ?_
       refine x_true rfl ?_
       refine x_r [(10, .call [(true, .any), (true, .any)] true (I (min 1000000000 (at_ fl' ((((i * (b.length : Int)) + j) - 1).toNat)))))] [0, 1, 2, 7, 8, 9, 10, 11, 12] [20] [slFeat false a, slFeat false b, I band, I (a.length : Int), I (b.length : Int), .arr 20, I i, I j, I (min 1000000000 (at_ fl' ((((i * (b.length : Int)) + j) - 1).toNat)))] [some (.arr 1 fl'.length (fI fl'))] [inR .i64 (i * (b.length : Int)), inR .i64 ((i * (b.length : Int)) + j), inR .i64 (((i * (b.length : Int)) + j) - 1), (0 : Int) ≤ (((i * (b.length : Int)) + j) - 1) ∧ (((i * (b.length : Int)) + j) - 1) < (fl'.length : Int), (((i * (b.length : Int)) + j) - 1).toNat < fl'.length, Con Tryz.prog 62 [I 1000000000, I (at_ fl' ((((i * (b.length : Int)) + j) - 1).toNat))] true (I (min 1000000000 (at_ fl' ((((i * (b.length : Int)) + j) - 1).toNat)))) ∧ True] ⟨(inR_i64 (by omega) (by omega)), (inR_i64 (by omega) (by omega)), (inR_i64 (by omega) (by omega)), ⟨(by omega), (by omega)⟩, (by omega), ⟨(l00Min_ok 1000000000 (at_ fl' ((((i * (b.length : Int)) + j) - 1).toNat))), trivial⟩, trivial⟩ ?_
       refine xe_then ?_
       refine x_seq ?_
       by_cases h31 : (min 1000000000 (at_ fl' ((((i * (b.length : Int)) + j) - 1).toNat))) = 1000000000
       ·refine x_r [(1, .dec true)] [0, 1, 2, 7, 8, 9, 10, 11, 12, 90] [20] [slFeat false a, slFeat false b, I band, I (a.length : Int), I (b.length : Int), .arr 20, I i, I j, I (min 1000000000 (at_ fl' ((((i * (b.length : Int)) + j) - 1).toNat))), Bv true] [some (.arr 1 fl'.length (fI fl'))] [(min 1000000000 (at_ fl' ((((i * (b.length : Int)) + j) - 1).toNat))) = 1000000000] ⟨h31, trivial⟩ ?_
        refine xe_then ?_
        refine x_true rfl ?_
        refine x_r [] [0, 1, 2, 7, 8, 9, 10, 11] [20] [slFeat false a, slFeat false b, I band, I (a.length : Int), I (b.length : Int), .arr 20, I i, I j] [some (.arr 1 fl'.length (fun q => bif Nat.beq q (((i * (b.length : Int)) + j).toNat) then [I 1000000000] else (fI fl') q))] [inR .i64 (i * (b.length : Int)), inR .i64 ((i * (b.length : Int)) + j), (0 : Int) ≤ ((i * (b.length : Int)) + j) ∧ ((i * (b.length : Int)) + j) < (fl'.length : Int), ((i * (b.length : Int)) + j).toNat < fl'.length] ⟨(inR_i64 (by omega) (by omega)), (inR_i64 (by omega) (by omega)), ⟨(by omega), (by omega)⟩, (by omega), trivial⟩ ?_
        refine xe_block 3 ?_
        refine xe_then ?_
        refine x_weak [] (T := [(0, slFeat false a), (1, slFeat false b), (2, I band), (7, I (a.length : Int)), (8, I (b.length : Int)), (9, .arr 20), (10, I i), (11, I j)]) (O := [(20, .arr 1 ((fl'.set (((i * (b.length : Int)) + j).toNat) 1000000000).length) (fI (fl'.set (((i * (b.length : Int)) + j).toNat) 1000000000)))]) rfl (⟨.inl rfl, .inl rfl, .inl rfl, .inl rfl, .inl rfl, .inl rfl, .inl rfl, .inl rfl, trivial⟩) (⟨.inr ⟨rfl, (by first | rfl | (simp; done) | (simp; omega) | omega), fun i_ hi_ => .inl (upd_enc (enc := cI) rfl i_ hi_)⟩, trivial⟩) ?_
        refine x_r [] [0, 1, 2, 7, 8, 9, 10, 11] [20] [slFeat false a, slFeat false b, I band, I (a.length : Int), I (b.length : Int), .arr 20, I i, I (j + 1)] [some (.arr 1 ((fl'.set (((i * (b.length : Int)) + j).toNat) 1000000000).length) (fI (fl'.set (((i * (b.length : Int)) + j).toNat) 1000000000)))] [inR .i64 (j + 1)] ⟨(inR_i64 (by omega) (by omega)), trivial⟩ ?_
        exact xe_again ((j + 1), (fl'.set (((i * (b.length : Int)) + j).toNat) 1000000000)) rfl (show (0 ≤ (j + 1) ∧ (j + 1) ≤ (b.length : Int)) ∧ (flOk a b band (fl'.set (((i * (b.length : Int)) + j).toNat) 1000000000) (i.toNat * b.length + (j + 1).toNat)) ∧ True from ⟨(by omega), (by rw [show (j + 1).toNat = j.toNat + 1 from by omega]; exact fl_step hin hi hj hka (by rw [hsb.2]; unfold sb3 sb2 sb1 sb0; (repeat' split) <;> omega)), trivial⟩) (by first | (show (((b.length : Int) - (j + 1)).toNat : Nat) < ((b.length : Int) - j).toNat; omega) | (dsimp only; omega))
       by_cases h32 : band < ((i - j).natAbs : Int)
       ·refine x_r [(1, .dec false), (6, .call [(true, .any)] true (I ((i - j).natAbs : Int))), (8, .dec true)] [0, 1, 2, 7, 8, 9, 10, 11, 12, 90] [20] [slFeat false a, slFeat false b, I band, I (a.length : Int), I (b.length : Int), .arr 20, I i, I j, I (min 1000000000 (at_ fl' ((((i * (b.length : Int)) + j) - 1).toNat))), Bv true] [some (.arr 1 fl'.length (fI fl'))] [¬ ((min 1000000000 (at_ fl' ((((i * (b.length : Int)) + j) - 1).toNat))) = 1000000000), inR .i64 (i - j), Con Tryz.prog 80 [I (i - j)] true (I ((i - j).natAbs : Int)) ∧ True, band < ((i - j).natAbs : Int)] ⟨h31, (inR_i64 (by omega) (by omega)), ⟨(l09Size_ok (i - j) (by omega)), trivial⟩, h32, trivial⟩ ?_
        refine xe_then ?_
        refine x_true rfl ?_
        refine x_r [] [0, 1, 2, 7, 8, 9, 10, 11] [20] [slFeat false a, slFeat false b, I band, I (a.length : Int), I (b.length : Int), .arr 20, I i, I j] [some (.arr 1 fl'.length (fun q => bif Nat.beq q (((i * (b.length : Int)) + j).toNat) then [I 1000000000] else (fI fl') q))] [inR .i64 (i * (b.length : Int)), inR .i64 ((i * (b.length : Int)) + j), (0 : Int) ≤ ((i * (b.length : Int)) + j) ∧ ((i * (b.length : Int)) + j) < (fl'.length : Int), ((i * (b.length : Int)) + j).toNat < fl'.length] ⟨(inR_i64 (by omega) (by omega)), (inR_i64 (by omega) (by omega)), ⟨(by omega), (by omega)⟩, (by omega), trivial⟩ ?_
        refine xe_block 3 ?_
        refine xe_then ?_
        refine x_weak [] (T := [(0, slFeat false a), (1, slFeat false b), (2, I band), (7, I (a.length : Int)), (8, I (b.length : Int)), (9, .arr 20), (10, I i), (11, I j)]) (O := [(20, .arr 1 ((fl'.set (((i * (b.length : Int)) + j).toNat) 1000000000).length) (fI (fl'.set (((i * (b.length : Int)) + j).toNat) 1000000000)))]) rfl (⟨.inl rfl, .inl rfl, .inl rfl, .inl rfl, .inl rfl, .inl rfl, .inl rfl, .inl rfl, trivial⟩) (⟨.inr ⟨rfl, (by first | rfl | (simp; done) | (simp; omega) | omega), fun i_ hi_ => .inl (upd_enc (enc := cI) rfl i_ hi_)⟩, trivial⟩) ?_
        refine x_r [] [0, 1, 2, 7, 8, 9, 10, 11] [20] [slFeat false a, slFeat false b, I band, I (a.length : Int), I (b.length : Int), .arr 20, I i, I (j + 1)] [some (.arr 1 ((fl'.set (((i * (b.length : Int)) + j).toNat) 1000000000).length) (fI (fl'.set (((i * (b.length : Int)) + j).toNat) 1000000000)))] [inR .i64 (j + 1)] ⟨(inR_i64 (by omega) (by omega)), trivial⟩ ?_
        exact xe_again ((j + 1), (fl'.set (((i * (b.length : Int)) + j).toNat) 1000000000)) rfl (show (0 ≤ (j + 1) ∧ (j + 1) ≤ (b.length : Int)) ∧ (flOk a b band (fl'.set (((i * (b.length : Int)) + j).toNat) 1000000000) (i.toNat * b.length + (j + 1).toNat)) ∧ True from ⟨(by omega), (by rw [show (j + 1).toNat = j.toNat + 1 from by omega]; exact fl_step hin hi hj hka (by rw [hsb.2]; unfold sb3 sb2 sb1 sb0; (repeat' split) <;> omega)), trivial⟩) (by first | (show (((b.length : Int) - (j + 1)).toNat : Nat) < ((b.length : Int) - j).toNat; omega) | (dsimp only; omega))
       refine x_r [(1, .dec false), (6, .call [(true, .any)] true (I ((i - j).natAbs : Int))), (8, .dec false)] [0, 1, 2, 7, 8, 9, 10, 11, 12, 90] [20] [slFeat false a, slFeat false b, I band, I (a.length : Int), I (b.length : Int), .arr 20, I i, I j, I (min 1000000000 (at_ fl' ((((i * (b.length : Int)) + j) - 1).toNat))), Bv false] [some (.arr 1 fl'.length (fI fl'))] [¬ ((min 1000000000 (at_ fl' ((((i * (b.length : Int)) + j) - 1).toNat))) = 1000000000), inR .i64 (i - j), Con Tryz.prog 80 [I (i - j)] true (I ((i - j).natAbs : Int)) ∧ True, ¬ (band < ((i - j).natAbs : Int))] ⟨h31, (inR_i64 (by omega) (by omega)), ⟨(l09Size_ok (i - j) (by omega)), trivial⟩, h32, trivial⟩ ?_
       refine xe_then ?_
       refine x_false rfl ?_
       refine x_r [(15, .call [(true, .any), (true, .any)] true (I (costF (at_ a i.toNat) (at_ b j.toNat))))] [0, 1, 2, 7, 8, 9, 10, 11] [20] [slFeat false a, slFeat false b, I band, I (a.length : Int), I (b.length : Int), .arr 20, I i, I j] [some (.arr 1 fl'.length (fun q => bif Nat.beq q (((i * (b.length : Int)) + j).toNat) then [I ((min 1000000000 (at_ fl' ((((i * (b.length : Int)) + j) - 1).toNat))) + (costF (at_ a i.toNat) (at_ b j.toNat)))] else (fI fl') q))] [inR .i64 (i * (b.length : Int)), inR .i64 ((i * (b.length : Int)) + j), (0 : Int) ≤ i ∧ i < (a.length : Int), (0 : Int) ≤ j ∧ j < (b.length : Int), Con Tryz.prog 109 [agFeat (at_ a i.toNat), agFeat (at_ b j.toNat)] true (I (costF (at_ a i.toNat) (at_ b j.toNat))) ∧ True, inR .i64 ((min 1000000000 (at_ fl' ((((i * (b.length : Int)) + j) - 1).toNat))) + (costF (at_ a i.toNat) (at_ b j.toNat))), (0 : Int) ≤ ((i * (b.length : Int)) + j) ∧ ((i * (b.length : Int)) + j) < (fl'.length : Int), ((i * (b.length : Int)) + j).toNat < fl'.length] ⟨(inR_i64 (by omega) (by omega)), (inR_i64 (by omega) (by omega)), ⟨(by omega), (by omega)⟩, ⟨(by omega), (by omega)⟩, ⟨(l09Cost_ok (at_ a i.toNat) (at_ b j.toNat) (by first | exact hab.1 _ (by omega) | exact hab.2.1 _ (by omega)) (by first | exact hab.1 _ (by omega) | exact hab.2.1 _ (by omega))), trivial⟩, (inR_i64 (by omega) (by omega)), ⟨(by omega), (by omega)⟩, (by omega), trivial⟩ ?_
       refine xe_block 3 ?_
       refine xe_then ?_
       refine x_weak [] (T := [(0, slFeat false a), (1, slFeat false b), (2, I band), (7, I (a.length : Int)), (8, I (b.length : Int)), (9, .arr 20), (10, I i), (11, I j)]) (O := [(20, .arr 1 ((fl'.set (((i * (b.length : Int)) + j).toNat) ((min 1000000000 (at_ fl' ((((i * (b.length : Int)) + j) - 1).toNat))) + (costF (at_ a i.toNat) (at_ b j.toNat)))).length) (fI (fl'.set (((i * (b.length : Int)) + j).toNat) ((min 1000000000 (at_ fl' ((((i * (b.length : Int)) + j) - 1).toNat))) + (costF (at_ a i.toNat) (at_ b j.toNat))))))]) rfl (⟨.inl rfl, .inl rfl, .inl rfl, .inl rfl, .inl rfl, .inl rfl, .inl rfl, .inl rfl, trivial⟩) (⟨.inr ⟨rfl, (by first | rfl | (simp; done) | (simp; omega) | omega), fun i_ hi_ => .inl (upd_enc (enc := cI) rfl i_ hi_)⟩, trivial⟩) ?_
       refine x_r [] [0, 1, 2, 7, 8, 9, 10, 11] [20] [slFeat false a, slFeat false b, I band, I (a.length : Int), I (b.length : Int), .arr 20, I i, I (j + 1)] [some (.arr 1 ((fl'.set (((i * (b.length : Int)) + j).toNat) ((min 1000000000 (at_ fl' ((((i * (b.length : Int)) + j) - 1).toNat))) + (costF (at_ a i.toNat) (at_ b j.toNat)))).length) (fI (fl'.set (((i * (b.length : Int)) + j).toNat) ((min 1000000000 (at_ fl' ((((i * (b.length : Int)) + j) - 1).toNat))) + (costF (at_ a i.toNat) (at_ b j.toNat))))))] [inR .i64 (j + 1)] ⟨(inR_i64 (by omega) (by omega)), trivial⟩ ?_
       exact xe_again ((j + 1), (fl'.set (((i * (b.length : Int)) + j).toNat) ((min 1000000000 (at_ fl' ((((i * (b.length : Int)) + j) - 1).toNat))) + (costF (at_ a i.toNat) (at_ b j.toNat))))) rfl (show (0 ≤ (j + 1) ∧ (j + 1) ≤ (b.length : Int)) ∧ (flOk a b band (fl'.set (((i * (b.length : Int)) + j).toNat) ((min 1000000000 (at_ fl' ((((i * (b.length : Int)) + j) - 1).toNat))) + (costF (at_ a i.toNat) (at_ b j.toNat)))) (i.toNat * b.length + (j + 1).toNat)) ∧ True from ⟨(by omega), (by rw [show (j + 1).toNat = j.toNat + 1 from by omega]; exact fl_step hin hi hj hka (by rw [hsb.2]; unfold sb3 sb2 sb1 sb0; (repeat' split) <;> omega)), trivial⟩) (by first | (show (((b.length : Int) - (j + 1)).toNat : Nat) < ((b.length : Int) - j).toNat; omega) | (dsimp only; omega))
      refine x_r [(1, .dec false)] [0, 1, 2, 7, 8, 9, 10, 11, 12, 69] [20] [slFeat false a, slFeat false b, I band, I (a.length : Int), I (b.length : Int), .arr 20, I i, I j, I 1000000000, Bv false] [some (.arr 1 fl'.length (fI fl'))] [¬ (0 < j)] ⟨h30, trivial⟩ ?_
      refine xe_then ?_
      refine x_false rfl ?_
      refine x_skip ?_
      refine xe_then ?_
      refine xR [(1, .dec true)] [0, 1, 2, 7, 8, 9, 10, 11, 12, 90] [20] [slFeat false a, slFeat false b, I band, I (a.length : Int), I (b.length : Int), .arr 20, I i, I j, I 1000000000, Bv true] [some (.arr 1 fl'.length (fI fl'))] [(1000000000 : Int) = 1000000000] ⟨(by decide), trivial⟩ ?_
      refine x_true rfl ?_
      refine x_r [] [0, 1, 2, 7, 8, 9, 10, 11] [20] [slFeat false a, slFeat false b, I band, I (a.length : Int), I (b.length : Int), .arr 20, I i, I j] [some (.arr 1 fl'.length (fun q => bif Nat.beq q (((i * (b.length : Int)) + j).toNat) then [I 1000000000] else (fI fl') q))] [inR .i64 (i * (b.length : Int)), inR .i64 ((i * (b.length : Int)) + j), (0 : Int) ≤ ((i * (b.length : Int)) + j) ∧ ((i * (b.length : Int)) + j) < (fl'.length : Int), ((i * (b.length : Int)) + j).toNat < fl'.length] ⟨(inR_i64 (by omega) (by omega)), (inR_i64 (by omega) (by omega)), ⟨(by omega), (by omega)⟩, (by omega), trivial⟩ ?_
      refine xe_block 3 ?_
      refine xe_then ?_
      refine x_weak [] (T := [(0, slFeat false a), (1, slFeat false b), (2, I band), (7, I (a.length : Int)), (8, I (b.length : Int)), (9, .arr 20), (10, I i), (11, I j)]) (O := [(20, .arr 1 ((fl'.set (((i * (b.length : Int)) + j).toNat) 1000000000).length) (fI (fl'.set (((i * (b.length : Int)) + j).toNat) 1000000000)))]) rfl (⟨.inl rfl, .inl rfl, .inl rfl, .inl rfl, .inl rfl, .inl rfl, .inl rfl, .inl rfl, trivial⟩) (⟨.inr ⟨rfl, (by first | rfl | (simp; done) | (simp; omega) | omega), fun i_ hi_ => .inl (upd_enc (enc := cI) rfl i_ hi_)⟩, trivial⟩) ?_
      refine x_r [] [0, 1, 2, 7, 8, 9, 10, 11] [20] [slFeat false a, slFeat false b, I band, I (a.length : Int), I (b.length : Int), .arr 20, I i, I (j + 1)] [some (.arr 1 ((fl'.set (((i * (b.length : Int)) + j).toNat) 1000000000).length) (fI (fl'.set (((i * (b.length : Int)) + j).toNat) 1000000000)))] [inR .i64 (j + 1)] ⟨(inR_i64 (by omega) (by omega)), trivial⟩ ?_
      exact xe_again ((j + 1), (fl'.set (((i * (b.length : Int)) + j).toNat) 1000000000)) rfl (show (0 ≤ (j + 1) ∧ (j + 1) ≤ (b.length : Int)) ∧ (flOk a b band (fl'.set (((i * (b.length : Int)) + j).toNat) 1000000000) (i.toNat * b.length + (j + 1).toNat)) ∧ True from ⟨(by omega), (by rw [show (j + 1).toNat = j.toNat + 1 from by omega]; exact fl_step hin hi hj hka (by rw [hsb.2]; unfold sb3 sb2 sb1 sb0; (repeat' split) <;> omega)), trivial⟩) (by first | (show (((b.length : Int) - (j + 1)).toNat : Nat) < ((b.length : Int) - j).toNat; omega) | (dsimp only; omega))
     have hje : j.toNat = b.length := by omega
     refine x_r [(2, .dec false)] [0, 1, 2, 7, 8, 9, 10, 11, 28] [20] [slFeat false a, slFeat false b, I band, I (a.length : Int), I (b.length : Int), .arr 20, I i, I j, Bv false] [some (.arr 1 fl'.length (fI fl'))] [¬ (j < (b.length : Int))] ⟨h2, trivial⟩ ?_
     refine xe_then ?_
     refine x_false rfl ?_
     refine x_exit ?_
     refine xe_exit_then ?_
     refine xe_loop_exit ?_
     refine xe_exit_same ?_
     refine xe_block 1 ?_
     refine xe_then ?_
     refine x_r [] [0, 1, 2, 7, 8, 9, 10] [20] [slFeat false a, slFeat false b, I band, I (a.length : Int), I (b.length : Int), .arr 20, I (i + 1)] [some (.arr 1 fl'.length (fI fl'))] [inR .i64 (i + 1)] ⟨(inR_i64 (by omega) (by omega)), trivial⟩ ?_
     exact xe_again ((i + 1), fl') rfl (show (0 ≤ (i + 1) ∧ (i + 1) ≤ (a.length : Int)) ∧ (flOk a b band fl' ((i + 1).toNat * b.length)) ∧ True from ⟨(by omega), (by rw [show (i + 1).toNat = i.toNat + 1 from by omega]; exact fl_done hin hje), trivial⟩) (by first | (show (((a.length : Int) - (i + 1)).toNat : Nat) < ((a.length : Int) - i).toNat; omega) | (dsimp only; omega))
    have hie : i.toNat = a.length := by omega
    rw [hie] at hfl
    refine x_r [(2, .dec false)] [0, 1, 2, 7, 8, 9, 10, 23] [20] [slFeat false a, slFeat false b, I band, I (a.length : Int), I (b.length : Int), .arr 20, I i, Bv false] [some (.arr 1 fl.length (fI fl))] [¬ (i < (a.length : Int))] ⟨h1, trivial⟩ ?_
    refine xe_then ?_
    refine x_false rfl ?_
    refine x_exit ?_
    refine xe_exit_then ?_
    refine xe_loop_exit ?_
    refine xe_exit_same ?_
    refine xe_then ?_
    refine xR [] [6] [20] [.arr 20] [some (.arr 1 fl.length (fI fl))] [] trivial ?_
    refine x_ret ?_
    refine xe_end fl (show (flOk a b band fl (a.length * b.length)) ∧ (True) from ⟨(by first | assumption | exact hfl), trivial⟩) (trivial) (.arr 20) (by kernel_rfl) (.inr ⟨(fun _ => rfl), rfl, rfl, fun i _ => .inl rfl⟩) (fun _ => rfl) (fun _ => (tagI true _))
  obtain ⟨out, ⟨hh0, _⟩, hc⟩ := hh
  exact ⟨out, hh0, hc⟩


/-- The pair ahead on a path of least cost. -/
def nx (a b : List Feat) (band : Int) (i j : Nat) : Nat × Nat :=
  if (0 < i ∧ 0 < j) ∧ cv farS a b band (i - 1) (j - 1) = cv farS a b band i j - costF (at_ a i) (at_ b j) then (i - 1, j - 1)
  else if 0 < i ∧ cv farS a b band (i - 1) j = cv farS a b band i j - costF (at_ a i) (at_ b j) then (i - 1, j) else (i, j - 1)
def inBd (band : Int) (i j : Nat) : Prop := (((i : Int) - (j : Int)).natAbs : Int) ≤ band
theorem cv_fin {a b : List Feat} {band : Int} {i j : Nat} (hab : okAB a b) (hi : i < a.length) (hj : j < b.length) : (inBd band i j ∧ cv farI a b band i j = cv farS a b band i j ∧ 0 ≤ cv farS a b band i j ∧ cv farS a b band i j ≤ 87000) ∨ (¬ inBd band i j ∧ cv farI a b band i j = 1099511627776 ∧ cv farS a b band i j = 1000000000) := by
  have hl := hab.2.2
  by_cases h : inBd band i j
  · have q := cv_in (band := band) hab (f1 := farS) (f2 := farI) (by decide) (by decide) (i + j) i j rfl hi hj h
    exact .inl ⟨h, q.1.symm, q.2.1, by omega⟩
  · unfold inBd at h
    exact .inr ⟨h, cv_out (by omega), cv_out (by omega)⟩
/-- The cost of a pair within the band is that of one ahead and its own. -/
theorem cv_add {far : Int} (hf : 1000000000 ≤ far) {a b : List Feat} {band : Int} {i j : Nat} (hab : okAB a b) (hi : i < a.length) (hj : j < b.length) (hb : inBd band i j) (h0 : ¬ (i = 0 ∧ j = 0)) :
    ∃ x, cv far a b band i j = x + costF (at_ a i) (at_ b j) ∧ x < far ∧ ((0 < i ∧ 0 < j) ∧ x = cv far a b band (i - 1) (j - 1) ∨ 0 < i ∧ x = cv far a b band (i - 1) j ∨ 0 < j ∧ x = cv far a b band i (j - 1)) ∧ (0 < i → 0 < j → x ≤ cv far a b band (i - 1) (j - 1)) ∧ (0 < i → x ≤ cv far a b band (i - 1) j) ∧ (0 < j → x ≤ cv far a b band i (j - 1)) := by
  have q := cv_in (band := band) hab hf hf (i + j) i j rfl hi hj hb
  have hl := hab.2.2
  have hc := costF_bd (hab.1 i hi) (hab.2.1 j hj)
  unfold inBd at hb
  rcases i with _ | i <;> rcases j with _ | j
  · exact absurd ⟨rfl, rfl⟩ h0
  · obtain ⟨v, e⟩ : ∃ v, v = cv far a b band 0 (j + 1) := ⟨_, rfl⟩
    rw [← e] at q ⊢
    rw [cv] at e
    unfold stp at e
    split at e
    · omega
    · refine ⟨_, e, by omega, ?_, by omega, by omega, fun _ => by simp only [Nat.add_sub_cancel]; omega⟩
      right; right; refine ⟨by omega, ?_⟩; simp only [Nat.add_sub_cancel]; omega
  · obtain ⟨v, e⟩ : ∃ v, v = cv far a b band (i + 1) 0 := ⟨_, rfl⟩
    rw [← e] at q ⊢
    rw [cv] at e
    unfold stp at e
    split at e
    · omega
    · refine ⟨_, e, by omega, ?_, by omega, fun _ => by simp only [Nat.add_sub_cancel]; omega, by omega⟩
      right; left; refine ⟨by omega, ?_⟩; simp only [Nat.add_sub_cancel]; omega
  · obtain ⟨v, e⟩ : ∃ v, v = cv far a b band (i + 1) (j + 1) := ⟨_, rfl⟩
    rw [← e] at q ⊢
    rw [cv] at e
    unfold stp at e
    split at e
    · omega
    · refine ⟨_, e, by omega, ?_, fun _ _ => by simp only [Nat.add_sub_cancel]; omega, fun _ => by simp only [Nat.add_sub_cancel]; omega, fun _ => by simp only [Nat.add_sub_cancel]; omega⟩
      simp only [Nat.add_sub_cancel]
      omega

theorem eq_nb {a b : List Feat} {band : Int} {i j : Nat} (hab : okAB a b) (hi : i < a.length) (hj : j < b.length) {x : Int} (hx : x ≤ 87000) : (cv farI a b band i j = x) ↔ (cv farS a b band i j = x) := by
  rcases cv_fin (band := band) hab hi hj with h | h <;> omega
theorem nx_le (a b : List Feat) (band : Int) (i j : Nat) : (nx a b band i j).1 ≤ i ∧ (nx a b band i j).2 ≤ j := by
  unfold nx; split
  · exact ⟨Nat.sub_le _ _, Nat.sub_le _ _⟩
  · split
    · exact ⟨Nat.sub_le _ _, Nat.le_refl _⟩
    · exact ⟨Nat.le_refl _, Nat.sub_le _ _⟩
theorem nx_ok {a b : List Feat} {band : Int} {i j : Nat} (hab : okAB a b) (hi : i < a.length) (hj : j < b.length) (hb : inBd band i j) (h0 : ¬ (i = 0 ∧ j = 0)) :
    inBd band (nx a b band i j).1 (nx a b band i j).2 ∧ (nx a b band i j).1 + (nx a b band i j).2 < i + j ∧ i ≤ (nx a b band i j).1 + 1 := by
  obtain ⟨x, e, hx, ho, _⟩ := cv_add (far := farS) (by decide) hab hi hj hb h0
  have hF : farS = 1000000000 := rfl
  have fin : ∀ p q, p < a.length → q < b.length → cv farS a b band p q = x → inBd band p q := fun p q hp hq h => by
    rcases cv_fin (band := band) hab hp hq with g | g
    · exact g.1
    · omega
  have ex : cv farS a b band i j - costF (at_ a i) (at_ b j) = x := by omega
  unfold nx
  rw [ex]
  by_cases h1 : (0 < i ∧ 0 < j) ∧ cv farS a b band (i - 1) (j - 1) = x
  · rw [if_pos h1]; exact ⟨fin _ _ (by omega) (by omega) h1.2, by dsimp only; omega, by dsimp only; omega⟩
  · rw [if_neg h1]
    by_cases h2 : 0 < i ∧ cv farS a b band (i - 1) j = x
    · rw [if_pos h2]; exact ⟨fin _ _ (by omega) (by omega) h2.2, by dsimp only; omega, by dsimp only; omega⟩
    · rw [if_neg h2]
      have h3 : 0 < j ∧ x = cv farS a b band i (j - 1) := by
        rcases ho with g | g | g
        · exact absurd ⟨g.1, g.2.symm⟩ h1
        · exact absurd ⟨g.1, g.2.symm⟩ h2
        · exact g
      exact ⟨fin _ _ (by omega) (by omega) h3.2.symm, by dsimp only; omega, by dsimp only; omega⟩
/-- The path of least cost, from its end. -/
def bk (a b : List Feat) (band : Int) : Nat → Nat → Nat → List Pair
  | 0, i, j => [⟨i, j⟩]
  | s + 1, i, j => if i = 0 ∧ j = 0 then [⟨i, j⟩] else ⟨i, j⟩ :: bk a b band s (nx a b band i j).1 (nx a b band i j).2
theorem bk_head (a b : List Feat) (band : Int) (s i j : Nat) : bk a b band s i j = ⟨i, j⟩ :: (bk a b band s i j).tail := by
  cases s with
  | zero => rfl
  | succ s => unfold bk; split <;> rfl
theorem bk_end (a b : List Feat) (band : Int) (s : Nat) : (bk a b band s 0 0).tail = [] := by
  cases s with
  | zero => rfl
  | succ s => rfl
theorem bk_tail {a b : List Feat} {band : Int} {s i j : Nat} (h0 : ¬ (i = 0 ∧ j = 0)) : (bk a b band (s + 1) i j).tail = ⟨(nx a b band i j).1, (nx a b band i j).2⟩ :: (bk a b band s (nx a b band i j).1 (nx a b band i j).2).tail := by
  rw [← bk_head, bk, if_neg h0, List.tail_cons]
theorem bk_len (a b : List Feat) (band : Int) : ∀ s i j : Nat, 1 ≤ (bk a b band s i j).length ∧ (bk a b band s i j).length ≤ s + 1
  | 0, i, j => by simp [bk]
  | s + 1, i, j => by
    have := bk_len a b band s (nx a b band i j).1 (nx a b band i j).2
    unfold bk; split <;> simp <;> omega
theorem bk_mem {a b : List Feat} {band : Int} : ∀ {s i j : Nat} {p : Pair}, p ∈ bk a b band s i j → (0 ≤ p.I ∧ p.I ≤ (i : Int)) ∧ 0 ≤ p.J ∧ p.J ≤ (j : Int)
  | 0, i, j, p, h => by simp [bk] at h; subst h; simp
  | s + 1, i, j, p, h => by
    unfold bk at h
    split at h
    · simp at h; subst h; simp
    · rcases List.mem_cons.1 h with e | e
      · subst e; simp
      · have q := bk_mem e
        have n := nx_le a b band i j
        omega
theorem bk_cov {a b : List Feat} {band : Int} (hab : okAB a b) : ∀ (s i j : Nat), i < a.length → j < b.length → inBd band i j → i + j ≤ s → ∀ k : Nat, k ≤ i → ∃ p ∈ bk a b band s i j, p.I = (k : Int)
  | 0, i, j, hi, hj, hb, hs, k, hk => ⟨⟨i, j⟩, by simp [bk], by dsimp only; omega⟩
  | s + 1, i, j, hi, hj, hb, hs, k, hk => by
    by_cases e : k = i
    · subst e; exact ⟨⟨k, j⟩, by rw [bk_head]; simp, rfl⟩
    · have h0 : ¬ (i = 0 ∧ j = 0) := by omega
      have n := nx_ok hab hi hj hb h0
      have l := nx_le a b band i j
      obtain ⟨p, hp, hq⟩ := bk_cov hab s _ _ (by omega) (by omega) n.1 (by omega) k (by omega)
      exact ⟨p, by unfold bk; rw [if_neg h0]; exact List.mem_cons_of_mem _ hp, hq⟩
/-- The whole path, from its end. -/
def tot (a b : List Feat) (band : Int) : List Pair := bk a b band (a.length + b.length - 1) (a.length - 1) (b.length - 1)
/-- The step that is taken. -/
def isNx (a b : List Feat) (band i j i2 j2 : Int) : Prop := (0 ≤ i2 ∧ i2 ≤ i) ∧ (0 ≤ j2 ∧ j2 ≤ j) ∧ i2.toNat = (nx a b band i.toNat j.toNat).1 ∧ j2.toNat = (nx a b band i.toNat j.toNat).2
theorem tb_at {a b : List Feat} {band : Int} {tb : List (List Int)} (h : tbOk a b band tb a.length) {p q : Nat} (hp : p < a.length) (hq : q < b.length) : at_ (at_ tb p) q = cv farI a b band p q := (h.2 p hp).2 q hq
theorem lst_eq {a b : List Feat} {band : Int} {tb : List (List Int)} {i j : Nat} (hab : okAB a b) (h : tbOk a b band tb a.length) (hi : i < a.length) (hj : j < b.length) (hb : inBd band i j) (h0 : ¬ (i = 0 ∧ j = 0)) :
    lb3 tb i j = cv farS a b band i j - costF (at_ a i) (at_ b j) ∧ lb3 tb i j ≤ 87000 := by
  have q := lb_at hab (i := i) (j := j) ⟨h.1, fun p hp => h.2 p (by omega)⟩ ⟨(h.2 i hi).1, fun q hq => (h.2 i hi).2 q (by omega)⟩ hi hj
  have hc := costF_bd (hab.1 i hi) (hab.2.1 j hj)
  have e := q.2
  have hF : farI = 1099511627776 := rfl
  have hb' := hb
  unfold inBd at hb'
  rw [if_neg h0] at e
  unfold stp at e
  rcases cv_fin (band := band) hab hi hj with g | g
  · split at e <;> omega
  · exact absurd hb g.1
theorem nx_1 {a b : List Feat} {band : Int} {tb : List (List Int)} {i j : Int} (hab : okAB a b) (h : tbOk a b band tb a.length) (hi : 0 ≤ i ∧ i < (a.length : Int)) (hj : 0 ≤ j ∧ j < (b.length : Int)) (hb : inBd band i.toNat j.toNat) (h0 : ¬ (i = 0 ∧ j = 0))
    (c1 : 1 ≤ i ∧ 1 ≤ j ∧ at_ (at_ tb (i - 1).toNat) (j - 1).toNat = lb3 tb i j) : isNx a b band i j (i - 1) (j - 1) := by
  have hl := lst_eq hab h (i := i.toNat) (j := j.toNat) (by omega) (by omega) hb (by omega)
  rw [show ((i.toNat : Nat) : Int) = i from by omega, show ((j.toNat : Nat) : Int) = j from by omega] at hl
  have e := c1.2.2
  rw [tb_at h (by omega) (by omega), eq_nb hab (by omega) (by omega) hl.2, hl.1, show (i - 1).toNat = i.toNat - 1 from by omega, show (j - 1).toNat = j.toNat - 1 from by omega] at e
  unfold isNx nx
  rw [if_pos ⟨by omega, e⟩]
  dsimp only; omega
theorem nx_2 {a b : List Feat} {band : Int} {tb : List (List Int)} {i j : Int} (hab : okAB a b) (h : tbOk a b band tb a.length) (hi : 0 ≤ i ∧ i < (a.length : Int)) (hj : 0 ≤ j ∧ j < (b.length : Int)) (hb : inBd band i.toNat j.toNat) (h0 : ¬ (i = 0 ∧ j = 0))
    (c1 : ¬ (1 ≤ i ∧ 1 ≤ j ∧ at_ (at_ tb (i - 1).toNat) (j - 1).toNat = lb3 tb i j)) (c2 : 1 ≤ i ∧ at_ (at_ tb (i - 1).toNat) (j - 0).toNat = lb3 tb i j) : isNx a b band i j (i - 1) (j - 0) := by
  have hl := lst_eq hab h (i := i.toNat) (j := j.toNat) (by omega) (by omega) hb (by omega)
  rw [show ((i.toNat : Nat) : Int) = i from by omega, show ((j.toNat : Nat) : Int) = j from by omega] at hl
  have e := c2.2
  rw [tb_at h (by omega) (by omega), eq_nb hab (by omega) (by omega) hl.2, hl.1, show (i - 1).toNat = i.toNat - 1 from by omega, show (j - 0).toNat = j.toNat from by omega] at e
  unfold isNx nx
  rw [if_neg (fun q => c1 ⟨by omega, by omega, by rw [tb_at h (by omega) (by omega), eq_nb hab (by omega) (by omega) hl.2, hl.1, show (i - 1).toNat = i.toNat - 1 from by omega, show (j - 1).toNat = j.toNat - 1 from by omega]; exact q.2⟩), if_pos ⟨by omega, e⟩]
  dsimp only; omega
theorem nx_3 {a b : List Feat} {band : Int} {tb : List (List Int)} {i j : Int} (hab : okAB a b) (h : tbOk a b band tb a.length) (hi : 0 ≤ i ∧ i < (a.length : Int)) (hj : 0 ≤ j ∧ j < (b.length : Int)) (hb : inBd band i.toNat j.toNat) (h0 : ¬ (i = 0 ∧ j = 0))
    (c1 : ¬ (1 ≤ i ∧ 1 ≤ j ∧ at_ (at_ tb (i - 1).toNat) (j - 1).toNat = lb3 tb i j)) (c2 : ¬ (1 ≤ i ∧ at_ (at_ tb (i - 1).toNat) (j - 0).toNat = lb3 tb i j)) : isNx a b band i j (i - 0) (j - 1) ∧ 1 ≤ j ∧ at_ (at_ tb (i - 0).toNat) (j - 1).toNat = lb3 tb i j := by
  have hl := lst_eq hab h (i := i.toNat) (j := j.toNat) (by omega) (by omega) hb (by omega)
  rw [show ((i.toNat : Nat) : Int) = i from by omega, show ((j.toNat : Nat) : Int) = j from by omega] at hl
  have n1 : ¬ ((0 < i.toNat ∧ 0 < j.toNat) ∧ cv farS a b band (i.toNat - 1) (j.toNat - 1) = cv farS a b band i.toNat j.toNat - costF (at_ a i.toNat) (at_ b j.toNat)) := fun q => c1 ⟨by omega, by omega, by rw [tb_at h (by omega) (by omega), eq_nb hab (by omega) (by omega) hl.2, hl.1, show (i - 1).toNat = i.toNat - 1 from by omega, show (j - 1).toNat = j.toNat - 1 from by omega]; exact q.2⟩
  have n2 : ¬ (0 < i.toNat ∧ cv farS a b band (i.toNat - 1) j.toNat = cv farS a b band i.toNat j.toNat - costF (at_ a i.toNat) (at_ b j.toNat)) := fun q => c2 ⟨by omega, by rw [tb_at h (by omega) (by omega), eq_nb hab (by omega) (by omega) hl.2, hl.1, show (i - 1).toNat = i.toNat - 1 from by omega, show (j - 0).toNat = j.toNat from by omega]; exact q.2⟩
  obtain ⟨x, e, hx, ho, _⟩ := cv_add (far := farS) (by decide) hab (i := i.toNat) (j := j.toNat) (by omega) (by omega) hb (by omega)
  have ex : cv farS a b band i.toNat j.toNat - costF (at_ a i.toNat) (at_ b j.toNat) = x := by omega
  rw [ex] at n1 n2
  have h3 : 0 < j.toNat ∧ x = cv farS a b band i.toNat (j.toNat - 1) := by
    rcases ho with g | g | g
    · exact absurd ⟨g.1, g.2.symm⟩ n1
    · exact absurd ⟨g.1, g.2.symm⟩ n2
    · exact g
  refine ⟨?_, by omega, ?_⟩
  · unfold isNx nx
    rw [ex, if_neg n1, if_neg n2]
    dsimp only; omega
  · rw [tb_at h (by omega) (by omega), eq_nb hab (by omega) (by omega) hl.2, hl.1, ex, show (i - 0).toNat = i.toNat from by omega, show (j - 1).toNat = j.toNat - 1 from by omega]
    exact h3.2.symm

theorem okFeats_n {xs : List Feat} {m : Int} (h : okFeats xs m = true) : 1 ≤ xs.length ∧ (xs.length : Int) ≤ m := by
  simp only [okFeats, Bool.and_eq_true, decide_eq_true_eq] at h; omega
theorem okAB_of {a b : List Feat} (ha : okFeats a 72 = true) (hb : okFeats b 72 = true) : okAB a b := ⟨fun i hi => okFeats_at ha hi, fun j hj => okFeats_at hb hj, by have := okFeats_n ha; omega, by have := okFeats_n hb; omega⟩
theorem inBd_end {band : Int} {n m : Nat} (h : inBd band n m) (hn : 1 ≤ n) (hm : 1 ≤ m) : inBd band (n - 1) (m - 1) := by unfold inBd at *; omega
/-- A step goes on. -/
theorem nx_go {a b : List Feat} {band i j i2 j2 : Int} (hab : okAB a b) (hi : 0 ≤ i ∧ i < (a.length : Int)) (hj : 0 ≤ j ∧ j < (b.length : Int)) (hb : inBd band i.toNat j.toNat) (h0 : ¬ (i = 0 ∧ j = 0)) (h : isNx a b band i j i2 j2) {s : Nat} :
    (inBd band i2.toNat j2.toNat ∧ i2 + j2 < i + j) ∧ (bk a b band (s + 1) i.toNat j.toNat).tail = ⟨i2, j2⟩ :: (bk a b band s i2.toNat j2.toNat).tail := by
  obtain ⟨h1, h2, h3, h4⟩ := h
  have n := nx_ok hab (i := i.toNat) (j := j.toNat) (by omega) (by omega) hb (by omega)
  rw [← h3, ← h4] at n
  refine ⟨⟨n.1, by omega⟩, ?_⟩
  rw [bk_tail (by omega), ← h3, ← h4, show ((i2.toNat : Nat) : Int) = i2 from by omega, show ((j2.toNat : Nat) : Int) = j2 from by omega]
theorem tot_start {a b : List Feat} {band : Int} {i j : Int} (hi : i = (a.length : Int) - 1) (hj : j = (b.length : Int) - 1) (ha : 1 ≤ a.length) (hb : 1 ≤ b.length) : [Pair.mk i j] ++ (bk a b band (a.length + b.length - [Pair.mk i j].length) i.toNat j.toNat).tail = tot a b band := by
  subst hi hj
  unfold tot
  rw [bk_head a b band (a.length + b.length - 1)]
  have e1 : ((a.length : Int) - 1).toNat = a.length - 1 := by omega
  have e2 : ((b.length : Int) - 1).toNat = b.length - 1 := by omega
  rw [e1, e2, show ((a.length : Int) - 1) = ((a.length - 1 : Nat) : Int) from by omega, show ((b.length : Int) - 1) = ((b.length - 1 : Nat) : Int) from by omega]
  rfl
theorem tot_next {a b : List Feat} {band i j i2 j2 : Int} (hab : okAB a b) (hi : 0 ≤ i ∧ i < (a.length : Int)) (hj : 0 ≤ j ∧ j < (b.length : Int)) (hb : inBd band i.toNat j.toNat) (h0 : ¬ (i = 0 ∧ j = 0)) (h : isNx a b band i j i2 j2) {bs : List Pair} (hl : i + j + (bs.length : Int) ≤ (a.length : Int) + (b.length : Int) - 1)
    (ht : bs ++ (bk a b band (a.length + b.length - bs.length) i.toNat j.toNat).tail = tot a b band) : (bs ++ [Pair.mk i2 j2]) ++ (bk a b band (a.length + b.length - (bs ++ [Pair.mk i2 j2]).length) i2.toNat j2.toNat).tail = tot a b band := by
  rw [show a.length + b.length - bs.length = (a.length + b.length - (bs ++ [Pair.mk i2 j2]).length) + 1 from by simp; omega, (nx_go hab hi hj hb h0 h).2] at ht
  rw [List.append_assoc]
  exact ht
theorem tot_pre {a b : List Feat} {band i j i2 j2 : Int} (hab : okAB a b) (hi : 0 ≤ i ∧ i < (a.length : Int)) (hj : 0 ≤ j ∧ j < (b.length : Int)) (hb : inBd band i.toNat j.toNat) (h0 : ¬ (i = 0 ∧ j = 0)) (h : isNx a b band i j i2 j2) {bs : List Pair} (hl : i + j + (bs.length : Int) ≤ (a.length : Int) + (b.length : Int) - 1)
    (ht : bs.reverse ++ (bk a b band (a.length + b.length - bs.length) i.toNat j.toNat).tail = tot a b band) : ([Pair.mk i2 j2] ++ bs).reverse ++ (bk a b band (a.length + b.length - ([Pair.mk i2 j2] ++ bs).length) i2.toNat j2.toNat).tail = tot a b band := by
  have e := tot_next hab hi hj hb h0 h (bs := bs.reverse) (by rw [List.length_reverse]; exact hl) (by rw [List.length_reverse]; exact ht)
  simp only [List.length_append, List.length_reverse, List.length_cons, List.length_nil, List.reverse_append, List.reverse_cons, List.reverse_nil, List.nil_append] at e ⊢
  rw [Nat.add_comm 0 1] at *
  rw [Nat.add_comm bs.length] at e
  exact e
theorem tot_end {a b : List Feat} {band i j : Int} {bs : List Pair} {s : Nat} (h0 : i = 0 ∧ j = 0) (ht : bs ++ (bk a b band s i.toNat j.toNat).tail = tot a b band) : bs = tot a b band := by
  obtain ⟨rfl, rfl⟩ := h0
  rw [show (0 : Int).toNat = 0 from rfl, bk_end, List.append_nil] at ht
  exact ht
theorem tot_mem {a b : List Feat} {band : Int} {p : Pair} (ha : 1 ≤ a.length) (hb : 1 ≤ b.length) (h : p ∈ tot a b band) : (0 ≤ p.I ∧ p.I < (a.length : Int)) ∧ 0 ≤ p.J ∧ p.J < (b.length : Int) := by
  have := bk_mem h
  omega
theorem tot_len (a b : List Feat) (band : Int) : 1 ≤ (tot a b band).length ∧ (tot a b band).length ≤ a.length + b.length - 1 + 1 := bk_len a b band _ _ _
theorem rev_next {bs ps : List Pair} {k : Int} (h0 : 0 ≤ k) (hk : k.toNat < bs.length) (hl : ps.length = bs.length) (h : ∀ q : Nat, (q : Int) < k → at_ ps (bs.length - 1 - q) = at_ bs q) {y : Pair} (hy : y = at_ bs k.toNat) {p : Nat} (hp : p = bs.length - 1 - k.toNat) : (ps.set p y).length = bs.length ∧ ∀ q : Nat, (q : Int) < k + 1 → at_ (ps.set p y) (bs.length - 1 - q) = at_ bs q := by
  subst hp hy
  refine ⟨by rw [List.length_set]; exact hl, fun q hq => ?_⟩
  by_cases e : q = k.toNat
  · subst e; rw [at_set_same (by omega)]
  · rw [at_set_oth (by omega)]; exact h q (by omega)
theorem rev_done {bs ps : List Pair} {k : Int} (hk : k = (bs.length : Int)) (hl : ps.length = bs.length) (h : ∀ q : Nat, (q : Int) < k → at_ ps (bs.length - 1 - q) = at_ bs q) : ps = bs.reverse := by
  subst hk
  refine List.ext_getElem (by simp [hl]) fun i h1 h2 => ?_
  rw [List.getElem_reverse, ← at_eq, ← at_eq]
  have e := h (bs.length - 1 - i) (by omega)
  rw [show bs.length - 1 - (bs.length - 1 - i) = i from by omega] at e
  exact e

theorem ixn {i j : Int} {M : Nat} (hi : 0 ≤ i) (hj : 0 ≤ j) : (i * (M : Int) + j).toNat = i.toNat * M + j.toNat := by
  obtain ⟨p, rfl⟩ : ∃ p : Nat, i = (p : Int) := ⟨i.toNat, by omega⟩
  obtain ⟨q, rfl⟩ : ∃ q : Nat, j = (q : Int) := ⟨j.toNat, by omega⟩
  rw [← Int.natCast_mul, Int.toNat_natCast, Int.toNat_natCast]; omega
theorem ixm {i j : Int} {M : Nat} (hi : 0 ≤ i) (hj : 1 ≤ j) : (i * (M : Int) + j - 1).toNat = i.toNat * M + (j.toNat - 1) := by
  rw [Int.add_sub_assoc, ixn hi (by omega)]; omega
theorem fl_at {a b : List Feat} {band i j : Int} {t : List Int} (h : flOk a b band t (a.length * b.length)) (hi : 0 ≤ i ∧ i < (a.length : Int)) (hj : 0 ≤ j ∧ j < (b.length : Int)) : at_ t (i * (b.length : Int) + j).toNat = cv farS a b band i.toNat j.toNat := by
  rw [ixn hi.1 hj.1, fl_all h (by omega) (by omega)]
theorem fl_at1 {a b : List Feat} {band i j : Int} {t : List Int} (h : flOk a b band t (a.length * b.length)) (hi : 1 ≤ i ∧ i < (a.length : Int)) (hj : 1 ≤ j ∧ j < (b.length : Int)) : at_ t ((i - 1) * (b.length : Int) + j - 1).toNat = cv farS a b band (i.toNat - 1) (j.toNat - 1) := by
  rw [ixm (by omega) hj.1, fl_all h (by omega) (by omega), show (i - 1).toNat = i.toNat - 1 from by omega]
theorem fl_at2 {a b : List Feat} {band i j : Int} {t : List Int} (h : flOk a b band t (a.length * b.length)) (hi : 1 ≤ i ∧ i < (a.length : Int)) (hj : 0 ≤ j ∧ j < (b.length : Int)) : at_ t ((i - 1) * (b.length : Int) + j).toNat = cv farS a b band (i.toNat - 1) j.toNat := by
  rw [ixn (by omega) hj.1, fl_all h (by omega) (by omega), show (i - 1).toNat = i.toNat - 1 from by omega]
theorem sn_1 {a b : List Feat} {band i j : Int} {t : List Int} (h : flOk a b band t (a.length * b.length)) (hi : 0 ≤ i ∧ i < (a.length : Int)) (hj : 0 ≤ j ∧ j < (b.length : Int))
    (c1 : 0 < i ∧ 0 < j ∧ at_ t ((i - 1) * (b.length : Int) + j - 1).toNat = at_ t (i * (b.length : Int) + j).toNat - costF (at_ a i.toNat) (at_ b j.toNat)) : isNx a b band i j (i - 1) (j - 1) := by
  have e := c1.2.2
  rw [fl_at1 h (by omega) (by omega), fl_at h hi hj] at e
  unfold isNx nx
  rw [if_pos ⟨by omega, e⟩]
  dsimp only; omega
theorem sn_2 {a b : List Feat} {band i j : Int} {t : List Int} (h : flOk a b band t (a.length * b.length)) (hi : 0 ≤ i ∧ i < (a.length : Int)) (hj : 0 ≤ j ∧ j < (b.length : Int))
    (c1 : ¬ (0 < i ∧ 0 < j ∧ at_ t ((i - 1) * (b.length : Int) + j - 1).toNat = at_ t (i * (b.length : Int) + j).toNat - costF (at_ a i.toNat) (at_ b j.toNat)))
    (c2 : 0 < i ∧ at_ t ((i - 1) * (b.length : Int) + j).toNat = at_ t (i * (b.length : Int) + j).toNat - costF (at_ a i.toNat) (at_ b j.toNat)) : isNx a b band i j (i - 1) j := by
  have e := c2.2
  rw [fl_at2 h (by omega) hj, fl_at h hi hj] at e
  unfold isNx nx
  rw [if_neg (fun q => c1 ⟨by omega, by omega, by rw [fl_at1 h (by omega) (by omega), fl_at h hi hj]; exact q.2⟩), if_pos ⟨by omega, e⟩]
  dsimp only; omega
theorem sn_3 {a b : List Feat} {band i j : Int} {t : List Int} (hab : okAB a b) (hb : inBd band i.toNat j.toNat) (h0 : ¬ (i = 0 ∧ j = 0)) (h : flOk a b band t (a.length * b.length)) (hi : 0 ≤ i ∧ i < (a.length : Int)) (hj : 0 ≤ j ∧ j < (b.length : Int))
    (c1 : ¬ (0 < i ∧ 0 < j ∧ at_ t ((i - 1) * (b.length : Int) + j - 1).toNat = at_ t (i * (b.length : Int) + j).toNat - costF (at_ a i.toNat) (at_ b j.toNat)))
    (c2 : ¬ (0 < i ∧ at_ t ((i - 1) * (b.length : Int) + j).toNat = at_ t (i * (b.length : Int) + j).toNat - costF (at_ a i.toNat) (at_ b j.toNat))) : isNx a b band i j i (j - 1) := by
  have n := nx_ok hab (i := i.toNat) (j := j.toNat) (by omega) (by omega) hb (by omega)
  unfold isNx
  unfold nx at n ⊢
  rw [if_neg (fun q => c1 ⟨by omega, by omega, by rw [fl_at1 h (by omega) (by omega), fl_at h hi hj]; exact q.2⟩), if_neg (fun q => c2 ⟨by omega, by rw [fl_at2 h (by omega) hj, fl_at h hi hj]; exact q.2⟩)] at n ⊢
  dsimp only at n ⊢; omega

theorem cat_one {α : Type} [Inhabited α] {enc : α → List AV} {x : α} {xs : List α} {g : Nat → List AV} (hx : g 0 = enc x) (i : Nat) (hi : i < ([x] ++ xs).length) : catF 1 g (fun i => enc (at_ xs i)) i = enc (at_ ([x] ++ xs) i) := by
  cases i with
  | zero => rw [catF_lt (by decide), hx]; rfl
  | succ i => rw [catF_ge (by omega), at_right (by simp)]; simp

-- spec.l09Trace
set_option maxHeartbeats 4000000 in
theorem l09Trace_ok (a : List Feat) (b : List Feat) (band : Int) (oka : okFeats a 72 = true) (okb : okFeats b 72 = true) (hbd : 0 ≤ band ∧ band ≤ 72) (hnm : inBd band a.length b.length) : ∃ (v : List Pair), (v = (tot a b band).reverse) ∧ Con Tryz.prog 87 [slFeat false a, slFeat false b, I band] true (slPair true v) := by
  have hab := okAB_of oka okb
  have hla := hab.2.2
  have hna := okFeats_n oka
  have hnb := okFeats_n okb
  have hnm_ : (a.length : Int) * (b.length : Int) = ((a.length * b.length : Nat) : Int) := (Int.natCast_mul _ _).symm
  have hh : ∃ r : (List Pair), ((r = (tot a b band).reverse) ∧ (True)) ∧ CallOK Tryz.prog 87 [slFeat false a, slFeat false b, I band] (lookO []) true (slPair true r) (lookO []) := by
    refine fn_okX (Φ := fun r : (List Pair) => (r = (tot a b band).reverse) ∧ (True)) [] (fun r => []) (fn := Tryz.f87) (nt := 104) Tryz.func87 rfl rfl (args := [slFeat false a, slFeat false b, I band]) rfl (allcons (.inl ⟨rfl, tagFeat false _⟩) (allcons (.inl ⟨rfl, tagFeat false _⟩) (allcons (.inl ⟨rfl, trivial⟩) allnil))) (res := fun r => slPair true r) ?_
    refine xR [] [0, 1, 2] [] [slFeat false a, slFeat false b, I band] [] [] trivial ?_
    refine x_seq ?_
    obtain ⟨out_1, hx1_0, hc1⟩ := l09Table_ok a b band hab (by omega)
    have hfl := hx1_0
    have hfll := hfl.1
    refine x_r [(3, .call [(true, .any), (true, .any), (true, .any)] true (slI true out_1))] [0, 1, 7] [] [slFeat false a, slFeat false b, slI true out_1] [] [Con Tryz.prog 81 [slFeat false a, slFeat false b, I band] true (slI true out_1) ∧ True] ⟨⟨hc1, trivial⟩, trivial⟩ ?_
    refine xe_then ?_
    refine xR [] [0, 1, 7, 8] [] [slFeat false a, slFeat false b, slI true out_1, I (b.length : Int)] [] [] trivial ?_
    refine xR [] [0, 1, 7, 8, 9] [] [slFeat false a, slFeat false b, slI true out_1, I (b.length : Int), I ((a.length : Int) - 1)] [] [inR .i64 ((a.length : Int) - 1)] ⟨(inR_i64 (by omega) (by omega)), trivial⟩ ?_
    refine xR [] [0, 1, 7, 8, 9, 10] [] [slFeat false a, slFeat false b, slI true out_1, I (b.length : Int), I ((a.length : Int) - 1), I ((b.length : Int) - 1)] [] [inR .i64 ((b.length : Int) - 1)] ⟨(inR_i64 (by omega) (by omega)), trivial⟩ ?_
    refine xR [(3, .new 27)] [0, 1, 7, 8, 9, 10, 11] [27] [slFeat false a, slFeat false b, slI true out_1, I (b.length : Int), I ((a.length : Int) - 1), I ((b.length : Int) - 1), .arr 27] [some (.arr 2 1 (litF [I ((a.length : Int) - 1), I ((b.length : Int) - 1)] 2))] [] trivial ?_
    refine x_seq ?_
    refine x_block ?_
    refine x_weak [] (T := [(0, slFeat false a), (1, slFeat false b), (7, slI true out_1), (8, I (b.length : Int)), (9, I ((a.length : Int) - 1)), (10, I ((b.length : Int) - 1)), (11, .arr 27)]) (O := [(27, .arr 2 (([(Pair.mk ((a.length : Int) - 1) ((b.length : Int) - 1))]).length) (fPair ([(Pair.mk ((a.length : Int) - 1) ((b.length : Int) - 1))])))]) rfl (⟨.inl rfl, .inl rfl, .inl rfl, .inl rfl, .inl rfl, .inl rfl, .inl rfl, trivial⟩) (⟨.inr ⟨rfl, (by first | rfl | (simp; done) | (simp; omega) | omega), fun i_ hi_ => .inl (match i_, hi_ with | 0, _ => rfl | (i + 1), h => absurd h (by simp))⟩, trivial⟩) ?_
    refine x_loop (X := Int × Int × (List Pair)) (fun x => mkS [(0, slFeat false a), (1, slFeat false b), (7, slI true out_1), (8, I (b.length : Int)), (9, I x.1), (10, I x.2.1), (11, .arr 27)] [(27, .arr 2 x.2.2.length (fPair x.2.2))]) (fun x => (0 ≤ x.1 ∧ x.1 < (a.length : Int)) ∧ (0 ≤ x.2.1 ∧ x.2.1 < (b.length : Int)) ∧ (inBd band x.1.toNat x.2.1.toNat) ∧ (x.1 + x.2.1 + (x.2.2.length : Int) ≤ (a.length : Int) + (b.length : Int) - 1) ∧ (x.2.2.reverse ++ (bk a b band (a.length + b.length - x.2.2.length) x.1.toNat x.2.1.toNat).tail = tot a b band) ∧ True) (fun x => (x.1 + x.2.1).toNat) (((a.length : Int) - 1), ((b.length : Int) - 1), [(Pair.mk ((a.length : Int) - 1) ((b.length : Int) - 1))]) rfl (show (0 ≤ ((a.length : Int) - 1) ∧ ((a.length : Int) - 1) < (a.length : Int)) ∧ (0 ≤ ((b.length : Int) - 1) ∧ ((b.length : Int) - 1) < (b.length : Int)) ∧ (inBd band ((a.length : Int) - 1).toNat ((b.length : Int) - 1).toNat) ∧ (((a.length : Int) - 1) + ((b.length : Int) - 1) + (([(Pair.mk ((a.length : Int) - 1) ((b.length : Int) - 1))]).length : Int) ≤ (a.length : Int) + (b.length : Int) - 1) ∧ (([(Pair.mk ((a.length : Int) - 1) ((b.length : Int) - 1))]).reverse ++ (bk a b band (a.length + b.length - ([(Pair.mk ((a.length : Int) - 1) ((b.length : Int) - 1))]).length) ((a.length : Int) - 1).toNat ((b.length : Int) - 1).toNat).tail = tot a b band) ∧ True from ⟨(by omega), (by omega), (by (rw [show ((a.length : Int) - 1).toNat = a.length - 1 from by omega, show ((b.length : Int) - 1).toNat = b.length - 1 from by omega]; exact inBd_end hnm hna.1 hnb.1)), (by (simp; omega)), (by exact tot_start rfl rfl hna.1 hnb.1), trivial⟩) (fun x hI => ?_)
    obtain ⟨i, j, bs⟩ := x
    obtain ⟨hi0, hj0, hbb, hsm, htt, _⟩ : (0 ≤ i ∧ i < (a.length : Int)) ∧ (0 ≤ j ∧ j < (b.length : Int)) ∧ (inBd band i.toNat j.toNat) ∧ (i + j + (bs.length : Int) ≤ (a.length : Int) + (b.length : Int) - 1) ∧ (bs.reverse ++ (bk a b band (a.length + b.length - bs.length) i.toNat j.toNat).tail = tot a b band) ∧ True := hI
    show XW _ _ _ _ (mkS [(0, slFeat false a), (1, slFeat false b), (7, slI true out_1), (8, I (b.length : Int)), (9, I i), (10, I j), (11, .arr 27)] [(27, .arr 2 bs.length (fPair bs))]) _ _
    refine x_seq ?_
    refine x_seq ?_
    by_cases h1 : 0 < i
    ·have h00 : ¬ (i = 0 ∧ j = 0) := by omega
     have hcst := costF_bd (hab.1 i.toNat (by omega)) (hab.2.1 j.toNat (by omega))
     have hlt := fl_lt (j := 0) (show i.toNat < a.length by omega) (show j.toNat < b.length by omega)
     have hix : ((i.toNat : Nat) : Int) = i := by omega
     have hpr : i * (b.length : Int) = ((i.toNat * b.length : Nat) : Int) := by rw [Int.natCast_mul, hix]
     have hpq : (i - 1) * (b.length : Int) = ((i.toNat * b.length : Nat) : Int) - b.length := by rw [Int.sub_mul, Int.one_mul, hpr]
     have hps := Nat.mul_le_mul (show i.toNat ≤ 72 by omega) (show b.length ≤ 72 by omega)
     have hpt : 1 ≤ i → b.length ≤ i.toNat * b.length := fun q => Nat.le_mul_of_pos_left _ (by omega)
     have hcf := cv_fin (band := band) hab (i := i.toNat) (j := j.toNat) (by omega) (by omega)
     have hcu := fl_at (i := i) (j := j) hfl (by omega) (by omega)
     refine x_r [(1, .dec true)] [0, 1, 7, 8, 9, 10, 11, 33] [27] [slFeat false a, slFeat false b, slI true out_1, I (b.length : Int), I i, I j, .arr 27, Bv true] [some (.arr 2 bs.length (fPair bs))] [0 < i] ⟨h1, trivial⟩ ?_
     refine xe_then ?_
     refine x_true rfl ?_
     refine x_skip ?_
     refine xe_then ?_
     refine x_block ?_
     refine xR [(16, .call [(true, .any), (true, .any)] true (I (costF (at_ a i.toNat) (at_ b j.toNat))))] [0, 1, 7, 8, 9, 10, 11, 12] [27] [slFeat false a, slFeat false b, slI true out_1, I (b.length : Int), I i, I j, .arr 27, I ((at_ out_1 (((i * (b.length : Int)) + j).toNat)) - (costF (at_ a i.toNat) (at_ b j.toNat)))] [some (.arr 2 bs.length (fPair bs))] [inR .i64 (i * (b.length : Int)), inR .i64 ((i * (b.length : Int)) + j), (0 : Int) ≤ ((i * (b.length : Int)) + j) ∧ ((i * (b.length : Int)) + j) < (out_1.length : Int), (0 : Int) ≤ i ∧ i < (a.length : Int), (0 : Int) ≤ j ∧ j < (b.length : Int), Con Tryz.prog 109 [agFeat (at_ a i.toNat), agFeat (at_ b j.toNat)] true (I (costF (at_ a i.toNat) (at_ b j.toNat))) ∧ True, inR .i64 ((at_ out_1 (((i * (b.length : Int)) + j).toNat)) - (costF (at_ a i.toNat) (at_ b j.toNat)))] ⟨(inR_i64 (by omega) (by omega)), (inR_i64 (by omega) (by omega)), ⟨(by omega), (by omega)⟩, ⟨(by omega), (by omega)⟩, ⟨(by omega), (by omega)⟩, ⟨(l09Cost_ok (at_ a i.toNat) (at_ b j.toNat) (by first | exact hab.1 _ (by omega) | exact hab.2.1 _ (by omega)) (by first | exact hab.1 _ (by omega) | exact hab.2.1 _ (by omega))), trivial⟩, (inR_i64 (by omega) (by omega)), trivial⟩ ?_
     refine x_seq ?_
     refine x_block ?_
     refine x_seq ?_
     by_cases h2 : 0 < j
     ·by_cases h3 : (at_ out_1 (((((i - 1) * (b.length : Int)) + j) - 1).toNat)) = ((at_ out_1 (((i * (b.length : Int)) + j).toNat)) - (costF (at_ a i.toNat) (at_ b j.toNat)))
      ·have hnx := sn_1 hfl (by omega) (by omega) ⟨by omega, by omega, h3⟩
       have hgo := (nx_go hab (by omega) (by omega) hbb h00 hnx (s := 0)).1
       have hr1 := hnx.1
       have hr2 := hnx.2.1
       have htx := tot_pre hab (by omega) (by omega) hbb h00 hnx hsm htt
       refine x_r [(1, .dec true), (4, .dec true), (18, .dec true)] [0, 1, 7, 8, 9, 10, 11, 12, 54] [27] [slFeat false a, slFeat false b, slI true out_1, I (b.length : Int), I i, I j, .arr 27, I ((at_ out_1 (((i * (b.length : Int)) + j).toNat)) - (costF (at_ a i.toNat) (at_ b j.toNat))), Bv true] [some (.arr 2 bs.length (fPair bs))] [0 < i, 0 < j, inR .i64 (i - 1), inR .i64 ((i - 1) * (b.length : Int)), inR .i64 (((i - 1) * (b.length : Int)) + j), inR .i64 ((((i - 1) * (b.length : Int)) + j) - 1), (0 : Int) ≤ ((((i - 1) * (b.length : Int)) + j) - 1) ∧ ((((i - 1) * (b.length : Int)) + j) - 1) < (out_1.length : Int), (at_ out_1 (((((i - 1) * (b.length : Int)) + j) - 1).toNat)) = ((at_ out_1 (((i * (b.length : Int)) + j).toNat)) - (costF (at_ a i.toNat) (at_ b j.toNat)))] ⟨h1, h2, (inR_i64 (by omega) (by omega)), (inR_i64 (by omega) (by omega)), (inR_i64 (by omega) (by omega)), (inR_i64 (by omega) (by omega)), ⟨(by omega), (by omega)⟩, h3, trivial⟩ ?_
       refine xe_then ?_
       refine x_true rfl ?_
       refine xR [] [0, 1, 7, 8, 9, 10, 11] [27] [slFeat false a, slFeat false b, slI true out_1, I (b.length : Int), I (i - 1), I j, .arr 27] [some (.arr 2 bs.length (fPair bs))] [inR .i64 (i - 1)] ⟨(inR_i64 (by omega) (by omega)), trivial⟩ ?_
       refine x_r [] [0, 1, 7, 8, 9, 10, 11] [27] [slFeat false a, slFeat false b, slI true out_1, I (b.length : Int), I (i - 1), I (j - 1), .arr 27] [some (.arr 2 bs.length (fPair bs))] [inR .i64 (j - 1)] ⟨(inR_i64 (by omega) (by omega)), trivial⟩ ?_
       refine xe_block 2 ?_
       refine xe_then ?_
       refine x_r [(3, .new 100), (5, .new 102)] [0, 1, 7, 8, 9, 10, 11] [102] [slFeat false a, slFeat false b, slI true out_1, I (b.length : Int), I (i - 1), I (j - 1), .arr 102] [some (.arr 2 (1 + bs.length) (catF 1 (litF [I (i - 1), I (j - 1)] 2) (fPair bs)))] [(1 + bs.length) * 16 ≤ 140737488355328] ⟨(by omega), trivial⟩ ?_
       refine xe_block 1 ?_
       refine xe_weak [(27, 102)] (T := [(0, slFeat false a), (1, slFeat false b), (7, slI true out_1), (8, I (b.length : Int)), (9, I (i - 1)), (10, I (j - 1)), (11, .arr 27)]) (O := [(27, .arr 2 (([(Pair.mk (i - 1) (j - 1))] ++ bs).length) (fPair ([(Pair.mk (i - 1) (j - 1))] ++ bs)))]) rfl (⟨.inl rfl, .inl rfl, .inl rfl, .inl rfl, .inl rfl, .inl rfl, .inl rfl, trivial⟩) (⟨.inr ⟨rfl, (by first | rfl | (simp; done) | (simp; omega) | omega), fun i_ hi_ => .inl (cat_one (enc := cPair) rfl i_ hi_)⟩, trivial⟩) (xe_again ((i - 1), (j - 1), ([(Pair.mk (i - 1) (j - 1))] ++ bs)) rfl (show (0 ≤ (i - 1) ∧ (i - 1) < (a.length : Int)) ∧ (0 ≤ (j - 1) ∧ (j - 1) < (b.length : Int)) ∧ (inBd band (i - 1).toNat (j - 1).toNat) ∧ ((i - 1) + (j - 1) + (([(Pair.mk (i - 1) (j - 1))] ++ bs).length : Int) ≤ (a.length : Int) + (b.length : Int) - 1) ∧ (([(Pair.mk (i - 1) (j - 1))] ++ bs).reverse ++ (bk a b band (a.length + b.length - ([(Pair.mk (i - 1) (j - 1))] ++ bs).length) (i - 1).toNat (j - 1).toNat).tail = tot a b band) ∧ True from ⟨(by omega), (by omega), (by exact hgo.1), (by (simp; omega)), (by exact htx), trivial⟩) (by first | (show (((i - 1) + (j - 1)).toNat : Nat) < (i + j).toNat; omega) | (dsimp only; omega)))
      refine x_r [(1, .dec true), (4, .dec true), (18, .dec false)] [0, 1, 7, 8, 9, 10, 11, 12, 54] [27] [slFeat false a, slFeat false b, slI true out_1, I (b.length : Int), I i, I j, .arr 27, I ((at_ out_1 (((i * (b.length : Int)) + j).toNat)) - (costF (at_ a i.toNat) (at_ b j.toNat))), Bv false] [some (.arr 2 bs.length (fPair bs))] [0 < i, 0 < j, inR .i64 (i - 1), inR .i64 ((i - 1) * (b.length : Int)), inR .i64 (((i - 1) * (b.length : Int)) + j), inR .i64 ((((i - 1) * (b.length : Int)) + j) - 1), (0 : Int) ≤ ((((i - 1) * (b.length : Int)) + j) - 1) ∧ ((((i - 1) * (b.length : Int)) + j) - 1) < (out_1.length : Int), ¬ ((at_ out_1 (((((i - 1) * (b.length : Int)) + j) - 1).toNat)) = ((at_ out_1 (((i * (b.length : Int)) + j).toNat)) - (costF (at_ a i.toNat) (at_ b j.toNat))))] ⟨h1, h2, (inR_i64 (by omega) (by omega)), (inR_i64 (by omega) (by omega)), (inR_i64 (by omega) (by omega)), (inR_i64 (by omega) (by omega)), ⟨(by omega), (by omega)⟩, h3, trivial⟩ ?_
      refine xe_then ?_
      refine x_false rfl ?_
      refine x_seq ?_
      by_cases h4 : (at_ out_1 ((((i - 1) * (b.length : Int)) + j).toNat)) = ((at_ out_1 (((i * (b.length : Int)) + j).toNat)) - (costF (at_ a i.toNat) (at_ b j.toNat)))
      ·have hnx := sn_2 hfl (by omega) (by omega) (fun q => by first | omega | exact absurd q.2.2 (by assumption)) ⟨by omega, h4⟩
       have hgo := (nx_go hab (by omega) (by omega) hbb h00 hnx (s := 0)).1
       have hr1 := hnx.1
       have hr2 := hnx.2.1
       have htx := tot_pre hab (by omega) (by omega) hbb h00 hnx hsm htt
       refine x_r [(1, .dec true), (13, .dec true)] [0, 1, 7, 8, 9, 10, 11, 79] [27] [slFeat false a, slFeat false b, slI true out_1, I (b.length : Int), I i, I j, .arr 27, Bv true] [some (.arr 2 bs.length (fPair bs))] [0 < i, inR .i64 (i - 1), inR .i64 ((i - 1) * (b.length : Int)), inR .i64 (((i - 1) * (b.length : Int)) + j), (0 : Int) ≤ (((i - 1) * (b.length : Int)) + j) ∧ (((i - 1) * (b.length : Int)) + j) < (out_1.length : Int), (at_ out_1 ((((i - 1) * (b.length : Int)) + j).toNat)) = ((at_ out_1 (((i * (b.length : Int)) + j).toNat)) - (costF (at_ a i.toNat) (at_ b j.toNat)))] ⟨h1, (inR_i64 (by omega) (by omega)), (inR_i64 (by omega) (by omega)), (inR_i64 (by omega) (by omega)), ⟨(by omega), (by omega)⟩, h4, trivial⟩ ?_
       refine xe_then ?_
       refine x_true rfl ?_
       refine x_r [] [0, 1, 7, 8, 9, 10, 11] [27] [slFeat false a, slFeat false b, slI true out_1, I (b.length : Int), I (i - 1), I j, .arr 27] [some (.arr 2 bs.length (fPair bs))] [inR .i64 (i - 1)] ⟨(inR_i64 (by omega) (by omega)), trivial⟩ ?_
       refine xe_block 2 ?_
       refine xe_then ?_
       refine x_r [(3, .new 100), (5, .new 102)] [0, 1, 7, 8, 9, 10, 11] [102] [slFeat false a, slFeat false b, slI true out_1, I (b.length : Int), I (i - 1), I j, .arr 102] [some (.arr 2 (1 + bs.length) (catF 1 (litF [I (i - 1), I j] 2) (fPair bs)))] [(1 + bs.length) * 16 ≤ 140737488355328] ⟨(by omega), trivial⟩ ?_
       refine xe_block 1 ?_
       refine xe_weak [(27, 102)] (T := [(0, slFeat false a), (1, slFeat false b), (7, slI true out_1), (8, I (b.length : Int)), (9, I (i - 1)), (10, I j), (11, .arr 27)]) (O := [(27, .arr 2 (([(Pair.mk (i - 1) j)] ++ bs).length) (fPair ([(Pair.mk (i - 1) j)] ++ bs)))]) rfl (⟨.inl rfl, .inl rfl, .inl rfl, .inl rfl, .inl rfl, .inl rfl, .inl rfl, trivial⟩) (⟨.inr ⟨rfl, (by first | rfl | (simp; done) | (simp; omega) | omega), fun i_ hi_ => .inl (cat_one (enc := cPair) rfl i_ hi_)⟩, trivial⟩) (xe_again ((i - 1), j, ([(Pair.mk (i - 1) j)] ++ bs)) rfl (show (0 ≤ (i - 1) ∧ (i - 1) < (a.length : Int)) ∧ (0 ≤ j ∧ j < (b.length : Int)) ∧ (inBd band (i - 1).toNat j.toNat) ∧ ((i - 1) + j + (([(Pair.mk (i - 1) j)] ++ bs).length : Int) ≤ (a.length : Int) + (b.length : Int) - 1) ∧ (([(Pair.mk (i - 1) j)] ++ bs).reverse ++ (bk a b band (a.length + b.length - ([(Pair.mk (i - 1) j)] ++ bs).length) (i - 1).toNat j.toNat).tail = tot a b band) ∧ True from ⟨(by omega), (by omega), (by exact hgo.1), (by (simp; omega)), (by exact htx), trivial⟩) (by first | (show (((i - 1) + j).toNat : Nat) < (i + j).toNat; omega) | (dsimp only; omega)))
      have hnx := sn_3 hab hbb h00 hfl (by omega) (by omega) (fun q => by first | omega | exact absurd q.2.2 (by assumption)) (fun q => by first | omega | exact absurd q.2 (by assumption))
      have hgo := (nx_go hab (by omega) (by omega) hbb h00 hnx (s := 0)).1
      have hr1 := hnx.1
      have hr2 := hnx.2.1
      have htx := tot_pre hab (by omega) (by omega) hbb h00 hnx hsm htt
      refine x_r [(1, .dec true), (13, .dec false)] [0, 1, 7, 8, 9, 10, 11, 79] [27] [slFeat false a, slFeat false b, slI true out_1, I (b.length : Int), I i, I j, .arr 27, Bv false] [some (.arr 2 bs.length (fPair bs))] [0 < i, inR .i64 (i - 1), inR .i64 ((i - 1) * (b.length : Int)), inR .i64 (((i - 1) * (b.length : Int)) + j), (0 : Int) ≤ (((i - 1) * (b.length : Int)) + j) ∧ (((i - 1) * (b.length : Int)) + j) < (out_1.length : Int), ¬ ((at_ out_1 ((((i - 1) * (b.length : Int)) + j).toNat)) = ((at_ out_1 (((i * (b.length : Int)) + j).toNat)) - (costF (at_ a i.toNat) (at_ b j.toNat))))] ⟨h1, (inR_i64 (by omega) (by omega)), (inR_i64 (by omega) (by omega)), (inR_i64 (by omega) (by omega)), ⟨(by omega), (by omega)⟩, h4, trivial⟩ ?_
      refine xe_then ?_
      refine x_false rfl ?_
      refine x_r [] [0, 1, 7, 8, 9, 10, 11] [27] [slFeat false a, slFeat false b, slI true out_1, I (b.length : Int), I i, I (j - 1), .arr 27] [some (.arr 2 bs.length (fPair bs))] [inR .i64 (j - 1)] ⟨(inR_i64 (by omega) (by omega)), trivial⟩ ?_
      refine xe_block 2 ?_
      refine xe_then ?_
      refine x_r [(3, .new 100), (5, .new 102)] [0, 1, 7, 8, 9, 10, 11] [102] [slFeat false a, slFeat false b, slI true out_1, I (b.length : Int), I i, I (j - 1), .arr 102] [some (.arr 2 (1 + bs.length) (catF 1 (litF [I i, I (j - 1)] 2) (fPair bs)))] [(1 + bs.length) * 16 ≤ 140737488355328] ⟨(by omega), trivial⟩ ?_
      refine xe_block 1 ?_
      refine xe_weak [(27, 102)] (T := [(0, slFeat false a), (1, slFeat false b), (7, slI true out_1), (8, I (b.length : Int)), (9, I i), (10, I (j - 1)), (11, .arr 27)]) (O := [(27, .arr 2 (([(Pair.mk i (j - 1))] ++ bs).length) (fPair ([(Pair.mk i (j - 1))] ++ bs)))]) rfl (⟨.inl rfl, .inl rfl, .inl rfl, .inl rfl, .inl rfl, .inl rfl, .inl rfl, trivial⟩) (⟨.inr ⟨rfl, (by first | rfl | (simp; done) | (simp; omega) | omega), fun i_ hi_ => .inl (cat_one (enc := cPair) rfl i_ hi_)⟩, trivial⟩) (xe_again (i, (j - 1), ([(Pair.mk i (j - 1))] ++ bs)) rfl (show (0 ≤ i ∧ i < (a.length : Int)) ∧ (0 ≤ (j - 1) ∧ (j - 1) < (b.length : Int)) ∧ (inBd band i.toNat (j - 1).toNat) ∧ (i + (j - 1) + (([(Pair.mk i (j - 1))] ++ bs).length : Int) ≤ (a.length : Int) + (b.length : Int) - 1) ∧ (([(Pair.mk i (j - 1))] ++ bs).reverse ++ (bk a b band (a.length + b.length - ([(Pair.mk i (j - 1))] ++ bs).length) i.toNat (j - 1).toNat).tail = tot a b band) ∧ True from ⟨(by omega), (by omega), (by exact hgo.1), (by (simp; omega)), (by exact htx), trivial⟩) (by first | (show ((i + (j - 1)).toNat : Nat) < (i + j).toNat; omega) | (dsimp only; omega)))
     refine x_r [(1, .dec true), (4, .dec false)] [0, 1, 7, 8, 9, 10, 11, 12, 54] [27] [slFeat false a, slFeat false b, slI true out_1, I (b.length : Int), I i, I j, .arr 27, I ((at_ out_1 (((i * (b.length : Int)) + j).toNat)) - (costF (at_ a i.toNat) (at_ b j.toNat))), Bv false] [some (.arr 2 bs.length (fPair bs))] [0 < i, ¬ (0 < j)] ⟨h1, h2, trivial⟩ ?_
     refine xe_then ?_
     refine x_false rfl ?_
     refine x_seq ?_
     by_cases h5 : (at_ out_1 ((((i - 1) * (b.length : Int)) + j).toNat)) = ((at_ out_1 (((i * (b.length : Int)) + j).toNat)) - (costF (at_ a i.toNat) (at_ b j.toNat)))
     ·have hnx := sn_2 hfl (by omega) (by omega) (fun q => by first | omega | exact absurd q.2.2 (by assumption)) ⟨by omega, h5⟩
      have hgo := (nx_go hab (by omega) (by omega) hbb h00 hnx (s := 0)).1
      have hr1 := hnx.1
      have hr2 := hnx.2.1
      have htx := tot_pre hab (by omega) (by omega) hbb h00 hnx hsm htt
      refine x_r [(1, .dec true), (13, .dec true)] [0, 1, 7, 8, 9, 10, 11, 79] [27] [slFeat false a, slFeat false b, slI true out_1, I (b.length : Int), I i, I j, .arr 27, Bv true] [some (.arr 2 bs.length (fPair bs))] [0 < i, inR .i64 (i - 1), inR .i64 ((i - 1) * (b.length : Int)), inR .i64 (((i - 1) * (b.length : Int)) + j), (0 : Int) ≤ (((i - 1) * (b.length : Int)) + j) ∧ (((i - 1) * (b.length : Int)) + j) < (out_1.length : Int), (at_ out_1 ((((i - 1) * (b.length : Int)) + j).toNat)) = ((at_ out_1 (((i * (b.length : Int)) + j).toNat)) - (costF (at_ a i.toNat) (at_ b j.toNat)))] ⟨h1, (inR_i64 (by omega) (by omega)), (inR_i64 (by omega) (by omega)), (inR_i64 (by omega) (by omega)), ⟨(by omega), (by omega)⟩, h5, trivial⟩ ?_
      refine xe_then ?_
      refine x_true rfl ?_
      refine x_r [] [0, 1, 7, 8, 9, 10, 11] [27] [slFeat false a, slFeat false b, slI true out_1, I (b.length : Int), I (i - 1), I j, .arr 27] [some (.arr 2 bs.length (fPair bs))] [inR .i64 (i - 1)] ⟨(inR_i64 (by omega) (by omega)), trivial⟩ ?_
      refine xe_block 2 ?_
      refine xe_then ?_
      refine x_r [(3, .new 100), (5, .new 102)] [0, 1, 7, 8, 9, 10, 11] [102] [slFeat false a, slFeat false b, slI true out_1, I (b.length : Int), I (i - 1), I j, .arr 102] [some (.arr 2 (1 + bs.length) (catF 1 (litF [I (i - 1), I j] 2) (fPair bs)))] [(1 + bs.length) * 16 ≤ 140737488355328] ⟨(by omega), trivial⟩ ?_
      refine xe_block 1 ?_
      refine xe_weak [(27, 102)] (T := [(0, slFeat false a), (1, slFeat false b), (7, slI true out_1), (8, I (b.length : Int)), (9, I (i - 1)), (10, I j), (11, .arr 27)]) (O := [(27, .arr 2 (([(Pair.mk (i - 1) j)] ++ bs).length) (fPair ([(Pair.mk (i - 1) j)] ++ bs)))]) rfl (⟨.inl rfl, .inl rfl, .inl rfl, .inl rfl, .inl rfl, .inl rfl, .inl rfl, trivial⟩) (⟨.inr ⟨rfl, (by first | rfl | (simp; done) | (simp; omega) | omega), fun i_ hi_ => .inl (cat_one (enc := cPair) rfl i_ hi_)⟩, trivial⟩) (xe_again ((i - 1), j, ([(Pair.mk (i - 1) j)] ++ bs)) rfl (show (0 ≤ (i - 1) ∧ (i - 1) < (a.length : Int)) ∧ (0 ≤ j ∧ j < (b.length : Int)) ∧ (inBd band (i - 1).toNat j.toNat) ∧ ((i - 1) + j + (([(Pair.mk (i - 1) j)] ++ bs).length : Int) ≤ (a.length : Int) + (b.length : Int) - 1) ∧ (([(Pair.mk (i - 1) j)] ++ bs).reverse ++ (bk a b band (a.length + b.length - ([(Pair.mk (i - 1) j)] ++ bs).length) (i - 1).toNat j.toNat).tail = tot a b band) ∧ True from ⟨(by omega), (by omega), (by exact hgo.1), (by (simp; omega)), (by exact htx), trivial⟩) (by first | (show (((i - 1) + j).toNat : Nat) < (i + j).toNat; omega) | (dsimp only; omega)))
     have hnx := sn_3 hab hbb h00 hfl (by omega) (by omega) (fun q => by first | omega | exact absurd q.2.2 (by assumption)) (fun q => by first | omega | exact absurd q.2 (by assumption))
     have hgo := (nx_go hab (by omega) (by omega) hbb h00 hnx (s := 0)).1
     have hr1 := hnx.1
     have hr2 := hnx.2.1
     have htx := tot_pre hab (by omega) (by omega) hbb h00 hnx hsm htt
     refine x_r [(1, .dec true), (13, .dec false)] [0, 1, 7, 8, 9, 10, 11, 79] [27] [slFeat false a, slFeat false b, slI true out_1, I (b.length : Int), I i, I j, .arr 27, Bv false] [some (.arr 2 bs.length (fPair bs))] [0 < i, inR .i64 (i - 1), inR .i64 ((i - 1) * (b.length : Int)), inR .i64 (((i - 1) * (b.length : Int)) + j), (0 : Int) ≤ (((i - 1) * (b.length : Int)) + j) ∧ (((i - 1) * (b.length : Int)) + j) < (out_1.length : Int), ¬ ((at_ out_1 ((((i - 1) * (b.length : Int)) + j).toNat)) = ((at_ out_1 (((i * (b.length : Int)) + j).toNat)) - (costF (at_ a i.toNat) (at_ b j.toNat))))] ⟨h1, (inR_i64 (by omega) (by omega)), (inR_i64 (by omega) (by omega)), (inR_i64 (by omega) (by omega)), ⟨(by omega), (by omega)⟩, h5, trivial⟩ ?_
     refine xe_then ?_
     refine x_false rfl ?_
     refine x_r [] [0, 1, 7, 8, 9, 10, 11] [27] [slFeat false a, slFeat false b, slI true out_1, I (b.length : Int), I i, I (j - 1), .arr 27] [some (.arr 2 bs.length (fPair bs))] [inR .i64 (j - 1)] ⟨(inR_i64 (by omega) (by omega)), trivial⟩ ?_
     refine xe_block 2 ?_
     refine xe_then ?_
     refine x_r [(3, .new 100), (5, .new 102)] [0, 1, 7, 8, 9, 10, 11] [102] [slFeat false a, slFeat false b, slI true out_1, I (b.length : Int), I i, I (j - 1), .arr 102] [some (.arr 2 (1 + bs.length) (catF 1 (litF [I i, I (j - 1)] 2) (fPair bs)))] [(1 + bs.length) * 16 ≤ 140737488355328] ⟨(by omega), trivial⟩ ?_
     refine xe_block 1 ?_
     refine xe_weak [(27, 102)] (T := [(0, slFeat false a), (1, slFeat false b), (7, slI true out_1), (8, I (b.length : Int)), (9, I i), (10, I (j - 1)), (11, .arr 27)]) (O := [(27, .arr 2 (([(Pair.mk i (j - 1))] ++ bs).length) (fPair ([(Pair.mk i (j - 1))] ++ bs)))]) rfl (⟨.inl rfl, .inl rfl, .inl rfl, .inl rfl, .inl rfl, .inl rfl, .inl rfl, trivial⟩) (⟨.inr ⟨rfl, (by first | rfl | (simp; done) | (simp; omega) | omega), fun i_ hi_ => .inl (cat_one (enc := cPair) rfl i_ hi_)⟩, trivial⟩) (xe_again (i, (j - 1), ([(Pair.mk i (j - 1))] ++ bs)) rfl (show (0 ≤ i ∧ i < (a.length : Int)) ∧ (0 ≤ (j - 1) ∧ (j - 1) < (b.length : Int)) ∧ (inBd band i.toNat (j - 1).toNat) ∧ (i + (j - 1) + (([(Pair.mk i (j - 1))] ++ bs).length : Int) ≤ (a.length : Int) + (b.length : Int) - 1) ∧ (([(Pair.mk i (j - 1))] ++ bs).reverse ++ (bk a b band (a.length + b.length - ([(Pair.mk i (j - 1))] ++ bs).length) i.toNat (j - 1).toNat).tail = tot a b band) ∧ True from ⟨(by omega), (by omega), (by exact hgo.1), (by (simp; omega)), (by exact htx), trivial⟩) (by first | (show ((i + (j - 1)).toNat : Nat) < (i + j).toNat; omega) | (dsimp only; omega)))
    by_cases h6 : 0 < j
    ·have h00 : ¬ (i = 0 ∧ j = 0) := by omega
     have hcst := costF_bd (hab.1 i.toNat (by omega)) (hab.2.1 j.toNat (by omega))
     have hlt := fl_lt (j := 0) (show i.toNat < a.length by omega) (show j.toNat < b.length by omega)
     have hix : ((i.toNat : Nat) : Int) = i := by omega
     have hpr : i * (b.length : Int) = ((i.toNat * b.length : Nat) : Int) := by rw [Int.natCast_mul, hix]
     have hpq : (i - 1) * (b.length : Int) = ((i.toNat * b.length : Nat) : Int) - b.length := by rw [Int.sub_mul, Int.one_mul, hpr]
     have hps := Nat.mul_le_mul (show i.toNat ≤ 72 by omega) (show b.length ≤ 72 by omega)
     have hpt : 1 ≤ i → b.length ≤ i.toNat * b.length := fun q => Nat.le_mul_of_pos_left _ (by omega)
     have hcf := cv_fin (band := band) hab (i := i.toNat) (j := j.toNat) (by omega) (by omega)
     have hcu := fl_at (i := i) (j := j) hfl (by omega) (by omega)
     have hnx := sn_3 hab hbb h00 hfl (by omega) (by omega) (fun q => by first | omega | exact absurd q.2.2 (by assumption)) (fun q => by first | omega | exact absurd q.2 (by assumption))
     have hgo := (nx_go hab (by omega) (by omega) hbb h00 hnx (s := 0)).1
     have hr1 := hnx.1
     have hr2 := hnx.2.1
     have htx := tot_pre hab (by omega) (by omega) hbb h00 hnx hsm htt
     refine x_r [(1, .dec false), (4, .dec true)] [0, 1, 7, 8, 9, 10, 11, 33] [27] [slFeat false a, slFeat false b, slI true out_1, I (b.length : Int), I i, I j, .arr 27, Bv true] [some (.arr 2 bs.length (fPair bs))] [¬ (0 < i), 0 < j] ⟨h1, h6, trivial⟩ ?_
     refine xe_then ?_
     refine x_true rfl ?_
     refine x_skip ?_
     refine xe_then ?_
     refine x_block ?_
     refine xR [(16, .call [(true, .any), (true, .any)] true (I (costF (at_ a i.toNat) (at_ b j.toNat))))] [0, 1, 7, 8, 9, 10, 11, 12] [27] [slFeat false a, slFeat false b, slI true out_1, I (b.length : Int), I i, I j, .arr 27, I ((at_ out_1 (((i * (b.length : Int)) + j).toNat)) - (costF (at_ a i.toNat) (at_ b j.toNat)))] [some (.arr 2 bs.length (fPair bs))] [inR .i64 (i * (b.length : Int)), inR .i64 ((i * (b.length : Int)) + j), (0 : Int) ≤ ((i * (b.length : Int)) + j) ∧ ((i * (b.length : Int)) + j) < (out_1.length : Int), (0 : Int) ≤ i ∧ i < (a.length : Int), (0 : Int) ≤ j ∧ j < (b.length : Int), Con Tryz.prog 109 [agFeat (at_ a i.toNat), agFeat (at_ b j.toNat)] true (I (costF (at_ a i.toNat) (at_ b j.toNat))) ∧ True, inR .i64 ((at_ out_1 (((i * (b.length : Int)) + j).toNat)) - (costF (at_ a i.toNat) (at_ b j.toNat)))] ⟨(inR_i64 (by omega) (by omega)), (inR_i64 (by omega) (by omega)), ⟨(by omega), (by omega)⟩, ⟨(by omega), (by omega)⟩, ⟨(by omega), (by omega)⟩, ⟨(l09Cost_ok (at_ a i.toNat) (at_ b j.toNat) (by first | exact hab.1 _ (by omega) | exact hab.2.1 _ (by omega)) (by first | exact hab.1 _ (by omega) | exact hab.2.1 _ (by omega))), trivial⟩, (inR_i64 (by omega) (by omega)), trivial⟩ ?_
     refine x_seq ?_
     refine x_block ?_
     refine xR [(1, .dec false)] [0, 1, 7, 8, 9, 10, 11, 12, 54] [27] [slFeat false a, slFeat false b, slI true out_1, I (b.length : Int), I i, I j, .arr 27, I ((at_ out_1 (((i * (b.length : Int)) + j).toNat)) - (costF (at_ a i.toNat) (at_ b j.toNat))), Bv false] [some (.arr 2 bs.length (fPair bs))] [¬ (0 < i)] ⟨h1, trivial⟩ ?_
     refine x_false rfl ?_
     refine xR [(1, .dec false)] [0, 1, 7, 8, 9, 10, 11, 79] [27] [slFeat false a, slFeat false b, slI true out_1, I (b.length : Int), I i, I j, .arr 27, Bv false] [some (.arr 2 bs.length (fPair bs))] [¬ (0 < i)] ⟨h1, trivial⟩ ?_
     refine x_false rfl ?_
     refine x_r [] [0, 1, 7, 8, 9, 10, 11] [27] [slFeat false a, slFeat false b, slI true out_1, I (b.length : Int), I i, I (j - 1), .arr 27] [some (.arr 2 bs.length (fPair bs))] [inR .i64 (j - 1)] ⟨(inR_i64 (by omega) (by omega)), trivial⟩ ?_
     refine xe_block 2 ?_
     refine xe_then ?_
     refine x_r [(3, .new 100), (5, .new 102)] [0, 1, 7, 8, 9, 10, 11] [102] [slFeat false a, slFeat false b, slI true out_1, I (b.length : Int), I i, I (j - 1), .arr 102] [some (.arr 2 (1 + bs.length) (catF 1 (litF [I i, I (j - 1)] 2) (fPair bs)))] [(1 + bs.length) * 16 ≤ 140737488355328] ⟨(by omega), trivial⟩ ?_
     refine xe_block 1 ?_
     refine xe_weak [(27, 102)] (T := [(0, slFeat false a), (1, slFeat false b), (7, slI true out_1), (8, I (b.length : Int)), (9, I i), (10, I (j - 1)), (11, .arr 27)]) (O := [(27, .arr 2 (([(Pair.mk i (j - 1))] ++ bs).length) (fPair ([(Pair.mk i (j - 1))] ++ bs)))]) rfl (⟨.inl rfl, .inl rfl, .inl rfl, .inl rfl, .inl rfl, .inl rfl, .inl rfl, trivial⟩) (⟨.inr ⟨rfl, (by first | rfl | (simp; done) | (simp; omega) | omega), fun i_ hi_ => .inl (cat_one (enc := cPair) rfl i_ hi_)⟩, trivial⟩) (xe_again (i, (j - 1), ([(Pair.mk i (j - 1))] ++ bs)) rfl (show (0 ≤ i ∧ i < (a.length : Int)) ∧ (0 ≤ (j - 1) ∧ (j - 1) < (b.length : Int)) ∧ (inBd band i.toNat (j - 1).toNat) ∧ (i + (j - 1) + (([(Pair.mk i (j - 1))] ++ bs).length : Int) ≤ (a.length : Int) + (b.length : Int) - 1) ∧ (([(Pair.mk i (j - 1))] ++ bs).reverse ++ (bk a b band (a.length + b.length - ([(Pair.mk i (j - 1))] ++ bs).length) i.toNat (j - 1).toNat).tail = tot a b band) ∧ True from ⟨(by omega), (by omega), (by exact hgo.1), (by (simp; omega)), (by exact htx), trivial⟩) (by first | (show ((i + (j - 1)).toNat : Nat) < (i + j).toNat; omega) | (dsimp only; omega)))
    have hfin := tot_end (by omega) htt
    have htn := tot_len a b band
    rw [← hfin, List.length_reverse] at htn
    refine x_r [(1, .dec false), (4, .dec false)] [0, 1, 7, 8, 9, 10, 11, 33] [27] [slFeat false a, slFeat false b, slI true out_1, I (b.length : Int), I i, I j, .arr 27, Bv false] [some (.arr 2 bs.length (fPair bs))] [¬ (0 < i), ¬ (0 < j)] ⟨h1, h6, trivial⟩ ?_
    refine xe_then ?_
    refine x_false rfl ?_
    refine x_exit ?_
    refine xe_exit_then ?_
    refine xe_loop_exit ?_
    refine xe_exit_same ?_
    refine xe_then ?_
    refine xR [] [6] [27] [.arr 27] [some (.arr 2 bs.length (fPair bs))] [] trivial ?_
    refine x_ret ?_
    refine xe_end bs (show (bs = (tot a b band).reverse) ∧ (True) from ⟨(by rw [← hfin, List.reverse_reverse]), trivial⟩) (trivial) (.arr 27) (by kernel_rfl) (.inr ⟨(fun _ => rfl), rfl, rfl, fun i _ => .inl rfl⟩) (fun _ => rfl) (fun _ => (tagPair true _))
  obtain ⟨v, ⟨hh0, _⟩, hc⟩ := hh
  exact ⟨v, hh0, hc⟩




/-- The number in the middle, the lesser one of two. -/
def medI (xs : List Int) : Int := at_ (sortL xs) ((xs.length - 1) / 2)
theorem medI_mem {xs : List Int} (h : 1 ≤ xs.length) : medI xs ∈ xs := sortL_mem.1 (at_mem (by rw [sortL_len]; omega))

theorem sortL_pw (xs : List Int) : (sortL xs).Pairwise fun x y => x ≤ y := by
  have h := List.pairwise_mergeSort (le := fun (x y : Int) => decide (x ≤ y)) (fun a b c h1 h2 => by simp only [decide_eq_true_eq] at *; omega) (fun a b => by simp only [Bool.or_eq_true, decide_eq_true_eq]; omega) xs
  exact h.imp fun h => by simpa using h
theorem sortL_perm (xs : List Int) : List.Perm (sortL xs) xs := List.mergeSort_perm _ _
theorem sort_uniq {a b : List Int} (ha : a.Pairwise fun x y => x ≤ y) (hb : b.Pairwise fun x y => x ≤ y) (h : List.Perm a b) : a = b :=
  List.Perm.eq_of_pairwise (le := fun x y => x ≤ y) (fun x y _ _ h1 h2 => Int.le_antisymm h1 h2) ha hb h
/-- A number put to its place. -/
theorem ins_sort {p : List Int} {x : Int} {k : Nat} (hk : k ≤ (sortL p).length) (h1 : ∀ j, k ≤ j → j < (sortL p).length → x < at_ (sortL p) j) (h2 : k = 0 ∨ at_ (sortL p) (k - 1) ≤ x) :
    (sortL p).take k ++ [x] ++ (sortL p).drop k = sortL (p ++ [x]) := by
  have hs := sortL_pw p
  generalize hl : sortL p = l at *
  refine sort_uniq ?_ (sortL_pw _) ?_
  · have ht := hs
    rw [← List.take_append_drop k l, List.pairwise_append] at ht
    obtain ⟨ta, tb, tc⟩ := ht
    have hlow : ∀ a ∈ l.take k, a ≤ x := fun a ha => by
      obtain ⟨j, hj, e⟩ := List.getElem_of_mem ha
      rcases h2 with h2 | h2
      · subst h2; simp at ha
      · have hjk : j < k := by simp at hj; omega
        have hjl : j < l.length := by simp at hj; omega
        have he : a = at_ l j := by rw [← e, at_eq hjl]; simp
        by_cases e2 : j = k - 1
        · rw [he, e2]; exact h2
        · have := List.pairwise_iff_getElem.1 hs j (k - 1) hjl (by omega) (by omega)
          rw [he, at_eq hjl]
          rw [at_eq (by omega)] at h2
          omega
    have hhigh : ∀ b ∈ l.drop k, x ≤ b := fun b hb => by
      obtain ⟨j, hj, e⟩ := List.getElem_of_mem hb
      simp at hj
      have h := h1 (k + j) (by omega) (by omega)
      rw [at_eq (by omega)] at h
      rw [← e]; simp; omega
    rw [List.append_assoc, List.pairwise_append]
    refine ⟨ta, ?_, ?_⟩
    · rw [List.singleton_append, List.pairwise_cons]
      exact ⟨hhigh, tb⟩
    · intro a ha b hb
      simp at hb
      rcases hb with rfl | hb
      · exact hlow a ha
      · exact tc a ha b hb
  · have e : List.Perm l p := by rw [← hl]; exact sortL_perm p
    refine List.Perm.trans ?_ (sortL_perm (p ++ [x])).symm
    refine List.Perm.trans ?_ (e.append_right [x])
    rw [List.append_assoc]
    refine List.Perm.trans (List.perm_append_comm.append_left _) ?_
    rw [← List.append_assoc, List.take_append_drop]
theorem sortL_nil : sortL [] = [] := by simp [sortL]
theorem sorted_le {p : List Int} {i j : Nat} (hij : i ≤ j) (hj : j < (sortL p).length) : at_ (sortL p) i ≤ at_ (sortL p) j := by
  by_cases e : i = j
  · subst e; exact Int.le_refl _
  · have := List.pairwise_iff_getElem.1 (sortL_pw p) i j (by omega) hj (by omega)
    rw [at_eq (by omega), at_eq hj]; exact this

theorem ins_next {xs l : List Int} {i k : Int} (e : l = sortL (xs.take i.toNat)) (h0 : 0 ≤ i) (hi : i.toNat < xs.length) (hk : 0 ≤ k ∧ k ≤ (l.length : Int)) (h1 : ∀ j : Nat, k ≤ (j : Int) → j < l.length → at_ xs i.toNat < at_ l j) (h2 : k ≤ 0 ∨ at_ l (k - 1).toNat ≤ at_ xs i.toNat) :
    l.take k.toNat ++ [at_ xs i.toNat] ++ l.drop k.toNat = sortL (xs.take (i + 1).toNat) := by
  subst e
  have e1 : (i + 1).toNat = i.toNat + 1 := by omega
  rw [e1, List.take_succ_eq_append_getElem hi, ← at_eq hi]
  refine ins_sort (by omega) (fun j hj hl => h1 j (by omega) hl) ?_
  rcases h2 with h2 | h2
  · left; omega
  · by_cases hz : k.toNat = 0
    · exact .inl hz
    · right
      have e2 : (k - 1).toNat = k.toNat - 1 := by omega
      rw [e2] at h2; exact h2

/-- A list with another number at a place, the rest moved up. -/
def holeL (p : List Int) (k : Nat) (y : Int) : List Int := p.take k ++ [y] ++ p.drop k
theorem hole_len {p : List Int} {k : Nat} {y : Int} (h : k ≤ p.length) : (holeL p k y).length = p.length + 1 := by simp [holeL]; omega
theorem hole_lt {p : List Int} {k j : Nat} {y : Int} (h : k ≤ p.length) (hj : j < k) : at_ (holeL p k y) j = at_ p j := by
  unfold holeL at_
  rw [List.append_assoc]
  simp only [List.getD_eq_getElem?_getD]
  rw [List.getElem?_append_left (by rw [List.length_take]; omega), List.getElem?_take, if_pos hj]
theorem hole_eq {p : List Int} {k : Nat} {y : Int} (h : k ≤ p.length) : at_ (holeL p k y) k = y := by
  unfold holeL
  rw [List.append_assoc]
  simp [at_, List.getElem?_append, Nat.min_eq_left h]
theorem hole_set {p : List Int} {k : Nat} {y z : Int} (h : k ≤ p.length) : (holeL p k y).set k z = holeL p k z := by
  unfold holeL
  rw [List.append_assoc, List.append_assoc, List.set_append]
  rw [if_neg (by simp; omega)]
  rw [List.length_take, Nat.min_eq_left h, Nat.sub_self]; rfl
theorem hole_dn {p : List Int} {k : Nat} (h : k + 1 ≤ p.length) : holeL p (k + 1) (at_ p k) = holeL p k (at_ p k) := by
  unfold holeL
  rw [List.take_succ_eq_append_getElem (show k < p.length by omega), at_eq (show k < p.length by omega), List.drop_eq_getElem_cons (show k < p.length by omega)]
  simp
theorem hole_end (p : List Int) (y : Int) : p ++ [y] = holeL p p.length y := by simp [holeL]
/-- One number moves up. -/
theorem hole_up {p out : List Int} {k : Int} (hk : 1 ≤ k ∧ k ≤ (p.length : Int)) (h : out = holeL p k.toNat (at_ out k.toNat)) : out.set k.toNat (at_ out (k - 1).toNat) = holeL p (k - 1).toNat (at_ (out.set k.toNat (at_ out (k - 1).toNat)) (k - 1).toNat) := by
  have e1 : at_ out (k - 1).toNat = at_ p (k - 1).toNat := by rw [h, hole_lt (by omega) (by omega)]
  have e2 : out.set k.toNat (at_ out (k - 1).toNat) = holeL p k.toNat (at_ p (k - 1).toNat) := by rw [e1, h, hole_set (by omega)]
  rw [e2, hole_lt (by omega) (by omega)]
  have e3 : k.toNat = (k - 1).toNat + 1 := by omega
  rw [e3]; exact hole_dn (by omega)
theorem hole_put {xs out : List Int} {i k x : Int} {p : List Int} (hp : p = sortL (xs.take i.toNat)) (h0 : 0 ≤ i) (hi : i.toNat < xs.length) (hk : 0 ≤ k ∧ k ≤ (p.length : Int)) (h : out = holeL p k.toNat (at_ out k.toNat)) (h1 : ∀ j : Nat, k ≤ (j : Int) → j < p.length → at_ xs i.toNat < at_ p j) (h2 : k ≤ 0 ∨ at_ out (k - 1).toNat ≤ at_ xs i.toNat) (hx : x = at_ xs i.toNat) : out.set k.toNat x = sortL (xs.take (i + 1).toNat) := by
  subst hx
  rw [h, hole_set (by omega)]
  refine ins_next hp h0 hi hk h1 ?_
  rcases h2 with h2 | h2
  · exact .inl h2
  · by_cases e : k ≤ 0
    · exact .inl e
    · right; rw [h, hole_lt (by omega) (by omega)] at h2; exact h2
theorem hole_gt {xs out p : List Int} {i : Nat} {k : Int} (hk : 1 ≤ k ∧ k ≤ (p.length : Int)) (h : out = holeL p k.toNat (at_ out k.toNat)) (h1 : ∀ j : Nat, k ≤ (j : Int) → j < p.length → at_ xs i < at_ p j) (h2 : at_ xs i < at_ out (k - 1).toNat) : ∀ j : Nat, k - 1 ≤ (j : Int) → j < p.length → at_ xs i < at_ p j := fun j hj hl => by
  by_cases e : (j : Int) = k - 1
  · rw [h, hole_lt (by omega) (by omega)] at h2
    rw [show j = (k - 1).toNat from by omega]; exact h2
  · exact h1 j (by omega) hl

-- spec.l24Median
theorem l24Median_ok (list : List Int) (hl : 1 ≤ list.length ∧ list.length ≤ 1000) : ∃ (v : Int), (v = medI list) ∧ Con Tryz.prog 89 [slI false list] true (I v) := by
  have hh : ∃ r : Int, ((r = medI list) ∧ (True)) ∧ CallOK Tryz.prog 89 [slI false list] (lookO []) true (I r) (lookO []) := by
    refine fn_okX (Φ := fun r : Int => (r = medI list) ∧ (True)) [] (fun r => []) (fn := Tryz.f89) (nt := 60) Tryz.func89 rfl rfl (args := [slI false list]) rfl (allcons (.inl ⟨rfl, tagI false _⟩) allnil) (res := fun r => I r) ?_
    refine xR [] [0] [] [slI false list] [] [] trivial ?_
    refine xR [(0, .new 6)] [0, 3] [6] [slI false list, .arr 6] [some (.arr 1 0 (litF [] 1))] [] trivial ?_
    refine x_seq ?_
    refine xR [] [0, 3, 4] [6] [slI false list, .arr 6, I 0] [some (.arr 1 0 (litF [] 1))] [] trivial ?_
    refine x_block ?_
    refine x_weak [] (T := [(0, slI false list), (3, .arr 6), (4, I 0)]) (O := [(6, .arr 1 (([] : List Int).length) (fI ([] : List Int)))]) rfl (⟨.inl rfl, .inl rfl, .inl rfl, trivial⟩) (⟨.inr ⟨rfl, (by first | rfl | (simp; done) | (simp; omega) | omega), fun i_ hi_ => absurd hi_ (Nat.not_lt_zero _)⟩, trivial⟩) ?_
    refine x_loop (X := (List Int) × Int) (fun x => mkS [(0, slI false list), (3, .arr 6), (4, I x.2)] [(6, .arr 1 x.1.length (fI x.1))]) (fun x => (0 ≤ x.2 ∧ x.2 ≤ (list.length : Int)) ∧ (x.1 = sortL (list.take x.2.toNat)) ∧ True) (fun x => ((list.length : Int) - x.2).toNat) (([] : List Int), 0) rfl (show (0 ≤ (0 : Int) ∧ (0 : Int) ≤ (list.length : Int)) ∧ (([] : List Int) = sortL (list.take (0 : Int).toNat)) ∧ True from ⟨(by omega), (by exact sortL_nil.symm), trivial⟩) (fun x hI => ?_)
    obtain ⟨out, i⟩ := x
    obtain ⟨hi0, hs0, _⟩ : (0 ≤ i ∧ i ≤ (list.length : Int)) ∧ (out = sortL (list.take i.toNat)) ∧ True := hI
    show XW _ _ _ _ (mkS [(0, slI false list), (3, .arr 6), (4, I i)] [(6, .arr 1 out.length (fI out))]) _ _
    refine x_seq ?_
    refine x_seq ?_
    by_cases h1 : i < (list.length : Int)
    ·have hi : i.toNat < list.length := by omega
     have hsp := sortL_len (list.take i.toNat)
     have htk : (list.take i.toNat).length = i.toNat := by rw [List.length_take]; omega
     have hol : out.length = i.toNat := by rw [hs0, hsp, htk]
     have hen : out ++ [at_ list i.toNat] = holeL (sortL (list.take i.toNat)) (sortL (list.take i.toNat)).length (at_ list i.toNat) := by rw [hs0]; exact hole_end _ _
     refine x_r [(3, .dec true)] [0, 3, 4, 10] [6] [slI false list, .arr 6, I i, Bv true] [some (.arr 1 out.length (fI out))] [i < (list.length : Int)] ⟨h1, trivial⟩ ?_
     refine xe_then ?_
     refine x_true rfl ?_
     refine x_skip ?_
     refine xe_then ?_
     refine x_seq ?_
     refine x_block ?_
     refine xR [] [0, 3, 4, 5] [6] [slI false list, .arr 6, I i, I (out.length : Int)] [some (.arr 1 out.length (fI out))] [] trivial ?_
     refine xR [(5, .new 20), (6, .new 21)] [0, 3, 4, 5] [21] [slI false list, .arr 21, I i, I (out.length : Int)] [some (.arr 1 (out.length + 1) (catF out.length (fI out) (litF [I (at_ list i.toNat)] 1)))] [(0 : Int) ≤ i ∧ i < (list.length : Int), (out.length + 1) * 8 ≤ 140737488355328] ⟨⟨(by omega), (by omega)⟩, (by omega), trivial⟩ ?_
     refine x_seq ?_
     refine x_block ?_
     refine x_weak [] (T := [(0, slI false list), (3, .arr 21), (4, I i), (5, I (out.length : Int))]) (O := [(21, .arr 1 ((out ++ [(at_ list i.toNat)]).length) (fI (out ++ [(at_ list i.toNat)])))]) rfl (⟨.inl rfl, .inl rfl, .inl rfl, .inl rfl, trivial⟩) (⟨.inr ⟨rfl, (by first | rfl | (simp; done) | (simp; omega) | omega), fun i_ hi_ => .inl (cat_snoc (enc := cI) (xs := out) rfl i_ hi_)⟩, trivial⟩) ?_
     refine x_loop (X := Int × (List Int)) (fun x => mkS [(0, slI false list), (3, .arr 21), (4, I i), (5, I x.1)] [(21, .arr 1 x.2.length (fI x.2))]) (fun x => (0 ≤ x.1 ∧ x.1 ≤ ((sortL (list.take i.toNat)).length : Int)) ∧ (x.2 = holeL (sortL (list.take i.toNat)) x.1.toNat (at_ x.2 x.1.toNat)) ∧ (∀ j : Nat, x.1 ≤ (j : Int) → j < (sortL (list.take i.toNat)).length → at_ list i.toNat < at_ (sortL (list.take i.toNat)) j) ∧ True) (fun x => x.1.toNat) ((out.length : Int), (out ++ [(at_ list i.toNat)])) rfl (show (0 ≤ (out.length : Int) ∧ (out.length : Int) ≤ ((sortL (list.take i.toNat)).length : Int)) ∧ ((out ++ [(at_ list i.toNat)]) = holeL (sortL (list.take i.toNat)) (out.length : Int).toNat (at_ (out ++ [(at_ list i.toNat)]) (out.length : Int).toNat)) ∧ (∀ j : Nat, (out.length : Int) ≤ (j : Int) → j < (sortL (list.take i.toNat)).length → at_ list i.toNat < at_ (sortL (list.take i.toNat)) j) ∧ True from ⟨(by omega), (by (rw [hen, show (out.length : Int).toNat = (sortL (list.take i.toNat)).length from by omega, hole_eq (Nat.le_refl _)])), (by intro j h1 h2; omega), trivial⟩) (fun x hI => ?_)
     obtain ⟨k, ou⟩ := x
     obtain ⟨hk0, hh0, hgt, _⟩ : (0 ≤ k ∧ k ≤ ((sortL (list.take i.toNat)).length : Int)) ∧ (ou = holeL (sortL (list.take i.toNat)) k.toNat (at_ ou k.toNat)) ∧ (∀ j : Nat, k ≤ (j : Int) → j < (sortL (list.take i.toNat)).length → at_ list i.toNat < at_ (sortL (list.take i.toNat)) j) ∧ True := hI
     show XW _ _ _ _ (mkS [(0, slI false list), (3, .arr 21), (4, I i), (5, I k)] [(21, .arr 1 ou.length (fI ou))]) _ _
     refine x_seq ?_
     refine x_seq ?_
     by_cases h2 : 0 < k
     ·have hol2 : ou.length = (sortL (list.take i.toNat)).length + 1 := by rw [hh0, hole_len (by omega)]
      by_cases h3 : (at_ list i.toNat) < (at_ ou ((k - 1).toNat))
      ·have hup := hole_up ⟨by omega, by omega⟩ hh0
       have hgn := hole_gt ⟨by omega, by omega⟩ hh0 hgt h3
       refine x_r [(1, .dec true), (12, .dec true)] [0, 3, 4, 5, 35] [21] [slI false list, .arr 21, I i, I k, Bv true] [some (.arr 1 ou.length (fI ou))] [0 < k, inR .i64 (k - 1), (0 : Int) ≤ (k - 1) ∧ (k - 1) < (ou.length : Int), (k - 1).toNat < ou.length, (0 : Int) ≤ i ∧ i < (list.length : Int), (at_ list i.toNat) < (at_ ou ((k - 1).toNat))] ⟨h2, (inR_i64 (by omega) (by omega)), ⟨(by omega), (by omega)⟩, (by omega), ⟨(by omega), (by omega)⟩, h3, trivial⟩ ?_
       refine xe_then ?_
       refine x_true rfl ?_
       refine x_skip ?_
       refine xe_then ?_
       refine x_block ?_
       refine xR [] [0, 3, 4, 5] [21] [slI false list, .arr 21, I i, I k] [some (.arr 1 ou.length (fun q => bif Nat.beq q k.toNat then [I (at_ ou ((k - 1).toNat))] else (fI ou) q))] [inR .i64 (k - 1), (0 : Int) ≤ (k - 1) ∧ (k - 1) < (ou.length : Int), (k - 1).toNat < ou.length, (0 : Int) ≤ k ∧ k < (ou.length : Int), k.toNat < ou.length] ⟨(inR_i64 (by omega) (by omega)), ⟨(by omega), (by omega)⟩, (by omega), ⟨(by omega), (by omega)⟩, (by omega), trivial⟩ ?_
       refine x_weak [] (T := [(0, slI false list), (3, .arr 21), (4, I i), (5, I k)]) (O := [(21, .arr 1 ((ou.set k.toNat (at_ ou ((k - 1).toNat))).length) (fI (ou.set k.toNat (at_ ou ((k - 1).toNat)))))]) rfl (⟨.inl rfl, .inl rfl, .inl rfl, .inl rfl, trivial⟩) (⟨.inr ⟨rfl, (by first | rfl | (simp; done) | (simp; omega) | omega), fun i_ hi_ => .inl (upd_enc (enc := cI) rfl i_ hi_)⟩, trivial⟩) ?_
       refine x_r [] [0, 3, 4, 5] [21] [slI false list, .arr 21, I i, I (k - 1)] [some (.arr 1 ((ou.set k.toNat (at_ ou ((k - 1).toNat))).length) (fI (ou.set k.toNat (at_ ou ((k - 1).toNat)))))] [inR .i64 (k - 1)] ⟨(inR_i64 (by omega) (by omega)), trivial⟩ ?_
       refine xe_block 3 ?_
       exact xe_again ((k - 1), (ou.set k.toNat (at_ ou ((k - 1).toNat)))) rfl (show (0 ≤ (k - 1) ∧ (k - 1) ≤ ((sortL (list.take i.toNat)).length : Int)) ∧ ((ou.set k.toNat (at_ ou ((k - 1).toNat))) = holeL (sortL (list.take i.toNat)) (k - 1).toNat (at_ (ou.set k.toNat (at_ ou ((k - 1).toNat))) (k - 1).toNat)) ∧ (∀ j : Nat, (k - 1) ≤ (j : Int) → j < (sortL (list.take i.toNat)).length → at_ list i.toNat < at_ (sortL (list.take i.toNat)) j) ∧ True from ⟨(by omega), (by exact hup), (by exact hgn), trivial⟩) (by first | (show ((k - 1).toNat : Nat) < k.toNat; omega) | (dsimp only; omega))
      have hpt := hole_put (x := at_ list i.toNat) rfl hi0.1 hi hk0 hh0 hgt (Or.inr (by omega)) rfl
      refine x_r [(1, .dec true), (12, .dec false)] [0, 3, 4, 5, 35] [21] [slI false list, .arr 21, I i, I k, Bv false] [some (.arr 1 ou.length (fI ou))] [0 < k, inR .i64 (k - 1), (0 : Int) ≤ (k - 1) ∧ (k - 1) < (ou.length : Int), (k - 1).toNat < ou.length, (0 : Int) ≤ i ∧ i < (list.length : Int), ¬ ((at_ list i.toNat) < (at_ ou ((k - 1).toNat)))] ⟨h2, (inR_i64 (by omega) (by omega)), ⟨(by omega), (by omega)⟩, (by omega), ⟨(by omega), (by omega)⟩, h3, trivial⟩ ?_
      refine xe_then ?_
      refine x_false rfl ?_
      refine x_exit ?_
      refine xe_exit_then ?_
      refine xe_loop_exit ?_
      refine xe_exit_same ?_
      refine xe_then ?_
      refine x_r [] [0, 3, 4] [21] [slI false list, .arr 21, I i] [some (.arr 1 ou.length (fun q => bif Nat.beq q k.toNat then [I (at_ list i.toNat)] else (fI ou) q))] [(0 : Int) ≤ i ∧ i < (list.length : Int), (0 : Int) ≤ k ∧ k < (ou.length : Int), k.toNat < ou.length] ⟨⟨(by omega), (by omega)⟩, ⟨(by omega), (by omega)⟩, (by omega), trivial⟩ ?_
      refine xe_block 1 ?_
      refine xe_then ?_
      refine x_weak [] (T := [(0, slI false list), (3, .arr 21), (4, I i)]) (O := [(21, .arr 1 ((ou.set k.toNat (at_ list i.toNat)).length) (fI (ou.set k.toNat (at_ list i.toNat))))]) rfl (⟨.inl rfl, .inl rfl, .inl rfl, trivial⟩) (⟨.inr ⟨rfl, (by first | rfl | (simp; done) | (simp; omega) | omega), fun i_ hi_ => .inl (upd_enc (enc := cI) rfl i_ hi_)⟩, trivial⟩) ?_
      refine x_r [] [0, 3, 4] [21] [slI false list, .arr 21, I (i + 1)] [some (.arr 1 ((ou.set k.toNat (at_ list i.toNat)).length) (fI (ou.set k.toNat (at_ list i.toNat))))] [inR .i64 (i + 1)] ⟨(inR_i64 (by omega) (by omega)), trivial⟩ ?_
      refine xe_weak [(6, 21)] (T := [(0, slI false list), (3, .arr 6), (4, I (i + 1))]) (O := [(6, .arr 1 ((ou.set k.toNat (at_ list i.toNat)).length) (fI (ou.set k.toNat (at_ list i.toNat))))]) rfl (⟨.inl rfl, .inl rfl, .inl rfl, trivial⟩) (⟨.inl rfl, trivial⟩) (xe_again ((ou.set k.toNat (at_ list i.toNat)), (i + 1)) rfl (show (0 ≤ (i + 1) ∧ (i + 1) ≤ (list.length : Int)) ∧ ((ou.set k.toNat (at_ list i.toNat)) = sortL (list.take (i + 1).toNat)) ∧ True from ⟨(by omega), (by first | exact hpt | (rw [← hpt]; done)), trivial⟩) (by first | (show (((list.length : Int) - (i + 1)).toNat : Nat) < ((list.length : Int) - i).toNat; omega) | (dsimp only; omega)))
     have hol2 : ou.length = (sortL (list.take i.toNat)).length + 1 := by rw [hh0, hole_len (by omega)]
     have hpt := hole_put (x := at_ list i.toNat) rfl hi0.1 hi hk0 hh0 hgt (Or.inl (by omega)) rfl
     refine x_r [(1, .dec false)] [0, 3, 4, 5, 35] [21] [slI false list, .arr 21, I i, I k, Bv false] [some (.arr 1 ou.length (fI ou))] [¬ (0 < k)] ⟨h2, trivial⟩ ?_
     refine xe_then ?_
     refine x_false rfl ?_
     refine x_exit ?_
     refine xe_exit_then ?_
     refine xe_loop_exit ?_
     refine xe_exit_same ?_
     refine xe_then ?_
     refine x_r [] [0, 3, 4] [21] [slI false list, .arr 21, I i] [some (.arr 1 ou.length (fun q => bif Nat.beq q k.toNat then [I (at_ list i.toNat)] else (fI ou) q))] [(0 : Int) ≤ i ∧ i < (list.length : Int), (0 : Int) ≤ k ∧ k < (ou.length : Int), k.toNat < ou.length] ⟨⟨(by omega), (by omega)⟩, ⟨(by omega), (by omega)⟩, (by omega), trivial⟩ ?_
     refine xe_block 1 ?_
     refine xe_then ?_
     refine x_weak [] (T := [(0, slI false list), (3, .arr 21), (4, I i)]) (O := [(21, .arr 1 ((ou.set k.toNat (at_ list i.toNat)).length) (fI (ou.set k.toNat (at_ list i.toNat))))]) rfl (⟨.inl rfl, .inl rfl, .inl rfl, trivial⟩) (⟨.inr ⟨rfl, (by first | rfl | (simp; done) | (simp; omega) | omega), fun i_ hi_ => .inl (upd_enc (enc := cI) rfl i_ hi_)⟩, trivial⟩) ?_
     refine x_r [] [0, 3, 4] [21] [slI false list, .arr 21, I (i + 1)] [some (.arr 1 ((ou.set k.toNat (at_ list i.toNat)).length) (fI (ou.set k.toNat (at_ list i.toNat))))] [inR .i64 (i + 1)] ⟨(inR_i64 (by omega) (by omega)), trivial⟩ ?_
     refine xe_weak [(6, 21)] (T := [(0, slI false list), (3, .arr 6), (4, I (i + 1))]) (O := [(6, .arr 1 ((ou.set k.toNat (at_ list i.toNat)).length) (fI (ou.set k.toNat (at_ list i.toNat))))]) rfl (⟨.inl rfl, .inl rfl, .inl rfl, trivial⟩) (⟨.inl rfl, trivial⟩) (xe_again ((ou.set k.toNat (at_ list i.toNat)), (i + 1)) rfl (show (0 ≤ (i + 1) ∧ (i + 1) ≤ (list.length : Int)) ∧ ((ou.set k.toNat (at_ list i.toNat)) = sortL (list.take (i + 1).toNat)) ∧ True from ⟨(by omega), (by first | exact hpt | (rw [← hpt]; done)), trivial⟩) (by first | (show (((list.length : Int) - (i + 1)).toNat : Nat) < ((list.length : Int) - i).toNat; omega) | (dsimp only; omega)))
    have hie : i.toNat = list.length := by omega
    rw [hie, List.take_of_length_le (Nat.le_refl _)] at hs0
    have hol : out.length = list.length := by rw [hs0, sortL_len]
    refine x_r [(3, .dec false)] [0, 3, 4, 10] [6] [slI false list, .arr 6, I i, Bv false] [some (.arr 1 out.length (fI out))] [¬ (i < (list.length : Int))] ⟨h1, trivial⟩ ?_
    refine xe_then ?_
    refine x_false rfl ?_
    refine x_exit ?_
    refine xe_exit_then ?_
    refine xe_loop_exit ?_
    refine xe_exit_same ?_
    refine xe_then ?_
    refine xR [(4, .nn)] [2] [] [I (at_ out ((((out.length : Int) - 1) / 2).toNat))] [] [inR .i64 ((out.length : Int) - 1), (0 : Int) ≤ ((out.length : Int) - 1) ∧ (0 : Int) < 2 ∧ inR .i64 ((out.length : Int) - 1), (0 : Int) ≤ (((out.length : Int) - 1) / 2) ∧ (((out.length : Int) - 1) / 2) < (out.length : Int), (((out.length : Int) - 1) / 2).toNat < out.length] ⟨(inR_i64 (by omega) (by omega)), ⟨(by omega), (by omega), (inR_i64 (by omega) (by omega))⟩, ⟨(by omega), (by omega)⟩, (by omega), trivial⟩ ?_
    refine x_ret ?_
    refine xe_end (at_ out ((((out.length : Int) - 1) / 2).toNat)) (show ((at_ out ((((out.length : Int) - 1) / 2).toNat)) = medI list) ∧ (True) from ⟨(by (rw [hs0, sortL_len]; unfold medI; congr 1; omega)), trivial⟩) (trivial) (I (at_ out ((((out.length : Int) - 1) / 2).toNat))) (by kernel_rfl) (.inl rfl) (fun _ => rfl) (fun _ => trivial)
  obtain ⟨v, ⟨hh0, _⟩, hc⟩ := hh
  exact ⟨v, hh0, hc⟩


/-- A coordinate that is moved towards a median. -/
def towI (x m base share : Int) : Int := min (max (x + Int.tdiv ((m - x) * share) 100) (base - 40)) (base + 40)

theorem down_spec (n : Int) {d : Int} (hd : 0 < d) : (Int.tmod n d < 0 → Int.tdiv n d - 1 = n / d) ∧ (¬ Int.tmod n d < 0 → Int.tdiv n d = n / d) := by
  have h1 := Int.mul_tdiv_add_tmod n d
  have h2 := Int.tmod_lt_of_pos n hd
  have h3 := Int.lt_tmod_of_pos n hd
  generalize Int.tdiv n d = q at *
  generalize Int.tmod n d = r at *
  subst h1
  constructor
  · intro h
    have e : d * q + r = (r + d) + d * (q - 1) := by rw [Int.mul_sub, Int.mul_one]; omega
    rw [e, Int.add_mul_ediv_left _ _ (by omega), Int.ediv_eq_zero_of_lt (by omega) (by omega)]; omega
  · intro h
    rw [Int.add_comm, Int.add_mul_ediv_left _ _ (by omega), Int.ediv_eq_zero_of_lt (by omega) (by omega)]; omega
theorem quo_bd {n r : Int} (h : 0 ≤ n) (hr : 0 < r) : 0 ≤ n / r ∧ n / r ≤ n := ⟨Int.ediv_nonneg h (by omega), Int.ediv_le_self _ h⟩
theorem tdiv_bd (n d : Int) : ((Int.tdiv n d).natAbs : Int) ≤ (n.natAbs : Int) := by
  rw [Int.natAbs_tdiv]
  exact Int.ofNat_le.2 (Nat.div_le_self _ _)

-- spec.l24Move
theorem l24Move_ok (now : Int) (base : Int) (median : Int) (share : Int) (hx : 0 ≤ now ∧ now ≤ 4095) (hb : 0 ≤ base ∧ base ≤ 4095) (hm : 0 ≤ median ∧ median ≤ 4095) (hs : 0 ≤ share ∧ share ≤ 100) : Con Tryz.prog 88 [I now, I base, I median, I share] true (I (towI now median base share)) := by
  have hq := tdiv_bd ((median - now) * share) 100
  have hml := Int.mul_le_mul_of_nonneg_right (show median - now ≤ 4095 by omega) hs.1
  have hmg := Int.mul_le_mul_of_nonneg_right (show -4095 ≤ median - now by omega) hs.1
  refine fn_ok (fn := Tryz.f88) (nt := 25) Tryz.func88 rfl rfl rfl rfl (by simp [taggedL, tagged]) fun B hB => ?_
  refine aR [] [0, 1, 2, 3] [] [I now, I base, I median, I share] [] [] hB trivial ?_
  refine aR [] [1, 9] [] [I base, I (now + (Int.tdiv ((median - now) * share) 100))] [] [inR .i64 (median - now), inR .i64 ((median - now) * share), (100 : Int) ≠ 0 ∧ inR .i64 (Int.tdiv ((median - now) * share) 100), inR .i64 (now + (Int.tdiv ((median - now) * share) 100))] hB ⟨(inR_i64 (by omega) (by omega)), (inR_i64 (by omega) (by omega)), ⟨by omega, (inR_i64 (by omega) (by omega))⟩, (inR_i64 (by omega) (by omega)), trivial⟩ ?_
  refine aR [(5, .call [(true, .any), (true, .any)] true (I (min (base + 40) (now + (Int.tdiv ((median - now) * share) 100))))), (6, .call [(true, .any), (true, .any)] true (I (max (base - 40) (min (base + 40) (now + (Int.tdiv ((median - now) * share) 100))))))] [8] [] [I (max (base - 40) (min (base + 40) (now + (Int.tdiv ((median - now) * share) 100))))] [] [inR .i64 (base - 40), inR .i64 (base + 40), Con Tryz.prog 62 [I (base + 40), I (now + (Int.tdiv ((median - now) * share) 100))] true (I (min (base + 40) (now + (Int.tdiv ((median - now) * share) 100)))) ∧ True, Con Tryz.prog 61 [I (base - 40), I (min (base + 40) (now + (Int.tdiv ((median - now) * share) 100)))] true (I (max (base - 40) (min (base + 40) (now + (Int.tdiv ((median - now) * share) 100))))) ∧ True] hB ⟨(inR_i64 (by omega) (by omega)), (inR_i64 (by omega) (by omega)), ⟨(l00Min_ok (base + 40) (now + (Int.tdiv ((median - now) * share) 100))), trivial⟩, ⟨(l00Max_ok (base - 40) (min (base + 40) (now + (Int.tdiv ((median - now) * share) 100)))), trivial⟩, trivial⟩ ?_
  refine aw_ret ?_
  refine ae_ret hB (I (max (base - 40) (min (base + 40) (now + (Int.tdiv ((median - now) * share) 100))))) (by kernel_rfl) (.inl (by refine congrArg I ?_; unfold towI; first | rfl | omega)) rfl (fun _ => trivial)

end Go.Proofs.YtjiflhglbephbaaGreat.Ax
