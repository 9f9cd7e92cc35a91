/- The statement FnVotes: contracts of what it reaches, and its proof. No conditions. -/
import Derived.Test.YtbapncplieakmaaAxLVotes2
import Derived.Test.YtbapncplieakmaaAxR
import Derived.Test.YtbapncplieakmaaAxS
namespace Go.Proofs.Ytbapncplieakmaa.Ax
open Go.RowKit Go.ChangeShapes Go.WideShapes
set_option linter.unusedVariables false
set_option linter.unusedSimpArgs false


-- spec.l09Table
set_option maxHeartbeats 4000000 in
theorem l09Table_ok (a : List Feat) (b : List Feat) (band : Int) (hab : okAB a b) (hbd : 0 ≤ band ∧ band ≤ 1000) : ∃ (out : List Int), (flOk a b band out (a.length * b.length)) ∧ Con Try.prog 70 [slFeat false a, slFeat false b, I band] true (slI true out) := by
  have hla := hab.2.2
  have hnm : (a.length : Int) * (b.length : Int) = ((a.length * b.length : Nat) : Int) := (Int.natCast_mul _ _).symm
  have hnl := Nat.mul_le_mul hla.1 hla.2
  have hh : ∃ r : (List Int), ((flOk a b band r (a.length * b.length)) ∧ (True)) ∧ CallOK Try.prog 70 [slFeat false a, slFeat false b, I band] (lookO []) true (slI true r) (lookO []) := by
    refine fn_okX (Φ := fun r : (List Int) => (flOk a b band r (a.length * b.length)) ∧ (True)) [] (fun r => []) (fn := Try.f70) (nt := 117) Try.func70 rfl rfl (args := [slFeat false a, slFeat false b, I band]) rfl (allcons (.inl ⟨rfl, tagFeat false _⟩) (allcons (.inl ⟨rfl, tagFeat false _⟩) (allcons (.inl ⟨rfl, trivial⟩) allnil))) (res := fun r => slI true r) ?_
    refine xR [] [0, 1, 2] [] [slFeat false a, slFeat false b, I band] [] [] trivial ?_
    refine xR [] [0, 1, 2, 7] [] [slFeat false a, slFeat false b, I band, I (a.length : Int)] [] [] trivial ?_
    refine xR [] [0, 1, 2, 7, 8] [] [slFeat false a, slFeat false b, I band, I (a.length : Int), I (b.length : Int)] [] [] trivial ?_
    refine xR [(3, .new 20)] [0, 1, 2, 7, 8, 9] [20] [slFeat false a, slFeat false b, I band, I (a.length : Int), I (b.length : Int), .arr 20] [some (.arr 1 (((a.length : Int) * (b.length : Int)).toNat) (fun _ => [I 0]))] [inR .i64 ((a.length : Int) * (b.length : Int)), (0 : Int) ≤ ((a.length : Int) * (b.length : Int)) ∧ (((a.length : Int) * (b.length : Int)) : Int) ≤ ((a.length : Int) * (b.length : Int)) ∧ (8 : Int) * ((a.length : Int) * (b.length : Int)) ≤ 281474976710656 ∧ ((a.length : Int) * (b.length : Int)) ≤ 9223372036854775807] ⟨(inR_i64 (by omega) (by omega)), ⟨(by omega), (by omega), (by omega), (by omega)⟩, trivial⟩ ?_
    refine x_seq ?_
    refine xR [] [0, 1, 2, 7, 8, 9, 10] [20] [slFeat false a, slFeat false b, I band, I (a.length : Int), I (b.length : Int), .arr 20, I 0] [some (.arr 1 (((a.length : Int) * (b.length : Int)).toNat) (fun _ => [I 0]))] [] trivial ?_
    refine x_block ?_
    refine x_weak [] (T := [(0, slFeat false a), (1, slFeat false b), (2, I band), (7, I (a.length : Int)), (8, I (b.length : Int)), (9, .arr 20), (10, I 0)]) (O := [(20, .arr 1 ((List.replicate (((a.length : Int) * (b.length : Int)).toNat) 0).length) (fI (List.replicate (((a.length : Int) * (b.length : Int)).toNat) 0)))]) rfl (⟨.inl rfl, .inl rfl, .inl rfl, .inl rfl, .inl rfl, .inl rfl, .inl rfl, trivial⟩) (⟨.inr ⟨rfl, (by first | rfl | (simp; done) | (simp; omega) | omega), fun i_ hi_ => .inl (const_enc (enc := cI) rfl i_ hi_)⟩, trivial⟩) ?_
    refine x_loop (X := Int × (List Int)) (fun x => mkS [(0, slFeat false a), (1, slFeat false b), (2, I band), (7, I (a.length : Int)), (8, I (b.length : Int)), (9, .arr 20), (10, I x.1)] [(20, .arr 1 x.2.length (fI x.2))]) (fun x => (0 ≤ x.1 ∧ x.1 ≤ (a.length : Int)) ∧ (flOk a b band x.2 (x.1.toNat * b.length)) ∧ True) (fun x => ((a.length : Int) - x.1).toNat) (0, (List.replicate (((a.length : Int) * (b.length : Int)).toNat) 0)) rfl (show (0 ≤ (0 : Int) ∧ (0 : Int) ≤ (a.length : Int)) ∧ (flOk a b band (List.replicate (((a.length : Int) * (b.length : Int)).toNat) 0) ((0 : Int).toNat * b.length)) ∧ True from ⟨(by omega), (by exact ⟨by simp; omega, fun p q _ _ hk => by rw [show (0 : Int).toNat = 0 from rfl, Nat.zero_mul] at hk; omega⟩), trivial⟩) (fun x hI => ?_)
    obtain ⟨i, fl⟩ := x
    obtain ⟨hi0, hfl, _⟩ : (0 ≤ i ∧ i ≤ (a.length : Int)) ∧ (flOk a b band fl (i.toNat * b.length)) ∧ True := hI
    show XW _ _ _ _ (mkS [(0, slFeat false a), (1, slFeat false b), (2, I band), (7, I (a.length : Int)), (8, I (b.length : Int)), (9, .arr 20), (10, I i)] [(20, .arr 1 fl.length (fI fl))]) _ _
    refine x_seq ?_
    refine x_seq ?_
    by_cases h1 : i < (a.length : Int)
    ·have hi : i.toNat < a.length := by omega
     have hix : ((i.toNat : Nat) : Int) = i := by omega
     refine x_r [(2, .dec true)] [0, 1, 2, 7, 8, 9, 10, 23] [20] [slFeat false a, slFeat false b, I band, I (a.length : Int), I (b.length : Int), .arr 20, I i, Bv true] [some (.arr 1 fl.length (fI fl))] [i < (a.length : Int)] ⟨h1, trivial⟩ ?_
     refine xe_then ?_
     refine x_true rfl ?_
     refine x_skip ?_
     refine xe_then ?_
     refine x_seq ?_
     refine x_block ?_
     refine xR [] [0, 1, 2, 7, 8, 9, 10, 11] [20] [slFeat false a, slFeat false b, I band, I (a.length : Int), I (b.length : Int), .arr 20, I i, I 0] [some (.arr 1 fl.length (fI fl))] [] trivial ?_
     refine x_block ?_
     refine x_loop (X := Int × (List Int)) (fun x => mkS [(0, slFeat false a), (1, slFeat false b), (2, I band), (7, I (a.length : Int)), (8, I (b.length : Int)), (9, .arr 20), (10, I i), (11, I x.1)] [(20, .arr 1 x.2.length (fI x.2))]) (fun x => (0 ≤ x.1 ∧ x.1 ≤ (b.length : Int)) ∧ (flOk a b band x.2 (i.toNat * b.length + x.1.toNat)) ∧ True) (fun x => ((b.length : Int) - x.1).toNat) (0, fl) rfl (show (0 ≤ (0 : Int) ∧ (0 : Int) ≤ (b.length : Int)) ∧ (flOk a b band fl (i.toNat * b.length + (0 : Int).toNat)) ∧ True from ⟨(by omega), (by exact hfl), trivial⟩) (fun x hI => ?_)
     obtain ⟨j, fl'⟩ := x
     obtain ⟨hj0, hin, _⟩ : (0 ≤ j ∧ j ≤ (b.length : Int)) ∧ (flOk a b band fl' (i.toNat * b.length + j.toNat)) ∧ True := hI
     show XW _ _ _ _ (mkS [(0, slFeat false a), (1, slFeat false b), (2, I band), (7, I (a.length : Int)), (8, I (b.length : Int)), (9, .arr 20), (10, I i), (11, I j)] [(20, .arr 1 fl'.length (fI fl'))]) _ _
     refine x_seq ?_
     refine x_seq ?_
     by_cases h2 : j < (b.length : Int)
     ·have hj : j.toNat < b.length := by omega
      have hjx : ((j.toNat : Nat) : Int) = j := by omega
      have hcb := costF_bd (hab.1 _ hi) (hab.2.1 _ hj)
      have hsb := sb_at hab hin hi hj
      rw [hix, hjx] at hsb
      have hol := hin.1
      have hlt := fl_lt (j := 0) hi hj
      have hpr : i * (b.length : Int) = ((i.toNat * b.length : Nat) : Int) := by rw [Int.natCast_mul, hix]
      have hpq : (i - 1) * (b.length : Int) = ((i.toNat * b.length : Nat) : Int) - b.length := by rw [Int.sub_mul, Int.one_mul, hpr]
      have hps := Nat.mul_le_mul (show i.toNat ≤ 72 by omega) (show b.length ≤ 72 by omega)
      have hpt : 1 ≤ i → b.length ≤ i.toNat * b.length := fun q => Nat.le_mul_of_pos_left _ (by omega)
      have hka : (i * (b.length : Int) + j).toNat = i.toNat * b.length + j.toNat := by omega
      have hn1 : 0 < i → 0 < j → 0 ≤ at_ fl' ((i - 1) * (b.length : Int) + j - 1).toNat := fun q1 q2 => fl_nn hab hin (by omega) (by omega) (by omega)
      have hn2 : 0 < i → 0 ≤ at_ fl' ((i - 1) * (b.length : Int) + j).toNat := fun q1 => fl_nn hab hin (by omega) (by omega) (by omega)
      have hn3 : 0 < j → 0 ≤ at_ fl' (i * (b.length : Int) + j - 1).toNat := fun q1 => fl_nn hab hin (by omega) (by omega) (by omega)
      refine x_r [(2, .dec true)] [0, 1, 2, 7, 8, 9, 10, 11, 28] [20] [slFeat false a, slFeat false b, I band, I (a.length : Int), I (b.length : Int), .arr 20, I i, I j, Bv true] [some (.arr 1 fl'.length (fI fl'))] [j < (b.length : Int)] ⟨h2, trivial⟩ ?_
      refine xe_then ?_
      refine x_true rfl ?_
      refine x_skip ?_
      refine xe_then ?_
      refine x_seq ?_
      refine x_block ?_
      refine xR [] [0, 1, 2, 7, 8, 9, 10, 11, 12] [20] [slFeat false a, slFeat false b, I band, I (a.length : Int), I (b.length : Int), .arr 20, I i, I j, I 1000000000] [some (.arr 1 fl'.length (fI fl'))] [] trivial ?_
      refine x_seq ?_
      refine x_seq ?_
      by_cases h3 : i = 0
      ·by_cases h4 : j = 0
       ·refine x_r [(1, .dec true), (4, .dec true)] [0, 1, 2, 7, 8, 9, 10, 11, 12, 36] [20] [slFeat false a, slFeat false b, I band, I (a.length : Int), I (b.length : Int), .arr 20, I i, I j, I 1000000000, Bv true] [some (.arr 1 fl'.length (fI fl'))] [i = 0, j = 0] ⟨h3, h4, trivial⟩ ?_
        refine xe_then ?_
        refine x_true rfl ?_
        refine x_r [] [0, 1, 2, 7, 8, 9, 10, 11, 12] [20] [slFeat false a, slFeat false b, I band, I (a.length : Int), I (b.length : Int), .arr 20, I i, I j, I 0] [some (.arr 1 fl'.length (fI fl'))] [] trivial ?_
        refine xe_then ?_
        refine x_seq ?_
        refine x_seq ?_
        by_cases h5 : 0 < i
        ·by_cases h6 : 0 < j
         ·refine x_r [(1, .dec true), (4, .dec true)] [0, 1, 2, 7, 8, 9, 10, 11, 12, 42] [20] [slFeat false a, slFeat false b, I band, I (a.length : Int), I (b.length : Int), .arr 20, I i, I j, I 0, Bv true] [some (.arr 1 fl'.length (fI fl'))] [0 < i, 0 < j] ⟨h5, h6, trivial⟩ ?_
          refine xe_then ?_
          refine x_true rfl ?_
          refine x_r [(11, .call [(true, .any), (true, .any)] true (I (min 0 (at_ fl' (((((i - 1) * (b.length : Int)) + j) - 1).toNat)))))] [0, 1, 2, 7, 8, 9, 10, 11, 12] [20] [slFeat false a, slFeat false b, I band, I (a.length : Int), I (b.length : Int), .arr 20, I i, I j, I (min 0 (at_ fl' (((((i - 1) * (b.length : Int)) + j) - 1).toNat)))] [some (.arr 1 fl'.length (fI fl'))] [inR .i64 (i - 1), inR .i64 ((i - 1) * (b.length : Int)), inR .i64 (((i - 1) * (b.length : Int)) + j), inR .i64 ((((i - 1) * (b.length : Int)) + j) - 1), (0 : Int) ≤ ((((i - 1) * (b.length : Int)) + j) - 1) ∧ ((((i - 1) * (b.length : Int)) + j) - 1) < (fl'.length : Int), ((((i - 1) * (b.length : Int)) + j) - 1).toNat < fl'.length, Con Try.prog 42 [I 0, I (at_ fl' (((((i - 1) * (b.length : Int)) + j) - 1).toNat))] true (I (min 0 (at_ fl' (((((i - 1) * (b.length : Int)) + j) - 1).toNat)))) ∧ True] ⟨(inR_i64 (by omega) (by omega)), (inR_i64 (by omega) (by omega)), (inR_i64 (by omega) (by omega)), (inR_i64 (by omega) (by omega)), ⟨(by omega), (by omega)⟩, (by omega), ⟨(l00Min_ok 0 (at_ fl' (((((i - 1) * (b.length : Int)) + j) - 1).toNat))), trivial⟩, trivial⟩ ?_
          refine xe_then ?_
          refine x_seq ?_
          refine xR [(1, .dec true)] [0, 1, 2, 7, 8, 9, 10, 11, 12, 56] [20] [slFeat false a, slFeat false b, I band, I (a.length : Int), I (b.length : Int), .arr 20, I i, I j, I (min 0 (at_ fl' (((((i - 1) * (b.length : Int)) + j) - 1).toNat))), Bv true] [some (.arr 1 fl'.length (fI fl'))] [0 < i] ⟨h5, trivial⟩ ?_
          refine x_true rfl ?_
          refine x_r [(10, .call [(true, .any), (true, .any)] true (I (min (min 0 (at_ fl' (((((i - 1) * (b.length : Int)) + j) - 1).toNat))) (at_ fl' ((((i - 1) * (b.length : Int)) + j).toNat)))))] [0, 1, 2, 7, 8, 9, 10, 11, 12] [20] [slFeat false a, slFeat false b, I band, I (a.length : Int), I (b.length : Int), .arr 20, I i, I j, I (min (min 0 (at_ fl' (((((i - 1) * (b.length : Int)) + j) - 1).toNat))) (at_ fl' ((((i - 1) * (b.length : Int)) + j).toNat)))] [some (.arr 1 fl'.length (fI fl'))] [inR .i64 (i - 1), inR .i64 ((i - 1) * (b.length : Int)), inR .i64 (((i - 1) * (b.length : Int)) + j), (0 : Int) ≤ (((i - 1) * (b.length : Int)) + j) ∧ (((i - 1) * (b.length : Int)) + j) < (fl'.length : Int), (((i - 1) * (b.length : Int)) + j).toNat < fl'.length, Con Try.prog 42 [I (min 0 (at_ fl' (((((i - 1) * (b.length : Int)) + j) - 1).toNat))), I (at_ fl' ((((i - 1) * (b.length : Int)) + j).toNat))] true (I (min (min 0 (at_ fl' (((((i - 1) * (b.length : Int)) + j) - 1).toNat))) (at_ fl' ((((i - 1) * (b.length : Int)) + j).toNat)))) ∧ True] ⟨(inR_i64 (by omega) (by omega)), (inR_i64 (by omega) (by omega)), (inR_i64 (by omega) (by omega)), ⟨(by omega), (by omega)⟩, (by omega), ⟨(l00Min_ok (min 0 (at_ fl' (((((i - 1) * (b.length : Int)) + j) - 1).toNat))) (at_ fl' ((((i - 1) * (b.length : Int)) + j).toNat))), trivial⟩, trivial⟩ ?_
          refine xe_then ?_
          refine x_seq ?_
          refine xR [(1, .dec true)] [0, 1, 2, 7, 8, 9, 10, 11, 12, 69] [20] [slFeat false a, slFeat false b, I band, I (a.length : Int), I (b.length : Int), .arr 20, I i, I j, I (min (min 0 (at_ fl' (((((i - 1) * (b.length : Int)) + j) - 1).toNat))) (at_ fl' ((((i - 1) * (b.length : Int)) + j).toNat))), Bv true] [some (.arr 1 fl'.length (fI fl'))] [0 < j] ⟨h6, trivial⟩ ?_
          refine x_true rfl ?_
          refine x_r [(10, .call [(true, .any), (true, .any)] true (I (min (min (min 0 (at_ fl' (((((i - 1) * (b.length : Int)) + j) - 1).toNat))) (at_ fl' ((((i - 1) * (b.length : Int)) + j).toNat))) (at_ fl' ((((i * (b.length : Int)) + j) - 1).toNat)))))] [0, 1, 2, 7, 8, 9, 10, 11, 12] [20] [slFeat false a, slFeat false b, I band, I (a.length : Int), I (b.length : Int), .arr 20, I i, I j, I (min (min (min 0 (at_ fl' (((((i - 1) * (b.length : Int)) + j) - 1).toNat))) (at_ fl' ((((i - 1) * (b.length : Int)) + j).toNat))) (at_ fl' ((((i * (b.length : Int)) + j) - 1).toNat)))] [some (.arr 1 fl'.length (fI fl'))] [inR .i64 (i * (b.length : Int)), inR .i64 ((i * (b.length : Int)) + j), inR .i64 (((i * (b.length : Int)) + j) - 1), (0 : Int) ≤ (((i * (b.length : Int)) + j) - 1) ∧ (((i * (b.length : Int)) + j) - 1) < (fl'.length : Int), (((i * (b.length : Int)) + j) - 1).toNat < fl'.length, Con Try.prog 42 [I (min (min 0 (at_ fl' (((((i - 1) * (b.length : Int)) + j) - 1).toNat))) (at_ fl' ((((i - 1) * (b.length : Int)) + j).toNat))), I (at_ fl' ((((i * (b.length : Int)) + j) - 1).toNat))] true (I (min (min (min 0 (at_ fl' (((((i - 1) * (b.length : Int)) + j) - 1).toNat))) (at_ fl' ((((i - 1) * (b.length : Int)) + j).toNat))) (at_ fl' ((((i * (b.length : Int)) + j) - 1).toNat)))) ∧ True] ⟨(inR_i64 (by omega) (by omega)), (inR_i64 (by omega) (by omega)), (inR_i64 (by omega) (by omega)), ⟨(by omega), (by omega)⟩, (by omega), ⟨(l00Min_ok (min (min 0 (at_ fl' (((((i - 1) * (b.length : Int)) + j) - 1).toNat))) (at_ fl' ((((i - 1) * (b.length : Int)) + j).toNat))) (at_ fl' ((((i * (b.length : Int)) + j) - 1).toNat))), trivial⟩, trivial⟩ ?_
          refine xe_then ?_
          refine x_seq ?_
          by_cases h7 : (min (min (min 0 (at_ fl' (((((i - 1) * (b.length : Int)) + j) - 1).toNat))) (at_ fl' ((((i - 1) * (b.length : Int)) + j).toNat))) (at_ fl' ((((i * (b.length : Int)) + j) - 1).toNat))) = 1000000000
          ·refine x_r [(1, .dec true)] [0, 1, 2, 7, 8, 9, 10, 11, 12, 90] [20] [slFeat false a, slFeat false b, I band, I (a.length : Int), I (b.length : Int), .arr 20, I i, I j, I (min (min (min 0 (at_ fl' (((((i - 1) * (b.length : Int)) + j) - 1).toNat))) (at_ fl' ((((i - 1) * (b.length : Int)) + j).toNat))) (at_ fl' ((((i * (b.length : Int)) + j) - 1).toNat))), Bv true] [some (.arr 1 fl'.length (fI fl'))] [(min (min (min 0 (at_ fl' (((((i - 1) * (b.length : Int)) + j) - 1).toNat))) (at_ fl' ((((i - 1) * (b.length : Int)) + j).toNat))) (at_ fl' ((((i * (b.length : Int)) + j) - 1).toNat))) = 1000000000] ⟨h7, trivial⟩ ?_
           refine xe_then ?_
           refine x_true rfl ?_
           refine x_r [] [0, 1, 2, 7, 8, 9, 10, 11] [20] [slFeat false a, slFeat false b, I band, I (a.length : Int), I (b.length : Int), .arr 20, I i, I j] [some (.arr 1 fl'.length (fun q => bif Nat.beq q (((i * (b.length : Int)) + j).toNat) then [I 1000000000] else (fI fl') q))] [inR .i64 (i * (b.length : Int)), inR .i64 ((i * (b.length : Int)) + j), (0 : Int) ≤ ((i * (b.length : Int)) + j) ∧ ((i * (b.length : Int)) + j) < (fl'.length : Int), ((i * (b.length : Int)) + j).toNat < fl'.length] ⟨(inR_i64 (by omega) (by omega)), (inR_i64 (by omega) (by omega)), ⟨(by omega), (by omega)⟩, (by omega), trivial⟩ ?_
           refine xe_block 3 ?_
           refine xe_then ?_
           refine x_weak [] (T := [(0, slFeat false a), (1, slFeat false b), (2, I band), (7, I (a.length : Int)), (8, I (b.length : Int)), (9, .arr 20), (10, I i), (11, I j)]) (O := [(20, .arr 1 ((fl'.set (((i * (b.length : Int)) + j).toNat) 1000000000).length) (fI (fl'.set (((i * (b.length : Int)) + j).toNat) 1000000000)))]) rfl (⟨.inl rfl, .inl rfl, .inl rfl, .inl rfl, .inl rfl, .inl rfl, .inl rfl, .inl rfl, trivial⟩) (⟨.inr ⟨rfl, (by first | rfl | (simp; done) | (simp; omega) | omega), fun i_ hi_ => .inl (upd_enc (enc := cI) rfl i_ hi_)⟩, trivial⟩) ?_
           refine x_r [] [0, 1, 2, 7, 8, 9, 10, 11] [20] [slFeat false a, slFeat false b, I band, I (a.length : Int), I (b.length : Int), .arr 20, I i, I (j + 1)] [some (.arr 1 ((fl'.set (((i * (b.length : Int)) + j).toNat) 1000000000).length) (fI (fl'.set (((i * (b.length : Int)) + j).toNat) 1000000000)))] [inR .i64 (j + 1)] ⟨(inR_i64 (by omega) (by omega)), trivial⟩ ?_
           exact xe_again ((j + 1), (fl'.set (((i * (b.length : Int)) + j).toNat) 1000000000)) rfl (show (0 ≤ (j + 1) ∧ (j + 1) ≤ (b.length : Int)) ∧ (flOk a b band (fl'.set (((i * (b.length : Int)) + j).toNat) 1000000000) (i.toNat * b.length + (j + 1).toNat)) ∧ True from ⟨(by omega), (by rw [show (j + 1).toNat = j.toNat + 1 from by omega]; exact fl_step hin hi hj hka (by rw [hsb.2]; unfold sb3 sb2 sb1 sb0; (repeat' split) <;> omega)), trivial⟩) (by first | (show (((b.length : Int) - (j + 1)).toNat : Nat) < ((b.length : Int) - j).toNat; omega) | (dsimp only; omega))
          by_cases h8 : band < ((i - j).natAbs : Int)
          ·refine x_r [(1, .dec false), (6, .call [(true, .any)] true (I ((i - j).natAbs : Int))), (8, .dec true)] [0, 1, 2, 7, 8, 9, 10, 11, 12, 90] [20] [slFeat false a, slFeat false b, I band, I (a.length : Int), I (b.length : Int), .arr 20, I i, I j, I (min (min (min 0 (at_ fl' (((((i - 1) * (b.length : Int)) + j) - 1).toNat))) (at_ fl' ((((i - 1) * (b.length : Int)) + j).toNat))) (at_ fl' ((((i * (b.length : Int)) + j) - 1).toNat))), Bv true] [some (.arr 1 fl'.length (fI fl'))] [¬ ((min (min (min 0 (at_ fl' (((((i - 1) * (b.length : Int)) + j) - 1).toNat))) (at_ fl' ((((i - 1) * (b.length : Int)) + j).toNat))) (at_ fl' ((((i * (b.length : Int)) + j) - 1).toNat))) = 1000000000), inR .i64 (i - j), Con Try.prog 53 [I (i - j)] true (I ((i - j).natAbs : Int)) ∧ True, band < ((i - j).natAbs : Int)] ⟨h7, (inR_i64 (by omega) (by omega)), ⟨(l09Size_ok (i - j) (by omega)), trivial⟩, h8, trivial⟩ ?_
           refine xe_then ?_
           refine x_true rfl ?_
           refine x_r [] [0, 1, 2, 7, 8, 9, 10, 11] [20] [slFeat false a, slFeat false b, I band, I (a.length : Int), I (b.length : Int), .arr 20, I i, I j] [some (.arr 1 fl'.length (fun q => bif Nat.beq q (((i * (b.length : Int)) + j).toNat) then [I 1000000000] else (fI fl') q))] [inR .i64 (i * (b.length : Int)), inR .i64 ((i * (b.length : Int)) + j), (0 : Int) ≤ ((i * (b.length : Int)) + j) ∧ ((i * (b.length : Int)) + j) < (fl'.length : Int), ((i * (b.length : Int)) + j).toNat < fl'.length] ⟨(inR_i64 (by omega) (by omega)), (inR_i64 (by omega) (by omega)), ⟨(by omega), (by omega)⟩, (by omega), trivial⟩ ?_
           refine xe_block 3 ?_
           refine xe_then ?_
           refine x_weak [] (T := [(0, slFeat false a), (1, slFeat false b), (2, I band), (7, I (a.length : Int)), (8, I (b.length : Int)), (9, .arr 20), (10, I i), (11, I j)]) (O := [(20, .arr 1 ((fl'.set (((i * (b.length : Int)) + j).toNat) 1000000000).length) (fI (fl'.set (((i * (b.length : Int)) + j).toNat) 1000000000)))]) rfl (⟨.inl rfl, .inl rfl, .inl rfl, .inl rfl, .inl rfl, .inl rfl, .inl rfl, .inl rfl, trivial⟩) (⟨.inr ⟨rfl, (by first | rfl | (simp; done) | (simp; omega) | omega), fun i_ hi_ => .inl (upd_enc (enc := cI) rfl i_ hi_)⟩, trivial⟩) ?_
           refine x_r [] [0, 1, 2, 7, 8, 9, 10, 11] [20] [slFeat false a, slFeat false b, I band, I (a.length : Int), I (b.length : Int), .arr 20, I i, I (j + 1)] [some (.arr 1 ((fl'.set (((i * (b.length : Int)) + j).toNat) 1000000000).length) (fI (fl'.set (((i * (b.length : Int)) + j).toNat) 1000000000)))] [inR .i64 (j + 1)] ⟨(inR_i64 (by omega) (by omega)), trivial⟩ ?_
           exact xe_again ((j + 1), (fl'.set (((i * (b.length : Int)) + j).toNat) 1000000000)) rfl (show (0 ≤ (j + 1) ∧ (j + 1) ≤ (b.length : Int)) ∧ (flOk a b band (fl'.set (((i * (b.length : Int)) + j).toNat) 1000000000) (i.toNat * b.length + (j + 1).toNat)) ∧ True from ⟨(by omega), (by rw [show (j + 1).toNat = j.toNat + 1 from by omega]; exact fl_step hin hi hj hka (by rw [hsb.2]; unfold sb3 sb2 sb1 sb0; (repeat' split) <;> omega)), trivial⟩) (by first | (show (((b.length : Int) - (j + 1)).toNat : Nat) < ((b.length : Int) - j).toNat; omega) | (dsimp only; omega))
          refine x_r [(1, .dec false), (6, .call [(true, .any)] true (I ((i - j).natAbs : Int))), (8, .dec false)] [0, 1, 2, 7, 8, 9, 10, 11, 12, 90] [20] [slFeat false a, slFeat false b, I band, I (a.length : Int), I (b.length : Int), .arr 20, I i, I j, I (min (min (min 0 (at_ fl' (((((i - 1) * (b.length : Int)) + j) - 1).toNat))) (at_ fl' ((((i - 1) * (b.length : Int)) + j).toNat))) (at_ fl' ((((i * (b.length : Int)) + j) - 1).toNat))), Bv false] [some (.arr 1 fl'.length (fI fl'))] [¬ ((min (min (min 0 (at_ fl' (((((i - 1) * (b.length : Int)) + j) - 1).toNat))) (at_ fl' ((((i - 1) * (b.length : Int)) + j).toNat))) (at_ fl' ((((i * (b.length : Int)) + j) - 1).toNat))) = 1000000000), inR .i64 (i - j), Con Try.prog 53 [I (i - j)] true (I ((i - j).natAbs : Int)) ∧ True, ¬ (band < ((i - j).natAbs : Int))] ⟨h7, (inR_i64 (by omega) (by omega)), ⟨(l09Size_ok (i - j) (by omega)), trivial⟩, h8, trivial⟩ ?_
          refine xe_then ?_
          refine x_false rfl ?_
          refine x_r [(15, .call [(true, .any), (true, .any)] true (I (costF (at_ a i.toNat) (at_ b j.toNat))))] [0, 1, 2, 7, 8, 9, 10, 11] [20] [slFeat false a, slFeat false b, I band, I (a.length : Int), I (b.length : Int), .arr 20, I i, I j] [some (.arr 1 fl'.length (fun q => bif Nat.beq q (((i * (b.length : Int)) + j).toNat) then [I ((min (min (min 0 (at_ fl' (((((i - 1) * (b.length : Int)) + j) - 1).toNat))) (at_ fl' ((((i - 1) * (b.length : Int)) + j).toNat))) (at_ fl' ((((i * (b.length : Int)) + j) - 1).toNat))) + (costF (at_ a i.toNat) (at_ b j.toNat)))] else (fI fl') q))] [inR .i64 (i * (b.length : Int)), inR .i64 ((i * (b.length : Int)) + j), (0 : Int) ≤ i ∧ i < (a.length : Int), (0 : Int) ≤ j ∧ j < (b.length : Int), Con Try.prog 79 [agFeat (at_ a i.toNat), agFeat (at_ b j.toNat)] true (I (costF (at_ a i.toNat) (at_ b j.toNat))) ∧ True, inR .i64 ((min (min (min 0 (at_ fl' (((((i - 1) * (b.length : Int)) + j) - 1).toNat))) (at_ fl' ((((i - 1) * (b.length : Int)) + j).toNat))) (at_ fl' ((((i * (b.length : Int)) + j) - 1).toNat))) + (costF (at_ a i.toNat) (at_ b j.toNat))), (0 : Int) ≤ ((i * (b.length : Int)) + j) ∧ ((i * (b.length : Int)) + j) < (fl'.length : Int), ((i * (b.length : Int)) + j).toNat < fl'.length] ⟨(inR_i64 (by omega) (by omega)), (inR_i64 (by omega) (by omega)), ⟨(by omega), (by omega)⟩, ⟨(by omega), (by omega)⟩, ⟨(l09Cost_ok (at_ a i.toNat) (at_ b j.toNat) (by first | exact hab.1 _ (by omega) | exact hab.2.1 _ (by omega)) (by first | exact hab.1 _ (by omega) | exact hab.2.1 _ (by omega))), trivial⟩, (inR_i64 (by omega) (by omega)), ⟨(by omega), (by omega)⟩, (by omega), trivial⟩ ?_
          refine xe_block 3 ?_
          refine xe_then ?_
          refine x_weak [] (T := [(0, slFeat false a), (1, slFeat false b), (2, I band), (7, I (a.length : Int)), (8, I (b.length : Int)), (9, .arr 20), (10, I i), (11, I j)]) (O := [(20, .arr 1 ((fl'.set (((i * (b.length : Int)) + j).toNat) ((min (min (min 0 (at_ fl' (((((i - 1) * (b.length : Int)) + j) - 1).toNat))) (at_ fl' ((((i - 1) * (b.length : Int)) + j).toNat))) (at_ fl' ((((i * (b.length : Int)) + j) - 1).toNat))) + (costF (at_ a i.toNat) (at_ b j.toNat)))).length) (fI (fl'.set (((i * (b.length : Int)) + j).toNat) ((min (min (min 0 (at_ fl' (((((i - 1) * (b.length : Int)) + j) - 1).toNat))) (at_ fl' ((((i - 1) * (b.length : Int)) + j).toNat))) (at_ fl' ((((i * (b.length : Int)) + j) - 1).toNat))) + (costF (at_ a i.toNat) (at_ b j.toNat))))))]) rfl (⟨.inl rfl, .inl rfl, .inl rfl, .inl rfl, .inl rfl, .inl rfl, .inl rfl, .inl rfl, trivial⟩) (⟨.inr ⟨rfl, (by first | rfl | (simp; done) | (simp; omega) | omega), fun i_ hi_ => .inl (upd_enc (enc := cI) rfl i_ hi_)⟩, trivial⟩) ?_
          refine x_r [] [0, 1, 2, 7, 8, 9, 10, 11] [20] [slFeat false a, slFeat false b, I band, I (a.length : Int), I (b.length : Int), .arr 20, I i, I (j + 1)] [some (.arr 1 ((fl'.set (((i * (b.length : Int)) + j).toNat) ((min (min (min 0 (at_ fl' (((((i - 1) * (b.length : Int)) + j) - 1).toNat))) (at_ fl' ((((i - 1) * (b.length : Int)) + j).toNat))) (at_ fl' ((((i * (b.length : Int)) + j) - 1).toNat))) + (costF (at_ a i.toNat) (at_ b j.toNat)))).length) (fI (fl'.set (((i * (b.length : Int)) + j).toNat) ((min (min (min 0 (at_ fl' (((((i - 1) * (b.length : Int)) + j) - 1).toNat))) (at_ fl' ((((i - 1) * (b.length : Int)) + j).toNat))) (at_ fl' ((((i * (b.length : Int)) + j) - 1).toNat))) + (costF (at_ a i.toNat) (at_ b j.toNat))))))] [inR .i64 (j + 1)] ⟨(inR_i64 (by omega) (by omega)), trivial⟩ ?_
          exact xe_again ((j + 1), (fl'.set (((i * (b.length : Int)) + j).toNat) ((min (min (min 0 (at_ fl' (((((i - 1) * (b.length : Int)) + j) - 1).toNat))) (at_ fl' ((((i - 1) * (b.length : Int)) + j).toNat))) (at_ fl' ((((i * (b.length : Int)) + j) - 1).toNat))) + (costF (at_ a i.toNat) (at_ b j.toNat))))) rfl (show (0 ≤ (j + 1) ∧ (j + 1) ≤ (b.length : Int)) ∧ (flOk a b band (fl'.set (((i * (b.length : Int)) + j).toNat) ((min (min (min 0 (at_ fl' (((((i - 1) * (b.length : Int)) + j) - 1).toNat))) (at_ fl' ((((i - 1) * (b.length : Int)) + j).toNat))) (at_ fl' ((((i * (b.length : Int)) + j) - 1).toNat))) + (costF (at_ a i.toNat) (at_ b j.toNat)))) (i.toNat * b.length + (j + 1).toNat)) ∧ True from ⟨(by omega), (by rw [show (j + 1).toNat = j.toNat + 1 from by omega]; exact fl_step hin hi hj hka (by rw [hsb.2]; unfold sb3 sb2 sb1 sb0; (repeat' split) <;> omega)), trivial⟩) (by first | (show (((b.length : Int) - (j + 1)).toNat : Nat) < ((b.length : Int) - j).toNat; omega) | (dsimp only; omega))
         refine x_r [(1, .dec true), (4, .dec false)] [0, 1, 2, 7, 8, 9, 10, 11, 12, 42] [20] [slFeat false a, slFeat false b, I band, I (a.length : Int), I (b.length : Int), .arr 20, I i, I j, I 0, Bv false] [some (.arr 1 fl'.length (fI fl'))] [0 < i, ¬ (0 < j)] ⟨h5, h6, trivial⟩ ?_
         refine xe_then ?_
         refine x_false rfl ?_
         refine x_skip ?_
         refine xe_then ?_
         refine x_seq ?_
         refine xR [(1, .dec true)] [0, 1, 2, 7, 8, 9, 10, 11, 12, 56] [20] [slFeat false a, slFeat false b, I band, I (a.length : Int), I (b.length : Int), .arr 20, I i, I j, I 0, Bv true] [some (.arr 1 fl'.length (fI fl'))] [0 < i] ⟨h5, trivial⟩ ?_
         refine x_true rfl ?_
         refine x_r [(10, .call [(true, .any), (true, .any)] true (I (min 0 (at_ fl' ((((i - 1) * (b.length : Int)) + j).toNat)))))] [0, 1, 2, 7, 8, 9, 10, 11, 12] [20] [slFeat false a, slFeat false b, I band, I (a.length : Int), I (b.length : Int), .arr 20, I i, I j, I (min 0 (at_ fl' ((((i - 1) * (b.length : Int)) + j).toNat)))] [some (.arr 1 fl'.length (fI fl'))] [inR .i64 (i - 1), inR .i64 ((i - 1) * (b.length : Int)), inR .i64 (((i - 1) * (b.length : Int)) + j), (0 : Int) ≤ (((i - 1) * (b.length : Int)) + j) ∧ (((i - 1) * (b.length : Int)) + j) < (fl'.length : Int), (((i - 1) * (b.length : Int)) + j).toNat < fl'.length, Con Try.prog 42 [I 0, I (at_ fl' ((((i - 1) * (b.length : Int)) + j).toNat))] true (I (min 0 (at_ fl' ((((i - 1) * (b.length : Int)) + j).toNat)))) ∧ True] ⟨(inR_i64 (by omega) (by omega)), (inR_i64 (by omega) (by omega)), (inR_i64 (by omega) (by omega)), ⟨(by omega), (by omega)⟩, (by omega), ⟨(l00Min_ok 0 (at_ fl' ((((i - 1) * (b.length : Int)) + j).toNat))), trivial⟩, trivial⟩ ?_
         refine xe_then ?_
         refine x_seq ?_
         refine xR [(1, .dec false)] [0, 1, 2, 7, 8, 9, 10, 11, 12, 69] [20] [slFeat false a, slFeat false b, I band, I (a.length : Int), I (b.length : Int), .arr 20, I i, I j, I (min 0 (at_ fl' ((((i - 1) * (b.length : Int)) + j).toNat))), Bv false] [some (.arr 1 fl'.length (fI fl'))] [¬ (0 < j)] ⟨h6, trivial⟩ ?_
         refine x_false rfl ?_
         refine x_skip ?_
         refine xe_then ?_
         refine x_seq ?_
         by_cases h9 : (min 0 (at_ fl' ((((i - 1) * (b.length : Int)) + j).toNat))) = 1000000000
         ·refine x_r [(1, .dec true)] [0, 1, 2, 7, 8, 9, 10, 11, 12, 90] [20] [slFeat false a, slFeat false b, I band, I (a.length : Int), I (b.length : Int), .arr 20, I i, I j, I (min 0 (at_ fl' ((((i - 1) * (b.length : Int)) + j).toNat))), Bv true] [some (.arr 1 fl'.length (fI fl'))] [(min 0 (at_ fl' ((((i - 1) * (b.length : Int)) + j).toNat))) = 1000000000] ⟨h9, trivial⟩ ?_
          refine xe_then ?_
          refine x_true rfl ?_
          refine x_r [] [0, 1, 2, 7, 8, 9, 10, 11] [20] [slFeat false a, slFeat false b, I band, I (a.length : Int), I (b.length : Int), .arr 20, I i, I j] [some (.arr 1 fl'.length (fun q => bif Nat.beq q (((i * (b.length : Int)) + j).toNat) then [I 1000000000] else (fI fl') q))] [inR .i64 (i * (b.length : Int)), inR .i64 ((i * (b.length : Int)) + j), (0 : Int) ≤ ((i * (b.length : Int)) + j) ∧ ((i * (b.length : Int)) + j) < (fl'.length : Int), ((i * (b.length : Int)) + j).toNat < fl'.length] ⟨(inR_i64 (by omega) (by omega)), (inR_i64 (by omega) (by omega)), ⟨(by omega), (by omega)⟩, (by omega), trivial⟩ ?_
          refine xe_block 3 ?_
          refine xe_then ?_
          refine x_weak [] (T := [(0, slFeat false a), (1, slFeat false b), (2, I band), (7, I (a.length : Int)), (8, I (b.length : Int)), (9, .arr 20), (10, I i), (11, I j)]) (O := [(20, .arr 1 ((fl'.set (((i * (b.length : Int)) + j).toNat) 1000000000).length) (fI (fl'.set (((i * (b.length : Int)) + j).toNat) 1000000000)))]) rfl (⟨.inl rfl, .inl rfl, .inl rfl, .inl rfl, .inl rfl, .inl rfl, .inl rfl, .inl rfl, trivial⟩) (⟨.inr ⟨rfl, (by first | rfl | (simp; done) | (simp; omega) | omega), fun i_ hi_ => .inl (upd_enc (enc := cI) rfl i_ hi_)⟩, trivial⟩) ?_
          refine x_r [] [0, 1, 2, 7, 8, 9, 10, 11] [20] [slFeat false a, slFeat false b, I band, I (a.length : Int), I (b.length : Int), .arr 20, I i, I (j + 1)] [some (.arr 1 ((fl'.set (((i * (b.length : Int)) + j).toNat) 1000000000).length) (fI (fl'.set (((i * (b.length : Int)) + j).toNat) 1000000000)))] [inR .i64 (j + 1)] ⟨(inR_i64 (by omega) (by omega)), trivial⟩ ?_
          exact xe_again ((j + 1), (fl'.set (((i * (b.length : Int)) + j).toNat) 1000000000)) rfl (show (0 ≤ (j + 1) ∧ (j + 1) ≤ (b.length : Int)) ∧ (flOk a b band (fl'.set (((i * (b.length : Int)) + j).toNat) 1000000000) (i.toNat * b.length + (j + 1).toNat)) ∧ True from ⟨(by omega), (by rw [show (j + 1).toNat = j.toNat + 1 from by omega]; exact fl_step hin hi hj hka (by rw [hsb.2]; unfold sb3 sb2 sb1 sb0; (repeat' split) <;> omega)), trivial⟩) (by first | (show (((b.length : Int) - (j + 1)).toNat : Nat) < ((b.length : Int) - j).toNat; omega) | (dsimp only; omega))
         by_cases h10 : band < ((i - j).natAbs : Int)
         ·refine x_r [(1, .dec false), (6, .call [(true, .any)] true (I ((i - j).natAbs : Int))), (8, .dec true)] [0, 1, 2, 7, 8, 9, 10, 11, 12, 90] [20] [slFeat false a, slFeat false b, I band, I (a.length : Int), I (b.length : Int), .arr 20, I i, I j, I (min 0 (at_ fl' ((((i - 1) * (b.length : Int)) + j).toNat))), Bv true] [some (.arr 1 fl'.length (fI fl'))] [¬ ((min 0 (at_ fl' ((((i - 1) * (b.length : Int)) + j).toNat))) = 1000000000), inR .i64 (i - j), Con Try.prog 53 [I (i - j)] true (I ((i - j).natAbs : Int)) ∧ True, band < ((i - j).natAbs : Int)] ⟨h9, (inR_i64 (by omega) (by omega)), ⟨(l09Size_ok (i - j) (by omega)), trivial⟩, h10, trivial⟩ ?_
          refine xe_then ?_
          refine x_true rfl ?_
          refine x_r [] [0, 1, 2, 7, 8, 9, 10, 11] [20] [slFeat false a, slFeat false b, I band, I (a.length : Int), I (b.length : Int), .arr 20, I i, I j] [some (.arr 1 fl'.length (fun q => bif Nat.beq q (((i * (b.length : Int)) + j).toNat) then [I 1000000000] else (fI fl') q))] [inR .i64 (i * (b.length : Int)), inR .i64 ((i * (b.length : Int)) + j), (0 : Int) ≤ ((i * (b.length : Int)) + j) ∧ ((i * (b.length : Int)) + j) < (fl'.length : Int), ((i * (b.length : Int)) + j).toNat < fl'.length] ⟨(inR_i64 (by omega) (by omega)), (inR_i64 (by omega) (by omega)), ⟨(by omega), (by omega)⟩, (by omega), trivial⟩ ?_
          refine xe_block 3 ?_
          refine xe_then ?_
          refine x_weak [] (T := [(0, slFeat false a), (1, slFeat false b), (2, I band), (7, I (a.length : Int)), (8, I (b.length : Int)), (9, .arr 20), (10, I i), (11, I j)]) (O := [(20, .arr 1 ((fl'.set (((i * (b.length : Int)) + j).toNat) 1000000000).length) (fI (fl'.set (((i * (b.length : Int)) + j).toNat) 1000000000)))]) rfl (⟨.inl rfl, .inl rfl, .inl rfl, .inl rfl, .inl rfl, .inl rfl, .inl rfl, .inl rfl, trivial⟩) (⟨.inr ⟨rfl, (by first | rfl | (simp; done) | (simp; omega) | omega), fun i_ hi_ => .inl (upd_enc (enc := cI) rfl i_ hi_)⟩, trivial⟩) ?_
          refine x_r [] [0, 1, 2, 7, 8, 9, 10, 11] [20] [slFeat false a, slFeat false b, I band, I (a.length : Int), I (b.length : Int), .arr 20, I i, I (j + 1)] [some (.arr 1 ((fl'.set (((i * (b.length : Int)) + j).toNat) 1000000000).length) (fI (fl'.set (((i * (b.length : Int)) + j).toNat) 1000000000)))] [inR .i64 (j + 1)] ⟨(inR_i64 (by omega) (by omega)), trivial⟩ ?_
          exact xe_again ((j + 1), (fl'.set (((i * (b.length : Int)) + j).toNat) 1000000000)) rfl (show (0 ≤ (j + 1) ∧ (j + 1) ≤ (b.length : Int)) ∧ (flOk a b band (fl'.set (((i * (b.length : Int)) + j).toNat) 1000000000) (i.toNat * b.length + (j + 1).toNat)) ∧ True from ⟨(by omega), (by rw [show (j + 1).toNat = j.toNat + 1 from by omega]; exact fl_step hin hi hj hka (by rw [hsb.2]; unfold sb3 sb2 sb1 sb0; (repeat' split) <;> omega)), trivial⟩) (by first | (show (((b.length : Int) - (j + 1)).toNat : Nat) < ((b.length : Int) - j).toNat; omega) | (dsimp only; omega))
         refine x_r [(1, .dec false), (6, .call [(true, .any)] true (I ((i - j).natAbs : Int))), (8, .dec false)] [0, 1, 2, 7, 8, 9, 10, 11, 12, 90] [20] [slFeat false a, slFeat false b, I band, I (a.length : Int), I (b.length : Int), .arr 20, I i, I j, I (min 0 (at_ fl' ((((i - 1) * (b.length : Int)) + j).toNat))), Bv false] [some (.arr 1 fl'.length (fI fl'))] [¬ ((min 0 (at_ fl' ((((i - 1) * (b.length : Int)) + j).toNat))) = 1000000000), inR .i64 (i - j), Con Try.prog 53 [I (i - j)] true (I ((i - j).natAbs : Int)) ∧ True, ¬ (band < ((i - j).natAbs : Int))] ⟨h9, (inR_i64 (by omega) (by omega)), ⟨(l09Size_ok (i - j) (by omega)), trivial⟩, h10, trivial⟩ ?_
         refine xe_then ?_
         refine x_false rfl ?_
         refine x_r [(15, .call [(true, .any), (true, .any)] true (I (costF (at_ a i.toNat) (at_ b j.toNat))))] [0, 1, 2, 7, 8, 9, 10, 11] [20] [slFeat false a, slFeat false b, I band, I (a.length : Int), I (b.length : Int), .arr 20, I i, I j] [some (.arr 1 fl'.length (fun q => bif Nat.beq q (((i * (b.length : Int)) + j).toNat) then [I ((min 0 (at_ fl' ((((i - 1) * (b.length : Int)) + j).toNat))) + (costF (at_ a i.toNat) (at_ b j.toNat)))] else (fI fl') q))] [inR .i64 (i * (b.length : Int)), inR .i64 ((i * (b.length : Int)) + j), (0 : Int) ≤ i ∧ i < (a.length : Int), (0 : Int) ≤ j ∧ j < (b.length : Int), Con Try.prog 79 [agFeat (at_ a i.toNat), agFeat (at_ b j.toNat)] true (I (costF (at_ a i.toNat) (at_ b j.toNat))) ∧ True, inR .i64 ((min 0 (at_ fl' ((((i - 1) * (b.length : Int)) + j).toNat))) + (costF (at_ a i.toNat) (at_ b j.toNat))), (0 : Int) ≤ ((i * (b.length : Int)) + j) ∧ ((i * (b.length : Int)) + j) < (fl'.length : Int), ((i * (b.length : Int)) + j).toNat < fl'.length] ⟨(inR_i64 (by omega) (by omega)), (inR_i64 (by omega) (by omega)), ⟨(by omega), (by omega)⟩, ⟨(by omega), (by omega)⟩, ⟨(l09Cost_ok (at_ a i.toNat) (at_ b j.toNat) (by first | exact hab.1 _ (by omega) | exact hab.2.1 _ (by omega)) (by first | exact hab.1 _ (by omega) | exact hab.2.1 _ (by omega))), trivial⟩, (inR_i64 (by omega) (by omega)), ⟨(by omega), (by omega)⟩, (by omega), trivial⟩ ?_
         refine xe_block 3 ?_
         refine xe_then ?_
         refine x_weak [] (T := [(0, slFeat false a), (1, slFeat false b), (2, I band), (7, I (a.length : Int)), (8, I (b.length : Int)), (9, .arr 20), (10, I i), (11, I j)]) (O := [(20, .arr 1 ((fl'.set (((i * (b.length : Int)) + j).toNat) ((min 0 (at_ fl' ((((i - 1) * (b.length : Int)) + j).toNat))) + (costF (at_ a i.toNat) (at_ b j.toNat)))).length) (fI (fl'.set (((i * (b.length : Int)) + j).toNat) ((min 0 (at_ fl' ((((i - 1) * (b.length : Int)) + j).toNat))) + (costF (at_ a i.toNat) (at_ b j.toNat))))))]) rfl (⟨.inl rfl, .inl rfl, .inl rfl, .inl rfl, .inl rfl, .inl rfl, .inl rfl, .inl rfl, trivial⟩) (⟨.inr ⟨rfl, (by first | rfl | (simp; done) | (simp; omega) | omega), fun i_ hi_ => .inl (upd_enc (enc := cI) rfl i_ hi_)⟩, trivial⟩) ?_
         refine x_r [] [0, 1, 2, 7, 8, 9, 10, 11] [20] [slFeat false a, slFeat false b, I band, I (a.length : Int), I (b.length : Int), .arr 20, I i, I (j + 1)] [some (.arr 1 ((fl'.set (((i * (b.length : Int)) + j).toNat) ((min 0 (at_ fl' ((((i - 1) * (b.length : Int)) + j).toNat))) + (costF (at_ a i.toNat) (at_ b j.toNat)))).length) (fI (fl'.set (((i * (b.length : Int)) + j).toNat) ((min 0 (at_ fl' ((((i - 1) * (b.length : Int)) + j).toNat))) + (costF (at_ a i.toNat) (at_ b j.toNat))))))] [inR .i64 (j + 1)] ⟨(inR_i64 (by omega) (by omega)), trivial⟩ ?_
         exact xe_again ((j + 1), (fl'.set (((i * (b.length : Int)) + j).toNat) ((min 0 (at_ fl' ((((i - 1) * (b.length : Int)) + j).toNat))) + (costF (at_ a i.toNat) (at_ b j.toNat))))) rfl (show (0 ≤ (j + 1) ∧ (j + 1) ≤ (b.length : Int)) ∧ (flOk a b band (fl'.set (((i * (b.length : Int)) + j).toNat) ((min 0 (at_ fl' ((((i - 1) * (b.length : Int)) + j).toNat))) + (costF (at_ a i.toNat) (at_ b j.toNat)))) (i.toNat * b.length + (j + 1).toNat)) ∧ True from ⟨(by omega), (by rw [show (j + 1).toNat = j.toNat + 1 from by omega]; exact fl_step hin hi hj hka (by rw [hsb.2]; unfold sb3 sb2 sb1 sb0; (repeat' split) <;> omega)), trivial⟩) (by first | (show (((b.length : Int) - (j + 1)).toNat : Nat) < ((b.length : Int) - j).toNat; omega) | (dsimp only; omega))
        refine x_r [(1, .dec false)] [0, 1, 2, 7, 8, 9, 10, 11, 12, 42] [20] [slFeat false a, slFeat false b, I band, I (a.length : Int), I (b.length : Int), .arr 20, I i, I j, I 0, Bv false] [some (.arr 1 fl'.length (fI fl'))] [¬ (0 < i)] ⟨h5, trivial⟩ ?_
        refine xe_then ?_
        refine x_false rfl ?_
        refine x_skip ?_
        refine xe_then ?_
        refine x_seq ?_
        refine xR [(1, .dec false)] [0, 1, 2, 7, 8, 9, 10, 11, 12, 56] [20] [slFeat false a, slFeat false b, I band, I (a.length : Int), I (b.length : Int), .arr 20, I i, I j, I 0, Bv false] [some (.arr 1 fl'.length (fI fl'))] [¬ (0 < i)] ⟨h5, trivial⟩ ?_
        refine x_false rfl ?_
        refine x_skip ?_
        refine xe_then ?_
        refine x_seq ?_
        refine x_seq ?_
        by_cases h11 : 0 < j
        ·refine x_r [(1, .dec true)] [0, 1, 2, 7, 8, 9, 10, 11, 12, 69] [20] [slFeat false a, slFeat false b, I band, I (a.length : Int), I (b.length : Int), .arr 20, I i, I j, I 0, Bv true] [some (.arr 1 fl'.length (fI fl'))] [0 < j] ⟨h11, trivial⟩ ?_
         refine xe_then ?_
         refine x_true rfl ?_
         refine x_r [(10, .call [(true, .any), (true, .any)] true (I (min 0 (at_ fl' ((((i * (b.length : Int)) + j) - 1).toNat)))))] [0, 1, 2, 7, 8, 9, 10, 11, 12] [20] [slFeat false a, slFeat false b, I band, I (a.length : Int), I (b.length : Int), .arr 20, I i, I j, I (min 0 (at_ fl' ((((i * (b.length : Int)) + j) - 1).toNat)))] [some (.arr 1 fl'.length (fI fl'))] [inR .i64 (i * (b.length : Int)), inR .i64 ((i * (b.length : Int)) + j), inR .i64 (((i * (b.length : Int)) + j) - 1), (0 : Int) ≤ (((i * (b.length : Int)) + j) - 1) ∧ (((i * (b.length : Int)) + j) - 1) < (fl'.length : Int), (((i * (b.length : Int)) + j) - 1).toNat < fl'.length, Con Try.prog 42 [I 0, I (at_ fl' ((((i * (b.length : Int)) + j) - 1).toNat))] true (I (min 0 (at_ fl' ((((i * (b.length : Int)) + j) - 1).toNat)))) ∧ True] ⟨(inR_i64 (by omega) (by omega)), (inR_i64 (by omega) (by omega)), (inR_i64 (by omega) (by omega)), ⟨(by omega), (by omega)⟩, (by omega), ⟨(l00Min_ok 0 (at_ fl' ((((i * (b.length : Int)) + j) - 1).toNat))), trivial⟩, trivial⟩ ?_
         refine xe_then ?_
         refine x_seq ?_
         by_cases h12 : (min 0 (at_ fl' ((((i * (b.length : Int)) + j) - 1).toNat))) = 1000000000
         ·refine x_r [(1, .dec true)] [0, 1, 2, 7, 8, 9, 10, 11, 12, 90] [20] [slFeat false a, slFeat false b, I band, I (a.length : Int), I (b.length : Int), .arr 20, I i, I j, I (min 0 (at_ fl' ((((i * (b.length : Int)) + j) - 1).toNat))), Bv true] [some (.arr 1 fl'.length (fI fl'))] [(min 0 (at_ fl' ((((i * (b.length : Int)) + j) - 1).toNat))) = 1000000000] ⟨h12, trivial⟩ ?_
          refine xe_then ?_
          refine x_true rfl ?_
          refine x_r [] [0, 1, 2, 7, 8, 9, 10, 11] [20] [slFeat false a, slFeat false b, I band, I (a.length : Int), I (b.length : Int), .arr 20, I i, I j] [some (.arr 1 fl'.length (fun q => bif Nat.beq q (((i * (b.length : Int)) + j).toNat) then [I 1000000000] else (fI fl') q))] [inR .i64 (i * (b.length : Int)), inR .i64 ((i * (b.length : Int)) + j), (0 : Int) ≤ ((i * (b.length : Int)) + j) ∧ ((i * (b.length : Int)) + j) < (fl'.length : Int), ((i * (b.length : Int)) + j).toNat < fl'.length] ⟨(inR_i64 (by omega) (by omega)), (inR_i64 (by omega) (by omega)), ⟨(by omega), (by omega)⟩, (by omega), trivial⟩ ?_
          refine xe_block 3 ?_
          refine xe_then ?_
          refine x_weak [] (T := [(0, slFeat false a), (1, slFeat false b), (2, I band), (7, I (a.length : Int)), (8, I (b.length : Int)), (9, .arr 20), (10, I i), (11, I j)]) (O := [(20, .arr 1 ((fl'.set (((i * (b.length : Int)) + j).toNat) 1000000000).length) (fI (fl'.set (((i * (b.length : Int)) + j).toNat) 1000000000)))]) rfl (⟨.inl rfl, .inl rfl, .inl rfl, .inl rfl, .inl rfl, .inl rfl, .inl rfl, .inl rfl, trivial⟩) (⟨.inr ⟨rfl, (by first | rfl | (simp; done) | (simp; omega) | omega), fun i_ hi_ => .inl (upd_enc (enc := cI) rfl i_ hi_)⟩, trivial⟩) ?_
          refine x_r [] [0, 1, 2, 7, 8, 9, 10, 11] [20] [slFeat false a, slFeat false b, I band, I (a.length : Int), I (b.length : Int), .arr 20, I i, I (j + 1)] [some (.arr 1 ((fl'.set (((i * (b.length : Int)) + j).toNat) 1000000000).length) (fI (fl'.set (((i * (b.length : Int)) + j).toNat) 1000000000)))] [inR .i64 (j + 1)] ⟨(inR_i64 (by omega) (by omega)), trivial⟩ ?_
          exact xe_again ((j + 1), (fl'.set (((i * (b.length : Int)) + j).toNat) 1000000000)) rfl (show (0 ≤ (j + 1) ∧ (j + 1) ≤ (b.length : Int)) ∧ (flOk a b band (fl'.set (((i * (b.length : Int)) + j).toNat) 1000000000) (i.toNat * b.length + (j + 1).toNat)) ∧ True from ⟨(by omega), (by rw [show (j + 1).toNat = j.toNat + 1 from by omega]; exact fl_step hin hi hj hka (by rw [hsb.2]; unfold sb3 sb2 sb1 sb0; (repeat' split) <;> omega)), trivial⟩) (by first | (show (((b.length : Int) - (j + 1)).toNat : Nat) < ((b.length : Int) - j).toNat; omega) | (dsimp only; omega))
         by_cases h13 : band < ((i - j).natAbs : Int)
         ·refine x_r [(1, .dec false), (6, .call [(true, .any)] true (I ((i - j).natAbs : Int))), (8, .dec true)] [0, 1, 2, 7, 8, 9, 10, 11, 12, 90] [20] [slFeat false a, slFeat false b, I band, I (a.length : Int), I (b.length : Int), .arr 20, I i, I j, I (min 0 (at_ fl' ((((i * (b.length : Int)) + j) - 1).toNat))), Bv true] [some (.arr 1 fl'.length (fI fl'))] [¬ ((min 0 (at_ fl' ((((i * (b.length : Int)) + j) - 1).toNat))) = 1000000000), inR .i64 (i - j), Con Try.prog 53 [I (i - j)] true (I ((i - j).natAbs : Int)) ∧ True, band < ((i - j).natAbs : Int)] ⟨h12, (inR_i64 (by omega) (by omega)), ⟨(l09Size_ok (i - j) (by omega)), trivial⟩, h13, trivial⟩ ?_
          refine xe_then ?_
          refine x_true rfl ?_
          refine x_r [] [0, 1, 2, 7, 8, 9, 10, 11] [20] [slFeat false a, slFeat false b, I band, I (a.length : Int), I (b.length : Int), .arr 20, I i, I j] [some (.arr 1 fl'.length (fun q => bif Nat.beq q (((i * (b.length : Int)) + j).toNat) then [I 1000000000] else (fI fl') q))] [inR .i64 (i * (b.length : Int)), inR .i64 ((i * (b.length : Int)) + j), (0 : Int) ≤ ((i * (b.length : Int)) + j) ∧ ((i * (b.length : Int)) + j) < (fl'.length : Int), ((i * (b.length : Int)) + j).toNat < fl'.length] ⟨(inR_i64 (by omega) (by omega)), (inR_i64 (by omega) (by omega)), ⟨(by omega), (by omega)⟩, (by omega), trivial⟩ ?_
          refine xe_block 3 ?_
          refine xe_then ?_
          refine x_weak [] (T := [(0, slFeat false a), (1, slFeat false b), (2, I band), (7, I (a.length : Int)), (8, I (b.length : Int)), (9, .arr 20), (10, I i), (11, I j)]) (O := [(20, .arr 1 ((fl'.set (((i * (b.length : Int)) + j).toNat) 1000000000).length) (fI (fl'.set (((i * (b.length : Int)) + j).toNat) 1000000000)))]) rfl (⟨.inl rfl, .inl rfl, .inl rfl, .inl rfl, .inl rfl, .inl rfl, .inl rfl, .inl rfl, trivial⟩) (⟨.inr ⟨rfl, (by first | rfl | (simp; done) | (simp; omega) | omega), fun i_ hi_ => .inl (upd_enc (enc := cI) rfl i_ hi_)⟩, trivial⟩) ?_
          refine x_r [] [0, 1, 2, 7, 8, 9, 10, 11] [20] [slFeat false a, slFeat false b, I band, I (a.length : Int), I (b.length : Int), .arr 20, I i, I (j + 1)] [some (.arr 1 ((fl'.set (((i * (b.length : Int)) + j).toNat) 1000000000).length) (fI (fl'.set (((i * (b.length : Int)) + j).toNat) 1000000000)))] [inR .i64 (j + 1)] ⟨(inR_i64 (by omega) (by omega)), trivial⟩ ?_
          exact xe_again ((j + 1), (fl'.set (((i * (b.length : Int)) + j).toNat) 1000000000)) rfl (show (0 ≤ (j + 1) ∧ (j + 1) ≤ (b.length : Int)) ∧ (flOk a b band (fl'.set (((i * (b.length : Int)) + j).toNat) 1000000000) (i.toNat * b.length + (j + 1).toNat)) ∧ True from ⟨(by omega), (by rw [show (j + 1).toNat = j.toNat + 1 from by omega]; exact fl_step hin hi hj hka (by rw [hsb.2]; unfold sb3 sb2 sb1 sb0; (repeat' split) <;> omega)), trivial⟩) (by first | (show (((b.length : Int) - (j + 1)).toNat : Nat) < ((b.length : Int) - j).toNat; omega) | (dsimp only; omega))
         refine x_r [(1, .dec false), (6, .call [(true, .any)] true (I ((i - j).natAbs : Int))), (8, .dec false)] [0, 1, 2, 7, 8, 9, 10, 11, 12, 90] [20] [slFeat false a, slFeat false b, I band, I (a.length : Int), I (b.length : Int), .arr 20, I i, I j, I (min 0 (at_ fl' ((((i * (b.length : Int)) + j) - 1).toNat))), Bv false] [some (.arr 1 fl'.length (fI fl'))] [¬ ((min 0 (at_ fl' ((((i * (b.length : Int)) + j) - 1).toNat))) = 1000000000), inR .i64 (i - j), Con Try.prog 53 [I (i - j)] true (I ((i - j).natAbs : Int)) ∧ True, ¬ (band < ((i - j).natAbs : Int))] ⟨h12, (inR_i64 (by omega) (by omega)), ⟨(l09Size_ok (i - j) (by omega)), trivial⟩, h13, trivial⟩ ?_
         refine xe_then ?_
         refine x_false rfl ?_
         refine x_r [(15, .call [(true, .any), (true, .any)] true (I (costF (at_ a i.toNat) (at_ b j.toNat))))] [0, 1, 2, 7, 8, 9, 10, 11] [20] [slFeat false a, slFeat false b, I band, I (a.length : Int), I (b.length : Int), .arr 20, I i, I j] [some (.arr 1 fl'.length (fun q => bif Nat.beq q (((i * (b.length : Int)) + j).toNat) then [I ((min 0 (at_ fl' ((((i * (b.length : Int)) + j) - 1).toNat))) + (costF (at_ a i.toNat) (at_ b j.toNat)))] else (fI fl') q))] [inR .i64 (i * (b.length : Int)), inR .i64 ((i * (b.length : Int)) + j), (0 : Int) ≤ i ∧ i < (a.length : Int), (0 : Int) ≤ j ∧ j < (b.length : Int), Con Try.prog 79 [agFeat (at_ a i.toNat), agFeat (at_ b j.toNat)] true (I (costF (at_ a i.toNat) (at_ b j.toNat))) ∧ True, inR .i64 ((min 0 (at_ fl' ((((i * (b.length : Int)) + j) - 1).toNat))) + (costF (at_ a i.toNat) (at_ b j.toNat))), (0 : Int) ≤ ((i * (b.length : Int)) + j) ∧ ((i * (b.length : Int)) + j) < (fl'.length : Int), ((i * (b.length : Int)) + j).toNat < fl'.length] ⟨(inR_i64 (by omega) (by omega)), (inR_i64 (by omega) (by omega)), ⟨(by omega), (by omega)⟩, ⟨(by omega), (by omega)⟩, ⟨(l09Cost_ok (at_ a i.toNat) (at_ b j.toNat) (by first | exact hab.1 _ (by omega) | exact hab.2.1 _ (by omega)) (by first | exact hab.1 _ (by omega) | exact hab.2.1 _ (by omega))), trivial⟩, (inR_i64 (by omega) (by omega)), ⟨(by omega), (by omega)⟩, (by omega), trivial⟩ ?_
         refine xe_block 3 ?_
         refine xe_then ?_
         refine x_weak [] (T := [(0, slFeat false a), (1, slFeat false b), (2, I band), (7, I (a.length : Int)), (8, I (b.length : Int)), (9, .arr 20), (10, I i), (11, I j)]) (O := [(20, .arr 1 ((fl'.set (((i * (b.length : Int)) + j).toNat) ((min 0 (at_ fl' ((((i * (b.length : Int)) + j) - 1).toNat))) + (costF (at_ a i.toNat) (at_ b j.toNat)))).length) (fI (fl'.set (((i * (b.length : Int)) + j).toNat) ((min 0 (at_ fl' ((((i * (b.length : Int)) + j) - 1).toNat))) + (costF (at_ a i.toNat) (at_ b j.toNat))))))]) rfl (⟨.inl rfl, .inl rfl, .inl rfl, .inl rfl, .inl rfl, .inl rfl, .inl rfl, .inl rfl, trivial⟩) (⟨.inr ⟨rfl, (by first | rfl | (simp; done) | (simp; omega) | omega), fun i_ hi_ => .inl (upd_enc (enc := cI) rfl i_ hi_)⟩, trivial⟩) ?_
         refine x_r [] [0, 1, 2, 7, 8, 9, 10, 11] [20] [slFeat false a, slFeat false b, I band, I (a.length : Int), I (b.length : Int), .arr 20, I i, I (j + 1)] [some (.arr 1 ((fl'.set (((i * (b.length : Int)) + j).toNat) ((min 0 (at_ fl' ((((i * (b.length : Int)) + j) - 1).toNat))) + (costF (at_ a i.toNat) (at_ b j.toNat)))).length) (fI (fl'.set (((i * (b.length : Int)) + j).toNat) ((min 0 (at_ fl' ((((i * (b.length : Int)) + j) - 1).toNat))) + (costF (at_ a i.toNat) (at_ b j.toNat))))))] [inR .i64 (j + 1)] ⟨(inR_i64 (by omega) (by omega)), trivial⟩ ?_
         exact xe_again ((j + 1), (fl'.set (((i * (b.length : Int)) + j).toNat) ((min 0 (at_ fl' ((((i * (b.length : Int)) + j) - 1).toNat))) + (costF (at_ a i.toNat) (at_ b j.toNat))))) rfl (show (0 ≤ (j + 1) ∧ (j + 1) ≤ (b.length : Int)) ∧ (flOk a b band (fl'.set (((i * (b.length : Int)) + j).toNat) ((min 0 (at_ fl' ((((i * (b.length : Int)) + j) - 1).toNat))) + (costF (at_ a i.toNat) (at_ b j.toNat)))) (i.toNat * b.length + (j + 1).toNat)) ∧ True from ⟨(by omega), (by rw [show (j + 1).toNat = j.toNat + 1 from by omega]; exact fl_step hin hi hj hka (by rw [hsb.2]; unfold sb3 sb2 sb1 sb0; (repeat' split) <;> omega)), trivial⟩) (by first | (show (((b.length : Int) - (j + 1)).toNat : Nat) < ((b.length : Int) - j).toNat; omega) | (dsimp only; omega))
        refine x_r [(1, .dec false)] [0, 1, 2, 7, 8, 9, 10, 11, 12, 69] [20] [slFeat false a, slFeat false b, I band, I (a.length : Int), I (b.length : Int), .arr 20, I i, I j, I 0, Bv false] [some (.arr 1 fl'.length (fI fl'))] [¬ (0 < j)] ⟨h11, trivial⟩ ?_
        refine xe_then ?_
        refine x_false rfl ?_
        refine x_skip ?_
        refine xe_then ?_
        refine x_seq ?_
        by_cases h14 : band < ((i - j).natAbs : Int)
        ·refine x_r [(1, .dec false), (6, .call [(true, .any)] true (I ((i - j).natAbs : Int))), (8, .dec true)] [0, 1, 2, 7, 8, 9, 10, 11, 12, 90] [20] [slFeat false a, slFeat false b, I band, I (a.length : Int), I (b.length : Int), .arr 20, I i, I j, I 0, Bv true] [some (.arr 1 fl'.length (fI fl'))] [¬ ((0 : Int) = 1000000000), inR .i64 (i - j), Con Try.prog 53 [I (i - j)] true (I ((i - j).natAbs : Int)) ∧ True, band < ((i - j).natAbs : Int)] ⟨(by decide), (inR_i64 (by omega) (by omega)), ⟨(l09Size_ok (i - j) (by omega)), trivial⟩, h14, trivial⟩ ?_
         refine xe_then ?_
         refine x_true rfl ?_
         refine x_r [] [0, 1, 2, 7, 8, 9, 10, 11] [20] [slFeat false a, slFeat false b, I band, I (a.length : Int), I (b.length : Int), .arr 20, I i, I j] [some (.arr 1 fl'.length (fun q => bif Nat.beq q (((i * (b.length : Int)) + j).toNat) then [I 1000000000] else (fI fl') q))] [inR .i64 (i * (b.length : Int)), inR .i64 ((i * (b.length : Int)) + j), (0 : Int) ≤ ((i * (b.length : Int)) + j) ∧ ((i * (b.length : Int)) + j) < (fl'.length : Int), ((i * (b.length : Int)) + j).toNat < fl'.length] ⟨(inR_i64 (by omega) (by omega)), (inR_i64 (by omega) (by omega)), ⟨(by omega), (by omega)⟩, (by omega), trivial⟩ ?_
         refine xe_block 3 ?_
         refine xe_then ?_
         refine x_weak [] (T := [(0, slFeat false a), (1, slFeat false b), (2, I band), (7, I (a.length : Int)), (8, I (b.length : Int)), (9, .arr 20), (10, I i), (11, I j)]) (O := [(20, .arr 1 ((fl'.set (((i * (b.length : Int)) + j).toNat) 1000000000).length) (fI (fl'.set (((i * (b.length : Int)) + j).toNat) 1000000000)))]) rfl (⟨.inl rfl, .inl rfl, .inl rfl, .inl rfl, .inl rfl, .inl rfl, .inl rfl, .inl rfl, trivial⟩) (⟨.inr ⟨rfl, (by first | rfl | (simp; done) | (simp; omega) | omega), fun i_ hi_ => .inl (upd_enc (enc := cI) rfl i_ hi_)⟩, trivial⟩) ?_
         refine x_r [] [0, 1, 2, 7, 8, 9, 10, 11] [20] [slFeat false a, slFeat false b, I band, I (a.length : Int), I (b.length : Int), .arr 20, I i, I (j + 1)] [some (.arr 1 ((fl'.set (((i * (b.length : Int)) + j).toNat) 1000000000).length) (fI (fl'.set (((i * (b.length : Int)) + j).toNat) 1000000000)))] [inR .i64 (j + 1)] ⟨(inR_i64 (by omega) (by omega)), trivial⟩ ?_
         exact xe_again ((j + 1), (fl'.set (((i * (b.length : Int)) + j).toNat) 1000000000)) rfl (show (0 ≤ (j + 1) ∧ (j + 1) ≤ (b.length : Int)) ∧ (flOk a b band (fl'.set (((i * (b.length : Int)) + j).toNat) 1000000000) (i.toNat * b.length + (j + 1).toNat)) ∧ True from ⟨(by omega), (by rw [show (j + 1).toNat = j.toNat + 1 from by omega]; exact fl_step hin hi hj hka (by rw [hsb.2]; unfold sb3 sb2 sb1 sb0; (repeat' split) <;> omega)), trivial⟩) (by first | (show (((b.length : Int) - (j + 1)).toNat : Nat) < ((b.length : Int) - j).toNat; omega) | (dsimp only; omega))
        refine x_r [(1, .dec false), (6, .call [(true, .any)] true (I ((i - j).natAbs : Int))), (8, .dec false)] [0, 1, 2, 7, 8, 9, 10, 11, 12, 90] [20] [slFeat false a, slFeat false b, I band, I (a.length : Int), I (b.length : Int), .arr 20, I i, I j, I 0, Bv false] [some (.arr 1 fl'.length (fI fl'))] [¬ ((0 : Int) = 1000000000), inR .i64 (i - j), Con Try.prog 53 [I (i - j)] true (I ((i - j).natAbs : Int)) ∧ True, ¬ (band < ((i - j).natAbs : Int))] ⟨(by decide), (inR_i64 (by omega) (by omega)), ⟨(l09Size_ok (i - j) (by omega)), trivial⟩, h14, trivial⟩ ?_
        refine xe_then ?_
        refine x_false rfl ?_
        refine x_r [(15, .call [(true, .any), (true, .any)] true (I (costF (at_ a i.toNat) (at_ b j.toNat))))] [0, 1, 2, 7, 8, 9, 10, 11] [20] [slFeat false a, slFeat false b, I band, I (a.length : Int), I (b.length : Int), .arr 20, I i, I j] [some (.arr 1 fl'.length (fun q => bif Nat.beq q (((i * (b.length : Int)) + j).toNat) then [I (0 + (costF (at_ a i.toNat) (at_ b j.toNat)))] else (fI fl') q))] [inR .i64 (i * (b.length : Int)), inR .i64 ((i * (b.length : Int)) + j), (0 : Int) ≤ i ∧ i < (a.length : Int), (0 : Int) ≤ j ∧ j < (b.length : Int), Con Try.prog 79 [agFeat (at_ a i.toNat), agFeat (at_ b j.toNat)] true (I (costF (at_ a i.toNat) (at_ b j.toNat))) ∧ True, inR .i64 (0 + (costF (at_ a i.toNat) (at_ b j.toNat))), (0 : Int) ≤ ((i * (b.length : Int)) + j) ∧ ((i * (b.length : Int)) + j) < (fl'.length : Int), ((i * (b.length : Int)) + j).toNat < fl'.length] ⟨(inR_i64 (by omega) (by omega)), (inR_i64 (by omega) (by omega)), ⟨(by omega), (by omega)⟩, ⟨(by omega), (by omega)⟩, ⟨(l09Cost_ok (at_ a i.toNat) (at_ b j.toNat) (by first | exact hab.1 _ (by omega) | exact hab.2.1 _ (by omega)) (by first | exact hab.1 _ (by omega) | exact hab.2.1 _ (by omega))), trivial⟩, (inR_i64 (by omega) (by omega)), ⟨(by omega), (by omega)⟩, (by omega), trivial⟩ ?_
        refine xe_block 3 ?_
        refine xe_then ?_
        refine x_weak [] (T := [(0, slFeat false a), (1, slFeat false b), (2, I band), (7, I (a.length : Int)), (8, I (b.length : Int)), (9, .arr 20), (10, I i), (11, I j)]) (O := [(20, .arr 1 ((fl'.set (((i * (b.length : Int)) + j).toNat) (0 + (costF (at_ a i.toNat) (at_ b j.toNat)))).length) (fI (fl'.set (((i * (b.length : Int)) + j).toNat) (0 + (costF (at_ a i.toNat) (at_ b j.toNat))))))]) rfl (⟨.inl rfl, .inl rfl, .inl rfl, .inl rfl, .inl rfl, .inl rfl, .inl rfl, .inl rfl, trivial⟩) (⟨.inr ⟨rfl, (by first | rfl | (simp; done) | (simp; omega) | omega), fun i_ hi_ => .inl (upd_enc (enc := cI) rfl i_ hi_)⟩, trivial⟩) ?_
        refine x_r [] [0, 1, 2, 7, 8, 9, 10, 11] [20] [slFeat false a, slFeat false b, I band, I (a.length : Int), I (b.length : Int), .arr 20, I i, I (j + 1)] [some (.arr 1 ((fl'.set (((i * (b.length : Int)) + j).toNat) (0 + (costF (at_ a i.toNat) (at_ b j.toNat)))).length) (fI (fl'.set (((i * (b.length : Int)) + j).toNat) (0 + (costF (at_ a i.toNat) (at_ b j.toNat))))))] [inR .i64 (j + 1)] ⟨(inR_i64 (by omega) (by omega)), trivial⟩ ?_
        exact xe_again ((j + 1), (fl'.set (((i * (b.length : Int)) + j).toNat) (0 + (costF (at_ a i.toNat) (at_ b j.toNat))))) rfl (show (0 ≤ (j + 1) ∧ (j + 1) ≤ (b.length : Int)) ∧ (flOk a b band (fl'.set (((i * (b.length : Int)) + j).toNat) (0 + (costF (at_ a i.toNat) (at_ b j.toNat)))) (i.toNat * b.length + (j + 1).toNat)) ∧ True from ⟨(by omega), (by rw [show (j + 1).toNat = j.toNat + 1 from by omega]; exact fl_step hin hi hj hka (by rw [hsb.2]; unfold sb3 sb2 sb1 sb0; (repeat' split) <;> omega)), trivial⟩) (by first | (show (((b.length : Int) - (j + 1)).toNat : Nat) < ((b.length : Int) - j).toNat; omega) | (dsimp only; omega))
       refine x_r [(1, .dec true), (4, .dec false)] [0, 1, 2, 7, 8, 9, 10, 11, 12, 36] [20] [slFeat false a, slFeat false b, I band, I (a.length : Int), I (b.length : Int), .arr 20, I i, I j, I 1000000000, Bv false] [some (.arr 1 fl'.length (fI fl'))] [i = 0, ¬ (j = 0)] ⟨h3, h4, trivial⟩ ?_
       refine xe_then ?_
       refine x_false rfl ?_
       refine x_skip ?_
       refine xe_then ?_
       refine x_seq ?_
       refine x_seq ?_
       by_cases h15 : 0 < i
       ·by_cases h16 : 0 < j
        ·refine x_r [(1, .dec true), (4, .dec true)] [0, 1, 2, 7, 8, 9, 10, 11, 12, 42] [20] [slFeat false a, slFeat false b, I band, I (a.length : Int), I (b.length : Int), .arr 20, I i, I j, I 1000000000, Bv true] [some (.arr 1 fl'.length (fI fl'))] [0 < i, 0 < j] ⟨h15, h16, trivial⟩ ?_
         refine xe_then ?_
         refine x_true rfl ?_
         refine x_r [(11, .call [(true, .any), (true, .any)] true (I (min 1000000000 (at_ fl' (((((i - 1) * (b.length : Int)) + j) - 1).toNat)))))] [0, 1, 2, 7, 8, 9, 10, 11, 12] [20] [slFeat false a, slFeat false b, I band, I (a.length : Int), I (b.length : Int), .arr 20, I i, I j, I (min 1000000000 (at_ fl' (((((i - 1) * (b.length : Int)) + j) - 1).toNat)))] [some (.arr 1 fl'.length (fI fl'))] [inR .i64 (i - 1), inR .i64 ((i - 1) * (b.length : Int)), inR .i64 (((i - 1) * (b.length : Int)) + j), inR .i64 ((((i - 1) * (b.length : Int)) + j) - 1), (0 : Int) ≤ ((((i - 1) * (b.length : Int)) + j) - 1) ∧ ((((i - 1) * (b.length : Int)) + j) - 1) < (fl'.length : Int), ((((i - 1) * (b.length : Int)) + j) - 1).toNat < fl'.length, Con Try.prog 42 [I 1000000000, I (at_ fl' (((((i - 1) * (b.length : Int)) + j) - 1).toNat))] true (I (min 1000000000 (at_ fl' (((((i - 1) * (b.length : Int)) + j) - 1).toNat)))) ∧ True] ⟨(inR_i64 (by omega) (by omega)), (inR_i64 (by omega) (by omega)), (inR_i64 (by omega) (by omega)), (inR_i64 (by omega) (by omega)), ⟨(by omega), (by omega)⟩, (by omega), ⟨(l00Min_ok 1000000000 (at_ fl' (((((i - 1) * (b.length : Int)) + j) - 1).toNat))), trivial⟩, trivial⟩ ?_
         refine xe_then ?_
         refine x_seq ?_
         refine xR [(1, .dec true)] [0, 1, 2, 7, 8, 9, 10, 11, 12, 56] [20] [slFeat false a, slFeat false b, I band, I (a.length : Int), I (b.length : Int), .arr 20, I i, I j, I (min 1000000000 (at_ fl' (((((i - 1) * (b.length : Int)) + j) - 1).toNat))), Bv true] [some (.arr 1 fl'.length (fI fl'))] [0 < i] ⟨h15, trivial⟩ ?_
         refine x_true rfl ?_
         refine x_r [(10, .call [(true, .any), (true, .any)] true (I (min (min 1000000000 (at_ fl' (((((i - 1) * (b.length : Int)) + j) - 1).toNat))) (at_ fl' ((((i - 1) * (b.length : Int)) + j).toNat)))))] [0, 1, 2, 7, 8, 9, 10, 11, 12] [20] [slFeat false a, slFeat false b, I band, I (a.length : Int), I (b.length : Int), .arr 20, I i, I j, I (min (min 1000000000 (at_ fl' (((((i - 1) * (b.length : Int)) + j) - 1).toNat))) (at_ fl' ((((i - 1) * (b.length : Int)) + j).toNat)))] [some (.arr 1 fl'.length (fI fl'))] [inR .i64 (i - 1), inR .i64 ((i - 1) * (b.length : Int)), inR .i64 (((i - 1) * (b.length : Int)) + j), (0 : Int) ≤ (((i - 1) * (b.length : Int)) + j) ∧ (((i - 1) * (b.length : Int)) + j) < (fl'.length : Int), (((i - 1) * (b.length : Int)) + j).toNat < fl'.length, Con Try.prog 42 [I (min 1000000000 (at_ fl' (((((i - 1) * (b.length : Int)) + j) - 1).toNat))), I (at_ fl' ((((i - 1) * (b.length : Int)) + j).toNat))] true (I (min (min 1000000000 (at_ fl' (((((i - 1) * (b.length : Int)) + j) - 1).toNat))) (at_ fl' ((((i - 1) * (b.length : Int)) + j).toNat)))) ∧ True] ⟨(inR_i64 (by omega) (by omega)), (inR_i64 (by omega) (by omega)), (inR_i64 (by omega) (by omega)), ⟨(by omega), (by omega)⟩, (by omega), ⟨(l00Min_ok (min 1000000000 (at_ fl' (((((i - 1) * (b.length : Int)) + j) - 1).toNat))) (at_ fl' ((((i - 1) * (b.length : Int)) + j).toNat))), trivial⟩, trivial⟩ ?_
         refine xe_then ?_
         refine x_seq ?_
         refine xR [(1, .dec true)] [0, 1, 2, 7, 8, 9, 10, 11, 12, 69] [20] [slFeat false a, slFeat false b, I band, I (a.length : Int), I (b.length : Int), .arr 20, I i, I j, I (min (min 1000000000 (at_ fl' (((((i - 1) * (b.length : Int)) + j) - 1).toNat))) (at_ fl' ((((i - 1) * (b.length : Int)) + j).toNat))), Bv true] [some (.arr 1 fl'.length (fI fl'))] [0 < j] ⟨h16, trivial⟩ ?_
         refine x_true rfl ?_
         refine x_r [(10, .call [(true, .any), (true, .any)] true (I (min (min (min 1000000000 (at_ fl' (((((i - 1) * (b.length : Int)) + j) - 1).toNat))) (at_ fl' ((((i - 1) * (b.length : Int)) + j).toNat))) (at_ fl' ((((i * (b.length : Int)) + j) - 1).toNat)))))] [0, 1, 2, 7, 8, 9, 10, 11, 12] [20] [slFeat false a, slFeat false b, I band, I (a.length : Int), I (b.length : Int), .arr 20, I i, I j, I (min (min (min 1000000000 (at_ fl' (((((i - 1) * (b.length : Int)) + j) - 1).toNat))) (at_ fl' ((((i - 1) * (b.length : Int)) + j).toNat))) (at_ fl' ((((i * (b.length : Int)) + j) - 1).toNat)))] [some (.arr 1 fl'.length (fI fl'))] [inR .i64 (i * (b.length : Int)), inR .i64 ((i * (b.length : Int)) + j), inR .i64 (((i * (b.length : Int)) + j) - 1), (0 : Int) ≤ (((i * (b.length : Int)) + j) - 1) ∧ (((i * (b.length : Int)) + j) - 1) < (fl'.length : Int), (((i * (b.length : Int)) + j) - 1).toNat < fl'.length, Con Try.prog 42 [I (min (min 1000000000 (at_ fl' (((((i - 1) * (b.length : Int)) + j) - 1).toNat))) (at_ fl' ((((i - 1) * (b.length : Int)) + j).toNat))), I (at_ fl' ((((i * (b.length : Int)) + j) - 1).toNat))] true (I (min (min (min 1000000000 (at_ fl' (((((i - 1) * (b.length : Int)) + j) - 1).toNat))) (at_ fl' ((((i - 1) * (b.length : Int)) + j).toNat))) (at_ fl' ((((i * (b.length : Int)) + j) - 1).toNat)))) ∧ True] ⟨(inR_i64 (by omega) (by omega)), (inR_i64 (by omega) (by omega)), (inR_i64 (by omega) (by omega)), ⟨(by omega), (by omega)⟩, (by omega), ⟨(l00Min_ok (min (min 1000000000 (at_ fl' (((((i - 1) * (b.length : Int)) + j) - 1).toNat))) (at_ fl' ((((i - 1) * (b.length : Int)) + j).toNat))) (at_ fl' ((((i * (b.length : Int)) + j) - 1).toNat))), trivial⟩, trivial⟩ ?_
         refine xe_then ?_
         refine x_seq ?_
         by_cases h17 : (min (min (min 1000000000 (at_ fl' (((((i - 1) * (b.length : Int)) + j) - 1).toNat))) (at_ fl' ((((i - 1) * (b.length : Int)) + j).toNat))) (at_ fl' ((((i * (b.length : Int)) + j) - 1).toNat))) = 1000000000
         ·refine x_r [(1, .dec true)] [0, 1, 2, 7, 8, 9, 10, 11, 12, 90] [20] [slFeat false a, slFeat false b, I band, I (a.length : Int), I (b.length : Int), .arr 20, I i, I j, I (min (min (min 1000000000 (at_ fl' (((((i - 1) * (b.length : Int)) + j) - 1).toNat))) (at_ fl' ((((i - 1) * (b.length : Int)) + j).toNat))) (at_ fl' ((((i * (b.length : Int)) + j) - 1).toNat))), Bv true] [some (.arr 1 fl'.length (fI fl'))] [(min (min (min 1000000000 (at_ fl' (((((i - 1) * (b.length : Int)) + j) - 1).toNat))) (at_ fl' ((((i - 1) * (b.length : Int)) + j).toNat))) (at_ fl' ((((i * (b.length : Int)) + j) - 1).toNat))) = 1000000000] ⟨h17, trivial⟩ ?_
          refine xe_then ?_
          refine x_true rfl ?_
          refine x_r [] [0, 1, 2, 7, 8, 9, 10, 11] [20] [slFeat false a, slFeat false b, I band, I (a.length : Int), I (b.length : Int), .arr 20, I i, I j] [some (.arr 1 fl'.length (fun q => bif Nat.beq q (((i * (b.length : Int)) + j).toNat) then [I 1000000000] else (fI fl') q))] [inR .i64 (i * (b.length : Int)), inR .i64 ((i * (b.length : Int)) + j), (0 : Int) ≤ ((i * (b.length : Int)) + j) ∧ ((i * (b.length : Int)) + j) < (fl'.length : Int), ((i * (b.length : Int)) + j).toNat < fl'.length] ⟨(inR_i64 (by omega) (by omega)), (inR_i64 (by omega) (by omega)), ⟨(by omega), (by omega)⟩, (by omega), trivial⟩ ?_
          refine xe_block 3 ?_
          refine xe_then ?_
          refine x_weak [] (T := [(0, slFeat false a), (1, slFeat false b), (2, I band), (7, I (a.length : Int)), (8, I (b.length : Int)), (9, .arr 20), (10, I i), (11, I j)]) (O := [(20, .arr 1 ((fl'.set (((i * (b.length : Int)) + j).toNat) 1000000000).length) (fI (fl'.set (((i * (b.length : Int)) + j).toNat) 1000000000)))]) rfl (⟨.inl rfl, .inl rfl, .inl rfl, .inl rfl, .inl rfl, .inl rfl, .inl rfl, .inl rfl, trivial⟩) (⟨.inr ⟨rfl, (by first | rfl | (simp; done) | (simp; omega) | omega), fun i_ hi_ => .inl (upd_enc (enc := cI) rfl i_ hi_)⟩, trivial⟩) ?_
          refine x_r [] [0, 1, 2, 7, 8, 9, 10, 11] [20] [slFeat false a, slFeat false b, I band, I (a.length : Int), I (b.length : Int), .arr 20, I i, I (j + 1)] [some (.arr 1 ((fl'.set (((i * (b.length : Int)) + j).toNat) 1000000000).length) (fI (fl'.set (((i * (b.length : Int)) + j).toNat) 1000000000)))] [inR .i64 (j + 1)] ⟨(inR_i64 (by omega) (by omega)), trivial⟩ ?_
          exact xe_again ((j + 1), (fl'.set (((i * (b.length : Int)) + j).toNat) 1000000000)) rfl (show (0 ≤ (j + 1) ∧ (j + 1) ≤ (b.length : Int)) ∧ (flOk a b band (fl'.set (((i * (b.length : Int)) + j).toNat) 1000000000) (i.toNat * b.length + (j + 1).toNat)) ∧ True from ⟨(by omega), (by rw [show (j + 1).toNat = j.toNat + 1 from by omega]; exact fl_step hin hi hj hka (by rw [hsb.2]; unfold sb3 sb2 sb1 sb0; (repeat' split) <;> omega)), trivial⟩) (by first | (show (((b.length : Int) - (j + 1)).toNat : Nat) < ((b.length : Int) - j).toNat; omega) | (dsimp only; omega))
         by_cases h18 : band < ((i - j).natAbs : Int)
         ·refine x_r [(1, .dec false), (6, .call [(true, .any)] true (I ((i - j).natAbs : Int))), (8, .dec true)] [0, 1, 2, 7, 8, 9, 10, 11, 12, 90] [20] [slFeat false a, slFeat false b, I band, I (a.length : Int), I (b.length : Int), .arr 20, I i, I j, I (min (min (min 1000000000 (at_ fl' (((((i - 1) * (b.length : Int)) + j) - 1).toNat))) (at_ fl' ((((i - 1) * (b.length : Int)) + j).toNat))) (at_ fl' ((((i * (b.length : Int)) + j) - 1).toNat))), Bv true] [some (.arr 1 fl'.length (fI fl'))] [¬ ((min (min (min 1000000000 (at_ fl' (((((i - 1) * (b.length : Int)) + j) - 1).toNat))) (at_ fl' ((((i - 1) * (b.length : Int)) + j).toNat))) (at_ fl' ((((i * (b.length : Int)) + j) - 1).toNat))) = 1000000000), inR .i64 (i - j), Con Try.prog 53 [I (i - j)] true (I ((i - j).natAbs : Int)) ∧ True, band < ((i - j).natAbs : Int)] ⟨h17, (inR_i64 (by omega) (by omega)), ⟨(l09Size_ok (i - j) (by omega)), trivial⟩, h18, trivial⟩ ?_
          refine xe_then ?_
          refine x_true rfl ?_
          refine x_r [] [0, 1, 2, 7, 8, 9, 10, 11] [20] [slFeat false a, slFeat false b, I band, I (a.length : Int), I (b.length : Int), .arr 20, I i, I j] [some (.arr 1 fl'.length (fun q => bif Nat.beq q (((i * (b.length : Int)) + j).toNat) then [I 1000000000] else (fI fl') q))] [inR .i64 (i * (b.length : Int)), inR .i64 ((i * (b.length : Int)) + j), (0 : Int) ≤ ((i * (b.length : Int)) + j) ∧ ((i * (b.length : Int)) + j) < (fl'.length : Int), ((i * (b.length : Int)) + j).toNat < fl'.length] ⟨(inR_i64 (by omega) (by omega)), (inR_i64 (by omega) (by omega)), ⟨(by omega), (by omega)⟩, (by omega), trivial⟩ ?_
          refine xe_block 3 ?_
          refine xe_then ?_
          refine x_weak [] (T := [(0, slFeat false a), (1, slFeat false b), (2, I band), (7, I (a.length : Int)), (8, I (b.length : Int)), (9, .arr 20), (10, I i), (11, I j)]) (O := [(20, .arr 1 ((fl'.set (((i * (b.length : Int)) + j).toNat) 1000000000).length) (fI (fl'.set (((i * (b.length : Int)) + j).toNat) 1000000000)))]) rfl (⟨.inl rfl, .inl rfl, .inl rfl, .inl rfl, .inl rfl, .inl rfl, .inl rfl, .inl rfl, trivial⟩) (⟨.inr ⟨rfl, (by first | rfl | (simp; done) | (simp; omega) | omega), fun i_ hi_ => .inl (upd_enc (enc := cI) rfl i_ hi_)⟩, trivial⟩) ?_
          refine x_r [] [0, 1, 2, 7, 8, 9, 10, 11] [20] [slFeat false a, slFeat false b, I band, I (a.length : Int), I (b.length : Int), .arr 20, I i, I (j + 1)] [some (.arr 1 ((fl'.set (((i * (b.length : Int)) + j).toNat) 1000000000).length) (fI (fl'.set (((i * (b.length : Int)) + j).toNat) 1000000000)))] [inR .i64 (j + 1)] ⟨(inR_i64 (by omega) (by omega)), trivial⟩ ?_
          exact xe_again ((j + 1), (fl'.set (((i * (b.length : Int)) + j).toNat) 1000000000)) rfl (show (0 ≤ (j + 1) ∧ (j + 1) ≤ (b.length : Int)) ∧ (flOk a b band (fl'.set (((i * (b.length : Int)) + j).toNat) 1000000000) (i.toNat * b.length + (j + 1).toNat)) ∧ True from ⟨(by omega), (by rw [show (j + 1).toNat = j.toNat + 1 from by omega]; exact fl_step hin hi hj hka (by rw [hsb.2]; unfold sb3 sb2 sb1 sb0; (repeat' split) <;> omega)), trivial⟩) (by first | (show (((b.length : Int) - (j + 1)).toNat : Nat) < ((b.length : Int) - j).toNat; omega) | (dsimp only; omega))
         refine x_r [(1, .dec false), (6, .call [(true, .any)] true (I ((i - j).natAbs : Int))), (8, .dec false)] [0, 1, 2, 7, 8, 9, 10, 11, 12, 90] [20] [slFeat false a, slFeat false b, I band, I (a.length : Int), I (b.length : Int), .arr 20, I i, I j, I (min (min (min 1000000000 (at_ fl' (((((i - 1) * (b.length : Int)) + j) - 1).toNat))) (at_ fl' ((((i - 1) * (b.length : Int)) + j).toNat))) (at_ fl' ((((i * (b.length : Int)) + j) - 1).toNat))), Bv false] [some (.arr 1 fl'.length (fI fl'))] [¬ ((min (min (min 1000000000 (at_ fl' (((((i - 1) * (b.length : Int)) + j) - 1).toNat))) (at_ fl' ((((i - 1) * (b.length : Int)) + j).toNat))) (at_ fl' ((((i * (b.length : Int)) + j) - 1).toNat))) = 1000000000), inR .i64 (i - j), Con Try.prog 53 [I (i - j)] true (I ((i - j).natAbs : Int)) ∧ True, ¬ (band < ((i - j).natAbs : Int))] ⟨h17, (inR_i64 (by omega) (by omega)), ⟨(l09Size_ok (i - j) (by omega)), trivial⟩, h18, trivial⟩ ?_
         refine xe_then ?_
         refine x_false rfl ?_
         refine x_r [(15, .call [(true, .any), (true, .any)] true (I (costF (at_ a i.toNat) (at_ b j.toNat))))] [0, 1, 2, 7, 8, 9, 10, 11] [20] [slFeat false a, slFeat false b, I band, I (a.length : Int), I (b.length : Int), .arr 20, I i, I j] [some (.arr 1 fl'.length (fun q => bif Nat.beq q (((i * (b.length : Int)) + j).toNat) then [I ((min (min (min 1000000000 (at_ fl' (((((i - 1) * (b.length : Int)) + j) - 1).toNat))) (at_ fl' ((((i - 1) * (b.length : Int)) + j).toNat))) (at_ fl' ((((i * (b.length : Int)) + j) - 1).toNat))) + (costF (at_ a i.toNat) (at_ b j.toNat)))] else (fI fl') q))] [inR .i64 (i * (b.length : Int)), inR .i64 ((i * (b.length : Int)) + j), (0 : Int) ≤ i ∧ i < (a.length : Int), (0 : Int) ≤ j ∧ j < (b.length : Int), Con Try.prog 79 [agFeat (at_ a i.toNat), agFeat (at_ b j.toNat)] true (I (costF (at_ a i.toNat) (at_ b j.toNat))) ∧ True, inR .i64 ((min (min (min 1000000000 (at_ fl' (((((i - 1) * (b.length : Int)) + j) - 1).toNat))) (at_ fl' ((((i - 1) * (b.length : Int)) + j).toNat))) (at_ fl' ((((i * (b.length : Int)) + j) - 1).toNat))) + (costF (at_ a i.toNat) (at_ b j.toNat))), (0 : Int) ≤ ((i * (b.length : Int)) + j) ∧ ((i * (b.length : Int)) + j) < (fl'.length : Int), ((i * (b.length : Int)) + j).toNat < fl'.length] ⟨(inR_i64 (by omega) (by omega)), (inR_i64 (by omega) (by omega)), ⟨(by omega), (by omega)⟩, ⟨(by omega), (by omega)⟩, ⟨(l09Cost_ok (at_ a i.toNat) (at_ b j.toNat) (by first | exact hab.1 _ (by omega) | exact hab.2.1 _ (by omega)) (by first | exact hab.1 _ (by omega) | exact hab.2.1 _ (by omega))), trivial⟩, (inR_i64 (by omega) (by omega)), ⟨(by omega), (by omega)⟩, (by omega), trivial⟩ ?_
         refine xe_block 3 ?_
         refine xe_then ?_
         refine x_weak [] (T := [(0, slFeat false a), (1, slFeat false b), (2, I band), (7, I (a.length : Int)), (8, I (b.length : Int)), (9, .arr 20), (10, I i), (11, I j)]) (O := [(20, .arr 1 ((fl'.set (((i * (b.length : Int)) + j).toNat) ((min (min (min 1000000000 (at_ fl' (((((i - 1) * (b.length : Int)) + j) - 1).toNat))) (at_ fl' ((((i - 1) * (b.length : Int)) + j).toNat))) (at_ fl' ((((i * (b.length : Int)) + j) - 1).toNat))) + (costF (at_ a i.toNat) (at_ b j.toNat)))).length) (fI (fl'.set (((i * (b.length : Int)) + j).toNat) ((min (min (min 1000000000 (at_ fl' (((((i - 1) * (b.length : Int)) + j) - 1).toNat))) (at_ fl' ((((i - 1) * (b.length : Int)) + j).toNat))) (at_ fl' ((((i * (b.length : Int)) + j) - 1).toNat))) + (costF (at_ a i.toNat) (at_ b j.toNat))))))]) rfl (⟨.inl rfl, .inl rfl, .inl rfl, .inl rfl, .inl rfl, .inl rfl, .inl rfl, .inl rfl, trivial⟩) (⟨.inr ⟨rfl, (by first | rfl | (simp; done) | (simp; omega) | omega), fun i_ hi_ => .inl (upd_enc (enc := cI) rfl i_ hi_)⟩, trivial⟩) ?_
         refine x_r [] [0, 1, 2, 7, 8, 9, 10, 11] [20] [slFeat false a, slFeat false b, I band, I (a.length : Int), I (b.length : Int), .arr 20, I i, I (j + 1)] [some (.arr 1 ((fl'.set (((i * (b.length : Int)) + j).toNat) ((min (min (min 1000000000 (at_ fl' (((((i - 1) * (b.length : Int)) + j) - 1).toNat))) (at_ fl' ((((i - 1) * (b.length : Int)) + j).toNat))) (at_ fl' ((((i * (b.length : Int)) + j) - 1).toNat))) + (costF (at_ a i.toNat) (at_ b j.toNat)))).length) (fI (fl'.set (((i * (b.length : Int)) + j).toNat) ((min (min (min 1000000000 (at_ fl' (((((i - 1) * (b.length : Int)) + j) - 1).toNat))) (at_ fl' ((((i - 1) * (b.length : Int)) + j).toNat))) (at_ fl' ((((i * (b.length : Int)) + j) - 1).toNat))) + (costF (at_ a i.toNat) (at_ b j.toNat))))))] [inR .i64 (j + 1)] ⟨(inR_i64 (by omega) (by omega)), trivial⟩ ?_
         exact xe_again ((j + 1), (fl'.set (((i * (b.length : Int)) + j).toNat) ((min (min (min 1000000000 (at_ fl' (((((i - 1) * (b.length : Int)) + j) - 1).toNat))) (at_ fl' ((((i - 1) * (b.length : Int)) + j).toNat))) (at_ fl' ((((i * (b.length : Int)) + j) - 1).toNat))) + (costF (at_ a i.toNat) (at_ b j.toNat))))) rfl (show (0 ≤ (j + 1) ∧ (j + 1) ≤ (b.length : Int)) ∧ (flOk a b band (fl'.set (((i * (b.length : Int)) + j).toNat) ((min (min (min 1000000000 (at_ fl' (((((i - 1) * (b.length : Int)) + j) - 1).toNat))) (at_ fl' ((((i - 1) * (b.length : Int)) + j).toNat))) (at_ fl' ((((i * (b.length : Int)) + j) - 1).toNat))) + (costF (at_ a i.toNat) (at_ b j.toNat)))) (i.toNat * b.length + (j + 1).toNat)) ∧ True from ⟨(by omega), (by rw [show (j + 1).toNat = j.toNat + 1 from by omega]; exact fl_step hin hi hj hka (by rw [hsb.2]; unfold sb3 sb2 sb1 sb0; (repeat' split) <;> omega)), trivial⟩) (by first | (show (((b.length : Int) - (j + 1)).toNat : Nat) < ((b.length : Int) - j).toNat; omega) | (dsimp only; omega))
        refine x_r [(1, .dec true), (4, .dec false)] [0, 1, 2, 7, 8, 9, 10, 11, 12, 42] [20] [slFeat false a, slFeat false b, I band, I (a.length : Int), I (b.length : Int), .arr 20, I i, I j, I 1000000000, Bv false] [some (.arr 1 fl'.length (fI fl'))] [0 < i, ¬ (0 < j)] ⟨h15, h16, trivial⟩ ?_
        refine xe_then ?_
        refine x_false rfl ?_
        refine x_skip ?_
        refine xe_then ?_
        refine x_seq ?_
        refine xR [(1, .dec true)] [0, 1, 2, 7, 8, 9, 10, 11, 12, 56] [20] [slFeat false a, slFeat false b, I band, I (a.length : Int), I (b.length : Int), .arr 20, I i, I j, I 1000000000, Bv true] [some (.arr 1 fl'.length (fI fl'))] [0 < i] ⟨h15, trivial⟩ ?_
        refine x_true rfl ?_
        refine x_r [(10, .call [(true, .any), (true, .any)] true (I (min 1000000000 (at_ fl' ((((i - 1) * (b.length : Int)) + j).toNat)))))] [0, 1, 2, 7, 8, 9, 10, 11, 12] [20] [slFeat false a, slFeat false b, I band, I (a.length : Int), I (b.length : Int), .arr 20, I i, I j, I (min 1000000000 (at_ fl' ((((i - 1) * (b.length : Int)) + j).toNat)))] [some (.arr 1 fl'.length (fI fl'))] [inR .i64 (i - 1), inR .i64 ((i - 1) * (b.length : Int)), inR .i64 (((i - 1) * (b.length : Int)) + j), (0 : Int) ≤ (((i - 1) * (b.length : Int)) + j) ∧ (((i - 1) * (b.length : Int)) + j) < (fl'.length : Int), (((i - 1) * (b.length : Int)) + j).toNat < fl'.length, Con Try.prog 42 [I 1000000000, I (at_ fl' ((((i - 1) * (b.length : Int)) + j).toNat))] true (I (min 1000000000 (at_ fl' ((((i - 1) * (b.length : Int)) + j).toNat)))) ∧ True] ⟨(inR_i64 (by omega) (by omega)), (inR_i64 (by omega) (by omega)), (inR_i64 (by omega) (by omega)), ⟨(by omega), (by omega)⟩, (by omega), ⟨(l00Min_ok 1000000000 (at_ fl' ((((i - 1) * (b.length : Int)) + j).toNat))), trivial⟩, trivial⟩ ?_
        refine xe_then ?_
        refine x_seq ?_
        refine xR [(1, .dec false)] [0, 1, 2, 7, 8, 9, 10, 11, 12, 69] [20] [slFeat false a, slFeat false b, I band, I (a.length : Int), I (b.length : Int), .arr 20, I i, I j, I (min 1000000000 (at_ fl' ((((i - 1) * (b.length : Int)) + j).toNat))), Bv false] [some (.arr 1 fl'.length (fI fl'))] [¬ (0 < j)] ⟨h16, trivial⟩ ?_
        refine x_false rfl ?_
        refine x_skip ?_
        refine xe_then ?_
        refine x_seq ?_
        by_cases h19 : (min 1000000000 (at_ fl' ((((i - 1) * (b.length : Int)) + j).toNat))) = 1000000000
        ·refine x_r [(1, .dec true)] [0, 1, 2, 7, 8, 9, 10, 11, 12, 90] [20] [slFeat false a, slFeat false b, I band, I (a.length : Int), I (b.length : Int), .arr 20, I i, I j, I (min 1000000000 (at_ fl' ((((i - 1) * (b.length : Int)) + j).toNat))), Bv true] [some (.arr 1 fl'.length (fI fl'))] [(min 1000000000 (at_ fl' ((((i - 1) * (b.length : Int)) + j).toNat))) = 1000000000] ⟨h19, trivial⟩ ?_
         refine xe_then ?_
         refine x_true rfl ?_
         refine x_r [] [0, 1, 2, 7, 8, 9, 10, 11] [20] [slFeat false a, slFeat false b, I band, I (a.length : Int), I (b.length : Int), .arr 20, I i, I j] [some (.arr 1 fl'.length (fun q => bif Nat.beq q (((i * (b.length : Int)) + j).toNat) then [I 1000000000] else (fI fl') q))] [inR .i64 (i * (b.length : Int)), inR .i64 ((i * (b.length : Int)) + j), (0 : Int) ≤ ((i * (b.length : Int)) + j) ∧ ((i * (b.length : Int)) + j) < (fl'.length : Int), ((i * (b.length : Int)) + j).toNat < fl'.length] ⟨(inR_i64 (by omega) (by omega)), (inR_i64 (by omega) (by omega)), ⟨(by omega), (by omega)⟩, (by omega), trivial⟩ ?_
         refine xe_block 3 ?_
         refine xe_then ?_
         refine x_weak [] (T := [(0, slFeat false a), (1, slFeat false b), (2, I band), (7, I (a.length : Int)), (8, I (b.length : Int)), (9, .arr 20), (10, I i), (11, I j)]) (O := [(20, .arr 1 ((fl'.set (((i * (b.length : Int)) + j).toNat) 1000000000).length) (fI (fl'.set (((i * (b.length : Int)) + j).toNat) 1000000000)))]) rfl (⟨.inl rfl, .inl rfl, .inl rfl, .inl rfl, .inl rfl, .inl rfl, .inl rfl, .inl rfl, trivial⟩) (⟨.inr ⟨rfl, (by first | rfl | (simp; done) | (simp; omega) | omega), fun i_ hi_ => .inl (upd_enc (enc := cI) rfl i_ hi_)⟩, trivial⟩) ?_
         refine x_r [] [0, 1, 2, 7, 8, 9, 10, 11] [20] [slFeat false a, slFeat false b, I band, I (a.length : Int), I (b.length : Int), .arr 20, I i, I (j + 1)] [some (.arr 1 ((fl'.set (((i * (b.length : Int)) + j).toNat) 1000000000).length) (fI (fl'.set (((i * (b.length : Int)) + j).toNat) 1000000000)))] [inR .i64 (j + 1)] ⟨(inR_i64 (by omega) (by omega)), trivial⟩ ?_
         exact xe_again ((j + 1), (fl'.set (((i * (b.length : Int)) + j).toNat) 1000000000)) rfl (show (0 ≤ (j + 1) ∧ (j + 1) ≤ (b.length : Int)) ∧ (flOk a b band (fl'.set (((i * (b.length : Int)) + j).toNat) 1000000000) (i.toNat * b.length + (j + 1).toNat)) ∧ True from ⟨(by omega), (by rw [show (j + 1).toNat = j.toNat + 1 from by omega]; exact fl_step hin hi hj hka (by rw [hsb.2]; unfold sb3 sb2 sb1 sb0; (repeat' split) <;> omega)), trivial⟩) (by first | (show (((b.length : Int) - (j + 1)).toNat : Nat) < ((b.length : Int) - j).toNat; omega) | (dsimp only; omega))
        by_cases h20 : band < ((i - j).natAbs : Int)
        ·refine x_r [(1, .dec false), (6, .call [(true, .any)] true (I ((i - j).natAbs : Int))), (8, .dec true)] [0, 1, 2, 7, 8, 9, 10, 11, 12, 90] [20] [slFeat false a, slFeat false b, I band, I (a.length : Int), I (b.length : Int), .arr 20, I i, I j, I (min 1000000000 (at_ fl' ((((i - 1) * (b.length : Int)) + j).toNat))), Bv true] [some (.arr 1 fl'.length (fI fl'))] [¬ ((min 1000000000 (at_ fl' ((((i - 1) * (b.length : Int)) + j).toNat))) = 1000000000), inR .i64 (i - j), Con Try.prog 53 [I (i - j)] true (I ((i - j).natAbs : Int)) ∧ True, band < ((i - j).natAbs : Int)] ⟨h19, (inR_i64 (by omega) (by omega)), ⟨(l09Size_ok (i - j) (by omega)), trivial⟩, h20, trivial⟩ ?_
         refine xe_then ?_
         refine x_true rfl ?_
         refine x_r [] [0, 1, 2, 7, 8, 9, 10, 11] [20] [slFeat false a, slFeat false b, I band, I (a.length : Int), I (b.length : Int), .arr 20, I i, I j] [some (.arr 1 fl'.length (fun q => bif Nat.beq q (((i * (b.length : Int)) + j).toNat) then [I 1000000000] else (fI fl') q))] [inR .i64 (i * (b.length : Int)), inR .i64 ((i * (b.length : Int)) + j), (0 : Int) ≤ ((i * (b.length : Int)) + j) ∧ ((i * (b.length : Int)) + j) < (fl'.length : Int), ((i * (b.length : Int)) + j).toNat < fl'.length] ⟨(inR_i64 (by omega) (by omega)), (inR_i64 (by omega) (by omega)), ⟨(by omega), (by omega)⟩, (by omega), trivial⟩ ?_
         refine xe_block 3 ?_
         refine xe_then ?_
         refine x_weak [] (T := [(0, slFeat false a), (1, slFeat false b), (2, I band), (7, I (a.length : Int)), (8, I (b.length : Int)), (9, .arr 20), (10, I i), (11, I j)]) (O := [(20, .arr 1 ((fl'.set (((i * (b.length : Int)) + j).toNat) 1000000000).length) (fI (fl'.set (((i * (b.length : Int)) + j).toNat) 1000000000)))]) rfl (⟨.inl rfl, .inl rfl, .inl rfl, .inl rfl, .inl rfl, .inl rfl, .inl rfl, .inl rfl, trivial⟩) (⟨.inr ⟨rfl, (by first | rfl | (simp; done) | (simp; omega) | omega), fun i_ hi_ => .inl (upd_enc (enc := cI) rfl i_ hi_)⟩, trivial⟩) ?_
         refine x_r [] [0, 1, 2, 7, 8, 9, 10, 11] [20] [slFeat false a, slFeat false b, I band, I (a.length : Int), I (b.length : Int), .arr 20, I i, I (j + 1)] [some (.arr 1 ((fl'.set (((i * (b.length : Int)) + j).toNat) 1000000000).length) (fI (fl'.set (((i * (b.length : Int)) + j).toNat) 1000000000)))] [inR .i64 (j + 1)] ⟨(inR_i64 (by omega) (by omega)), trivial⟩ ?_
         exact xe_again ((j + 1), (fl'.set (((i * (b.length : Int)) + j).toNat) 1000000000)) rfl (show (0 ≤ (j + 1) ∧ (j + 1) ≤ (b.length : Int)) ∧ (flOk a b band (fl'.set (((i * (b.length : Int)) + j).toNat) 1000000000) (i.toNat * b.length + (j + 1).toNat)) ∧ True from ⟨(by omega), (by rw [show (j + 1).toNat = j.toNat + 1 from by omega]; exact fl_step hin hi hj hka (by rw [hsb.2]; unfold sb3 sb2 sb1 sb0; (repeat' split) <;> omega)), trivial⟩) (by first | (show (((b.length : Int) - (j + 1)).toNat : Nat) < ((b.length : Int) - j).toNat; omega) | (dsimp only; omega))
        refine x_r [(1, .dec false), (6, .call [(true, .any)] true (I ((i - j).natAbs : Int))), (8, .dec false)] [0, 1, 2, 7, 8, 9, 10, 11, 12, 90] [20] [slFeat false a, slFeat false b, I band, I (a.length : Int), I (b.length : Int), .arr 20, I i, I j, I (min 1000000000 (at_ fl' ((((i - 1) * (b.length : Int)) + j).toNat))), Bv false] [some (.arr 1 fl'.length (fI fl'))] [¬ ((min 1000000000 (at_ fl' ((((i - 1) * (b.length : Int)) + j).toNat))) = 1000000000), inR .i64 (i - j), Con Try.prog 53 [I (i - j)] true (I ((i - j).natAbs : Int)) ∧ True, ¬ (band < ((i - j).natAbs : Int))] ⟨h19, (inR_i64 (by omega) (by omega)), ⟨(l09Size_ok (i - j) (by omega)), trivial⟩, h20, trivial⟩ ?_
        refine xe_then ?_
        refine x_false rfl ?_
        refine x_r [(15, .call [(true, .any), (true, .any)] true (I (costF (at_ a i.toNat) (at_ b j.toNat))))] [0, 1, 2, 7, 8, 9, 10, 11] [20] [slFeat false a, slFeat false b, I band, I (a.length : Int), I (b.length : Int), .arr 20, I i, I j] [some (.arr 1 fl'.length (fun q => bif Nat.beq q (((i * (b.length : Int)) + j).toNat) then [I ((min 1000000000 (at_ fl' ((((i - 1) * (b.length : Int)) + j).toNat))) + (costF (at_ a i.toNat) (at_ b j.toNat)))] else (fI fl') q))] [inR .i64 (i * (b.length : Int)), inR .i64 ((i * (b.length : Int)) + j), (0 : Int) ≤ i ∧ i < (a.length : Int), (0 : Int) ≤ j ∧ j < (b.length : Int), Con Try.prog 79 [agFeat (at_ a i.toNat), agFeat (at_ b j.toNat)] true (I (costF (at_ a i.toNat) (at_ b j.toNat))) ∧ True, inR .i64 ((min 1000000000 (at_ fl' ((((i - 1) * (b.length : Int)) + j).toNat))) + (costF (at_ a i.toNat) (at_ b j.toNat))), (0 : Int) ≤ ((i * (b.length : Int)) + j) ∧ ((i * (b.length : Int)) + j) < (fl'.length : Int), ((i * (b.length : Int)) + j).toNat < fl'.length] ⟨(inR_i64 (by omega) (by omega)), (inR_i64 (by omega) (by omega)), ⟨(by omega), (by omega)⟩, ⟨(by omega), (by omega)⟩, ⟨(l09Cost_ok (at_ a i.toNat) (at_ b j.toNat) (by first | exact hab.1 _ (by omega) | exact hab.2.1 _ (by omega)) (by first | exact hab.1 _ (by omega) | exact hab.2.1 _ (by omega))), trivial⟩, (inR_i64 (by omega) (by omega)), ⟨(by omega), (by omega)⟩, (by omega), trivial⟩ ?_
        refine xe_block 3 ?_
        refine xe_then ?_
        refine x_weak [] (T := [(0, slFeat false a), (1, slFeat false b), (2, I band), (7, I (a.length : Int)), (8, I (b.length : Int)), (9, .arr 20), (10, I i), (11, I j)]) (O := [(20, .arr 1 ((fl'.set (((i * (b.length : Int)) + j).toNat) ((min 1000000000 (at_ fl' ((((i - 1) * (b.length : Int)) + j).toNat))) + (costF (at_ a i.toNat) (at_ b j.toNat)))).length) (fI (fl'.set (((i * (b.length : Int)) + j).toNat) ((min 1000000000 (at_ fl' ((((i - 1) * (b.length : Int)) + j).toNat))) + (costF (at_ a i.toNat) (at_ b j.toNat))))))]) rfl (⟨.inl rfl, .inl rfl, .inl rfl, .inl rfl, .inl rfl, .inl rfl, .inl rfl, .inl rfl, trivial⟩) (⟨.inr ⟨rfl, (by first | rfl | (simp; done) | (simp; omega) | omega), fun i_ hi_ => .inl (upd_enc (enc := cI) rfl i_ hi_)⟩, trivial⟩) ?_
        refine x_r [] [0, 1, 2, 7, 8, 9, 10, 11] [20] [slFeat false a, slFeat false b, I band, I (a.length : Int), I (b.length : Int), .arr 20, I i, I (j + 1)] [some (.arr 1 ((fl'.set (((i * (b.length : Int)) + j).toNat) ((min 1000000000 (at_ fl' ((((i - 1) * (b.length : Int)) + j).toNat))) + (costF (at_ a i.toNat) (at_ b j.toNat)))).length) (fI (fl'.set (((i * (b.length : Int)) + j).toNat) ((min 1000000000 (at_ fl' ((((i - 1) * (b.length : Int)) + j).toNat))) + (costF (at_ a i.toNat) (at_ b j.toNat))))))] [inR .i64 (j + 1)] ⟨(inR_i64 (by omega) (by omega)), trivial⟩ ?_
        exact xe_again ((j + 1), (fl'.set (((i * (b.length : Int)) + j).toNat) ((min 1000000000 (at_ fl' ((((i - 1) * (b.length : Int)) + j).toNat))) + (costF (at_ a i.toNat) (at_ b j.toNat))))) rfl (show (0 ≤ (j + 1) ∧ (j + 1) ≤ (b.length : Int)) ∧ (flOk a b band (fl'.set (((i * (b.length : Int)) + j).toNat) ((min 1000000000 (at_ fl' ((((i - 1) * (b.length : Int)) + j).toNat))) + (costF (at_ a i.toNat) (at_ b j.toNat)))) (i.toNat * b.length + (j + 1).toNat)) ∧ True from ⟨(by omega), (by rw [show (j + 1).toNat = j.toNat + 1 from by omega]; exact fl_step hin hi hj hka (by rw [hsb.2]; unfold sb3 sb2 sb1 sb0; (repeat' split) <;> omega)), trivial⟩) (by first | (show (((b.length : Int) - (j + 1)).toNat : Nat) < ((b.length : Int) - j).toNat; omega) | (dsimp only; omega))
       refine x_r [(1, .dec false)] [0, 1, 2, 7, 8, 9, 10, 11, 12, 42] [20] [slFeat false a, slFeat false b, I band, I (a.length : Int), I (b.length : Int), .arr 20, I i, I j, I 1000000000, Bv false] [some (.arr 1 fl'.length (fI fl'))] [¬ (0 < i)] ⟨h15, trivial⟩ ?_
       refine xe_then ?_
       refine x_false rfl ?_
       refine x_skip ?_
       refine xe_then ?_
       refine x_seq ?_
       refine xR [(1, .dec false)] [0, 1, 2, 7, 8, 9, 10, 11, 12, 56] [20] [slFeat false a, slFeat false b, I band, I (a.length : Int), I (b.length : Int), .arr 20, I i, I j, I 1000000000, Bv false] [some (.arr 1 fl'.length (fI fl'))] [¬ (0 < i)] ⟨h15, trivial⟩ ?_
       refine x_false rfl ?_
       refine x_skip ?_
       refine xe_then ?_
       refine x_seq ?_
       refine x_seq ?_
       by_cases h21 : 0 < j
       ·refine x_r [(1, .dec true)] [0, 1, 2, 7, 8, 9, 10, 11, 12, 69] [20] [slFeat false a, slFeat false b, I band, I (a.length : Int), I (b.length : Int), .arr 20, I i, I j, I 1000000000, Bv true] [some (.arr 1 fl'.length (fI fl'))] [0 < j] ⟨h21, trivial⟩ ?_
        refine xe_then ?_
        refine x_true rfl ?_
        refine x_r [(10, .call [(true, .any), (true, .any)] true (I (min 1000000000 (at_ fl' ((((i * (b.length : Int)) + j) - 1).toNat)))))] [0, 1, 2, 7, 8, 9, 10, 11, 12] [20] [slFeat false a, slFeat false b, I band, I (a.length : Int), I (b.length : Int), .arr 20, I i, I j, I (min 1000000000 (at_ fl' ((((i * (b.length : Int)) + j) - 1).toNat)))] [some (.arr 1 fl'.length (fI fl'))] [inR .i64 (i * (b.length : Int)), inR .i64 ((i * (b.length : Int)) + j), inR .i64 (((i * (b.length : Int)) + j) - 1), (0 : Int) ≤ (((i * (b.length : Int)) + j) - 1) ∧ (((i * (b.length : Int)) + j) - 1) < (fl'.length : Int), (((i * (b.length : Int)) + j) - 1).toNat < fl'.length, Con Try.prog 42 [I 1000000000, I (at_ fl' ((((i * (b.length : Int)) + j) - 1).toNat))] true (I (min 1000000000 (at_ fl' ((((i * (b.length : Int)) + j) - 1).toNat)))) ∧ True] ⟨(inR_i64 (by omega) (by omega)), (inR_i64 (by omega) (by omega)), (inR_i64 (by omega) (by omega)), ⟨(by omega), (by omega)⟩, (by omega), ⟨(l00Min_ok 1000000000 (at_ fl' ((((i * (b.length : Int)) + j) - 1).toNat))), trivial⟩, trivial⟩ ?_
        refine xe_then ?_
        refine x_seq ?_
        by_cases h22 : (min 1000000000 (at_ fl' ((((i * (b.length : Int)) + j) - 1).toNat))) = 1000000000
        ·refine x_r [(1, .dec true)] [0, 1, 2, 7, 8, 9, 10, 11, 12, 90] [20] [slFeat false a, slFeat false b, I band, I (a.length : Int), I (b.length : Int), .arr 20, I i, I j, I (min 1000000000 (at_ fl' ((((i * (b.length : Int)) + j) - 1).toNat))), Bv true] [some (.arr 1 fl'.length (fI fl'))] [(min 1000000000 (at_ fl' ((((i * (b.length : Int)) + j) - 1).toNat))) = 1000000000] ⟨h22, trivial⟩ ?_
         refine xe_then ?_
         refine x_true rfl ?_
         refine x_r [] [0, 1, 2, 7, 8, 9, 10, 11] [20] [slFeat false a, slFeat false b, I band, I (a.length : Int), I (b.length : Int), .arr 20, I i, I j] [some (.arr 1 fl'.length (fun q => bif Nat.beq q (((i * (b.length : Int)) + j).toNat) then [I 1000000000] else (fI fl') q))] [inR .i64 (i * (b.length : Int)), inR .i64 ((i * (b.length : Int)) + j), (0 : Int) ≤ ((i * (b.length : Int)) + j) ∧ ((i * (b.length : Int)) + j) < (fl'.length : Int), ((i * (b.length : Int)) + j).toNat < fl'.length] ⟨(inR_i64 (by omega) (by omega)), (inR_i64 (by omega) (by omega)), ⟨(by omega), (by omega)⟩, (by omega), trivial⟩ ?_
         refine xe_block 3 ?_
         refine xe_then ?_
         refine x_weak [] (T := [(0, slFeat false a), (1, slFeat false b), (2, I band), (7, I (a.length : Int)), (8, I (b.length : Int)), (9, .arr 20), (10, I i), (11, I j)]) (O := [(20, .arr 1 ((fl'.set (((i * (b.length : Int)) + j).toNat) 1000000000).length) (fI (fl'.set (((i * (b.length : Int)) + j).toNat) 1000000000)))]) rfl (⟨.inl rfl, .inl rfl, .inl rfl, .inl rfl, .inl rfl, .inl rfl, .inl rfl, .inl rfl, trivial⟩) (⟨.inr ⟨rfl, (by first | rfl | (simp; done) | (simp; omega) | omega), fun i_ hi_ => .inl (upd_enc (enc := cI) rfl i_ hi_)⟩, trivial⟩) ?_
         refine x_r [] [0, 1, 2, 7, 8, 9, 10, 11] [20] [slFeat false a, slFeat false b, I band, I (a.length : Int), I (b.length : Int), .arr 20, I i, I (j + 1)] [some (.arr 1 ((fl'.set (((i * (b.length : Int)) + j).toNat) 1000000000).length) (fI (fl'.set (((i * (b.length : Int)) + j).toNat) 1000000000)))] [inR .i64 (j + 1)] ⟨(inR_i64 (by omega) (by omega)), trivial⟩ ?_
         exact xe_again ((j + 1), (fl'.set (((i * (b.length : Int)) + j).toNat) 1000000000)) rfl (show (0 ≤ (j + 1) ∧ (j + 1) ≤ (b.length : Int)) ∧ (flOk a b band (fl'.set (((i * (b.length : Int)) + j).toNat) 1000000000) (i.toNat * b.length + (j + 1).toNat)) ∧ True from ⟨(by omega), (by rw [show (j + 1).toNat = j.toNat + 1 from by omega]; exact fl_step hin hi hj hka (by rw [hsb.2]; unfold sb3 sb2 sb1 sb0; (repeat' split) <;> omega)), trivial⟩) (by first | (show (((b.length : Int) - (j + 1)).toNat : Nat) < ((b.length : Int) - j).toNat; omega) | (dsimp only; omega))
        by_cases h23 : band < ((i - j).natAbs : Int)
        ·refine x_r [(1, .dec false), (6, .call [(true, .any)] true (I ((i - j).natAbs : Int))), (8, .dec true)] [0, 1, 2, 7, 8, 9, 10, 11, 12, 90] [20] [slFeat false a, slFeat false b, I band, I (a.length : Int), I (b.length : Int), .arr 20, I i, I j, I (min 1000000000 (at_ fl' ((((i * (b.length : Int)) + j) - 1).toNat))), Bv true] [some (.arr 1 fl'.length (fI fl'))] [¬ ((min 1000000000 (at_ fl' ((((i * (b.length : Int)) + j) - 1).toNat))) = 1000000000), inR .i64 (i - j), Con Try.prog 53 [I (i - j)] true (I ((i - j).natAbs : Int)) ∧ True, band < ((i - j).natAbs : Int)] ⟨h22, (inR_i64 (by omega) (by omega)), ⟨(l09Size_ok (i - j) (by omega)), trivial⟩, h23, trivial⟩ ?_
         refine xe_then ?_
         refine x_true rfl ?_
         refine x_r [] [0, 1, 2, 7, 8, 9, 10, 11] [20] [slFeat false a, slFeat false b, I band, I (a.length : Int), I (b.length : Int), .arr 20, I i, I j] [some (.arr 1 fl'.length (fun q => bif Nat.beq q (((i * (b.length : Int)) + j).toNat) then [I 1000000000] else (fI fl') q))] [inR .i64 (i * (b.length : Int)), inR .i64 ((i * (b.length : Int)) + j), (0 : Int) ≤ ((i * (b.length : Int)) + j) ∧ ((i * (b.length : Int)) + j) < (fl'.length : Int), ((i * (b.length : Int)) + j).toNat < fl'.length] ⟨(inR_i64 (by omega) (by omega)), (inR_i64 (by omega) (by omega)), ⟨(by omega), (by omega)⟩, (by omega), trivial⟩ ?_
         refine xe_block 3 ?_
         refine xe_then ?_
         refine x_weak [] (T := [(0, slFeat false a), (1, slFeat false b), (2, I band), (7, I (a.length : Int)), (8, I (b.length : Int)), (9, .arr 20), (10, I i), (11, I j)]) (O := [(20, .arr 1 ((fl'.set (((i * (b.length : Int)) + j).toNat) 1000000000).length) (fI (fl'.set (((i * (b.length : Int)) + j).toNat) 1000000000)))]) rfl (⟨.inl rfl, .inl rfl, .inl rfl, .inl rfl, .inl rfl, .inl rfl, .inl rfl, .inl rfl, trivial⟩) (⟨.inr ⟨rfl, (by first | rfl | (simp; done) | (simp; omega) | omega), fun i_ hi_ => .inl (upd_enc (enc := cI) rfl i_ hi_)⟩, trivial⟩) ?_
         refine x_r [] [0, 1, 2, 7, 8, 9, 10, 11] [20] [slFeat false a, slFeat false b, I band, I (a.length : Int), I (b.length : Int), .arr 20, I i, I (j + 1)] [some (.arr 1 ((fl'.set (((i * (b.length : Int)) + j).toNat) 1000000000).length) (fI (fl'.set (((i * (b.length : Int)) + j).toNat) 1000000000)))] [inR .i64 (j + 1)] ⟨(inR_i64 (by omega) (by omega)), trivial⟩ ?_
         exact xe_again ((j + 1), (fl'.set (((i * (b.length : Int)) + j).toNat) 1000000000)) rfl (show (0 ≤ (j + 1) ∧ (j + 1) ≤ (b.length : Int)) ∧ (flOk a b band (fl'.set (((i * (b.length : Int)) + j).toNat) 1000000000) (i.toNat * b.length + (j + 1).toNat)) ∧ True from ⟨(by omega), (by rw [show (j + 1).toNat = j.toNat + 1 from by omega]; exact fl_step hin hi hj hka (by rw [hsb.2]; unfold sb3 sb2 sb1 sb0; (repeat' split) <;> omega)), trivial⟩) (by first | (show (((b.length : Int) - (j + 1)).toNat : Nat) < ((b.length : Int) - j).toNat; omega) | (dsimp only; omega))
        refine x_r [(1, .dec false), (6, .call [(true, .any)] true (I ((i - j).natAbs : Int))), (8, .dec false)] [0, 1, 2, 7, 8, 9, 10, 11, 12, 90] [20] [slFeat false a, slFeat false b, I band, I (a.length : Int), I (b.length : Int), .arr 20, I i, I j, I (min 1000000000 (at_ fl' ((((i * (b.length : Int)) + j) - 1).toNat))), Bv false] [some (.arr 1 fl'.length (fI fl'))] [¬ ((min 1000000000 (at_ fl' ((((i * (b.length : Int)) + j) - 1).toNat))) = 1000000000), inR .i64 (i - j), Con Try.prog 53 [I (i - j)] true (I ((i - j).natAbs : Int)) ∧ True, ¬ (band < ((i - j).natAbs : Int))] ⟨h22, (inR_i64 (by omega) (by omega)), ⟨(l09Size_ok (i - j) (by omega)), trivial⟩, h23, trivial⟩ ?_
        refine xe_then ?_
        refine x_false rfl ?_
        refine x_r [(15, .call [(true, .any), (true, .any)] true (I (costF (at_ a i.toNat) (at_ b j.toNat))))] [0, 1, 2, 7, 8, 9, 10, 11] [20] [slFeat false a, slFeat false b, I band, I (a.length : Int), I (b.length : Int), .arr 20, I i, I j] [some (.arr 1 fl'.length (fun q => bif Nat.beq q (((i * (b.length : Int)) + j).toNat) then [I ((min 1000000000 (at_ fl' ((((i * (b.length : Int)) + j) - 1).toNat))) + (costF (at_ a i.toNat) (at_ b j.toNat)))] else (fI fl') q))] [inR .i64 (i * (b.length : Int)), inR .i64 ((i * (b.length : Int)) + j), (0 : Int) ≤ i ∧ i < (a.length : Int), (0 : Int) ≤ j ∧ j < (b.length : Int), Con Try.prog 79 [agFeat (at_ a i.toNat), agFeat (at_ b j.toNat)] true (I (costF (at_ a i.toNat) (at_ b j.toNat))) ∧ True, inR .i64 ((min 1000000000 (at_ fl' ((((i * (b.length : Int)) + j) - 1).toNat))) + (costF (at_ a i.toNat) (at_ b j.toNat))), (0 : Int) ≤ ((i * (b.length : Int)) + j) ∧ ((i * (b.length : Int)) + j) < (fl'.length : Int), ((i * (b.length : Int)) + j).toNat < fl'.length] ⟨(inR_i64 (by omega) (by omega)), (inR_i64 (by omega) (by omega)), ⟨(by omega), (by omega)⟩, ⟨(by omega), (by omega)⟩, ⟨(l09Cost_ok (at_ a i.toNat) (at_ b j.toNat) (by first | exact hab.1 _ (by omega) | exact hab.2.1 _ (by omega)) (by first | exact hab.1 _ (by omega) | exact hab.2.1 _ (by omega))), trivial⟩, (inR_i64 (by omega) (by omega)), ⟨(by omega), (by omega)⟩, (by omega), trivial⟩ ?_
        refine xe_block 3 ?_
        refine xe_then ?_
        refine x_weak [] (T := [(0, slFeat false a), (1, slFeat false b), (2, I band), (7, I (a.length : Int)), (8, I (b.length : Int)), (9, .arr 20), (10, I i), (11, I j)]) (O := [(20, .arr 1 ((fl'.set (((i * (b.length : Int)) + j).toNat) ((min 1000000000 (at_ fl' ((((i * (b.length : Int)) + j) - 1).toNat))) + (costF (at_ a i.toNat) (at_ b j.toNat)))).length) (fI (fl'.set (((i * (b.length : Int)) + j).toNat) ((min 1000000000 (at_ fl' ((((i * (b.length : Int)) + j) - 1).toNat))) + (costF (at_ a i.toNat) (at_ b j.toNat))))))]) rfl (⟨.inl rfl, .inl rfl, .inl rfl, .inl rfl, .inl rfl, .inl rfl, .inl rfl, .inl rfl, trivial⟩) (⟨.inr ⟨rfl, (by first | rfl | (simp; done) | (simp; omega) | omega), fun i_ hi_ => .inl (upd_enc (enc := cI) rfl i_ hi_)⟩, trivial⟩) ?_
        refine x_r [] [0, 1, 2, 7, 8, 9, 10, 11] [20] [slFeat false a, slFeat false b, I band, I (a.length : Int), I (b.length : Int), .arr 20, I i, I (j + 1)] [some (.arr 1 ((fl'.set (((i * (b.length : Int)) + j).toNat) ((min 1000000000 (at_ fl' ((((i * (b.length : Int)) + j) - 1).toNat))) + (costF (at_ a i.toNat) (at_ b j.toNat)))).length) (fI (fl'.set (((i * (b.length : Int)) + j).toNat) ((min 1000000000 (at_ fl' ((((i * (b.length : Int)) + j) - 1).toNat))) + (costF (at_ a i.toNat) (at_ b j.toNat))))))] [inR .i64 (j + 1)] ⟨(inR_i64 (by omega) (by omega)), trivial⟩ ?_
        exact xe_again ((j + 1), (fl'.set (((i * (b.length : Int)) + j).toNat) ((min 1000000000 (at_ fl' ((((i * (b.length : Int)) + j) - 1).toNat))) + (costF (at_ a i.toNat) (at_ b j.toNat))))) rfl (show (0 ≤ (j + 1) ∧ (j + 1) ≤ (b.length : Int)) ∧ (flOk a b band (fl'.set (((i * (b.length : Int)) + j).toNat) ((min 1000000000 (at_ fl' ((((i * (b.length : Int)) + j) - 1).toNat))) + (costF (at_ a i.toNat) (at_ b j.toNat)))) (i.toNat * b.length + (j + 1).toNat)) ∧ True from ⟨(by omega), (by rw [show (j + 1).toNat = j.toNat + 1 from by omega]; exact fl_step hin hi hj hka (by rw [hsb.2]; unfold sb3 sb2 sb1 sb0; (repeat' split) <;> omega)), trivial⟩) (by first | (show (((b.length : Int) - (j + 1)).toNat : Nat) < ((b.length : Int) - j).toNat; omega) | (dsimp only; omega))
       refine x_r [(1, .dec false)] [0, 1, 2, 7, 8, 9, 10, 11, 12, 69] [20] [slFeat false a, slFeat false b, I band, I (a.length : Int), I (b.length : Int), .arr 20, I i, I j, I 1000000000, Bv false] [some (.arr 1 fl'.length (fI fl'))] [¬ (0 < j)] ⟨h21, trivial⟩ ?_
       refine xe_then ?_
       refine x_false rfl ?_
       refine x_skip ?_
       refine xe_then ?_
       refine xR [(1, .dec true)] [0, 1, 2, 7, 8, 9, 10, 11, 12, 90] [20] [slFeat false a, slFeat false b, I band, I (a.length : Int), I (b.length : Int), .arr 20, I i, I j, I 1000000000, Bv true] [some (.arr 1 fl'.length (fI fl'))] [(1000000000 : Int) = 1000000000] ⟨(by decide), trivial⟩ ?_
       refine x_true rfl ?_
       refine x_r [] [0, 1, 2, 7, 8, 9, 10, 11] [20] [slFeat false a, slFeat false b, I band, I (a.length : Int), I (b.length : Int), .arr 20, I i, I j] [some (.arr 1 fl'.length (fun q => bif Nat.beq q (((i * (b.length : Int)) + j).toNat) then [I 1000000000] else (fI fl') q))] [inR .i64 (i * (b.length : Int)), inR .i64 ((i * (b.length : Int)) + j), (0 : Int) ≤ ((i * (b.length : Int)) + j) ∧ ((i * (b.length : Int)) + j) < (fl'.length : Int), ((i * (b.length : Int)) + j).toNat < fl'.length] ⟨(inR_i64 (by omega) (by omega)), (inR_i64 (by omega) (by omega)), ⟨(by omega), (by omega)⟩, (by omega), trivial⟩ ?_
       refine xe_block 3 ?_
       refine xe_then ?_
       refine x_weak [] (T := [(0, slFeat false a), (1, slFeat false b), (2, I band), (7, I (a.length : Int)), (8, I (b.length : Int)), (9, .arr 20), (10, I i), (11, I j)]) (O := [(20, .arr 1 ((fl'.set (((i * (b.length : Int)) + j).toNat) 1000000000).length) (fI (fl'.set (((i * (b.length : Int)) + j).toNat) 1000000000)))]) rfl (⟨.inl rfl, .inl rfl, .inl rfl, .inl rfl, .inl rfl, .inl rfl, .inl rfl, .inl rfl, trivial⟩) (⟨.inr ⟨rfl, (by first | rfl | (simp; done) | (simp; omega) | omega), fun i_ hi_ => .inl (upd_enc (enc := cI) rfl i_ hi_)⟩, trivial⟩) ?_
       refine x_r [] [0, 1, 2, 7, 8, 9, 10, 11] [20] [slFeat false a, slFeat false b, I band, I (a.length : Int), I (b.length : Int), .arr 20, I i, I (j + 1)] [some (.arr 1 ((fl'.set (((i * (b.length : Int)) + j).toNat) 1000000000).length) (fI (fl'.set (((i * (b.length : Int)) + j).toNat) 1000000000)))] [inR .i64 (j + 1)] ⟨(inR_i64 (by omega) (by omega)), trivial⟩ ?_
       exact xe_again ((j + 1), (fl'.set (((i * (b.length : Int)) + j).toNat) 1000000000)) rfl (show (0 ≤ (j + 1) ∧ (j + 1) ≤ (b.length : Int)) ∧ (flOk a b band (fl'.set (((i * (b.length : Int)) + j).toNat) 1000000000) (i.toNat * b.length + (j + 1).toNat)) ∧ True from ⟨(by omega), (by rw [show (j + 1).toNat = j.toNat + 1 from by omega]; exact fl_step hin hi hj hka (by rw [hsb.2]; unfold sb3 sb2 sb1 sb0; (repeat' split) <;> omega)), trivial⟩) (by first | (show (((b.length : Int) - (j + 1)).toNat : Nat) < ((b.length : Int) - j).toNat; omega) | (dsimp only; omega))
      refine x_r [(1, .dec false)] [0, 1, 2, 7, 8, 9, 10, 11, 12, 36] [20] [slFeat false a, slFeat false b, I band, I (a.length : Int), I (b.length : Int), .arr 20, I i, I j, I 1000000000, Bv false] [some (.arr 1 fl'.length (fI fl'))] [¬ (i = 0)] ⟨h3, trivial⟩ ?_
      refine xe_then ?_
      refine x_false rfl ?_
      refine x_skip ?_
      refine xe_then ?_
      refine x_seq ?_
      refine x_seq ?_
      by_cases h24 : 0 < i
      ·by_cases h25 : 0 < j
       ·refine x_r [(1, .dec true), (4, .dec true)] [0, 1, 2, 7, 8, 9, 10, 11, 12, 42] [20] [slFeat false a, slFeat false b, I band, I (a.length : Int), I (b.length : Int), .arr 20, I i, I j, I 1000000000, Bv true] [some (.arr 1 fl'.length (fI fl'))] [0 < i, 0 < j] ⟨h24, h25, trivial⟩ ?_
        refine xe_then ?_
        refine x_true rfl ?_
        refine x_r [(11, .call [(true, .any), (true, .any)] true (I (min 1000000000 (at_ fl' (((((i - 1) * (b.length : Int)) + j) - 1).toNat)))))] [0, 1, 2, 7, 8, 9, 10, 11, 12] [20] [slFeat false a, slFeat false b, I band, I (a.length : Int), I (b.length : Int), .arr 20, I i, I j, I (min 1000000000 (at_ fl' (((((i - 1) * (b.length : Int)) + j) - 1).toNat)))] [some (.arr 1 fl'.length (fI fl'))] [inR .i64 (i - 1), inR .i64 ((i - 1) * (b.length : Int)), inR .i64 (((i - 1) * (b.length : Int)) + j), inR .i64 ((((i - 1) * (b.length : Int)) + j) - 1), (0 : Int) ≤ ((((i - 1) * (b.length : Int)) + j) - 1) ∧ ((((i - 1) * (b.length : Int)) + j) - 1) < (fl'.length : Int), ((((i - 1) * (b.length : Int)) + j) - 1).toNat < fl'.length, Con Try.prog 42 [I 1000000000, I (at_ fl' (((((i - 1) * (b.length : Int)) + j) - 1).toNat))] true (I (min 1000000000 (at_ fl' (((((i - 1) * (b.length : Int)) + j) - 1).toNat)))) ∧ True] ⟨(inR_i64 (by omega) (by omega)), (inR_i64 (by omega) (by omega)), (inR_i64 (by omega) (by omega)), (inR_i64 (by omega) (by omega)), ⟨(by omega), (by omega)⟩, (by omega), ⟨(l00Min_ok 1000000000 (at_ fl' (((((i - 1) * (b.length : Int)) + j) - 1).toNat))), trivial⟩, trivial⟩ ?_
        refine xe_then ?_
        refine x_seq ?_
        refine xR [(1, .dec true)] [0, 1, 2, 7, 8, 9, 10, 11, 12, 56] [20] [slFeat false a, slFeat false b, I band, I (a.length : Int), I (b.length : Int), .arr 20, I i, I j, I (min 1000000000 (at_ fl' (((((i - 1) * (b.length : Int)) + j) - 1).toNat))), Bv true] [some (.arr 1 fl'.length (fI fl'))] [0 < i] ⟨h24, trivial⟩ ?_
        refine x_true rfl ?_
        refine x_r [(10, .call [(true, .any), (true, .any)] true (I (min (min 1000000000 (at_ fl' (((((i - 1) * (b.length : Int)) + j) - 1).toNat))) (at_ fl' ((((i - 1) * (b.length : Int)) + j).toNat)))))] [0, 1, 2, 7, 8, 9, 10, 11, 12] [20] [slFeat false a, slFeat false b, I band, I (a.length : Int), I (b.length : Int), .arr 20, I i, I j, I (min (min 1000000000 (at_ fl' (((((i - 1) * (b.length : Int)) + j) - 1).toNat))) (at_ fl' ((((i - 1) * (b.length : Int)) + j).toNat)))] [some (.arr 1 fl'.length (fI fl'))] [inR .i64 (i - 1), inR .i64 ((i - 1) * (b.length : Int)), inR .i64 (((i - 1) * (b.length : Int)) + j), (0 : Int) ≤ (((i - 1) * (b.length : Int)) + j) ∧ (((i - 1) * (b.length : Int)) + j) < (fl'.length : Int), (((i - 1) * (b.length : Int)) + j).toNat < fl'.length, Con Try.prog 42 [I (min 1000000000 (at_ fl' (((((i - 1) * (b.length : Int)) + j) - 1).toNat))), I (at_ fl' ((((i - 1) * (b.length : Int)) + j).toNat))] true (I (min (min 1000000000 (at_ fl' (((((i - 1) * (b.length : Int)) + j) - 1).toNat))) (at_ fl' ((((i - 1) * (b.length : Int)) + j).toNat)))) ∧ True] ⟨(inR_i64 (by omega) (by omega)), (inR_i64 (by omega) (by omega)), (inR_i64 (by omega) (by omega)), ⟨(by omega), (by omega)⟩, (by omega), ⟨(l00Min_ok (min 1000000000 (at_ fl' (((((i - 1) * (b.length : Int)) + j) - 1).toNat))) (at_ fl' ((((i - 1) * (b.length : Int)) + j).toNat))), trivial⟩, trivial⟩ ?_
        refine xe_then ?_
        refine x_seq ?_
        refine xR [(1, .dec true)] [0, 1, 2, 7, 8, 9, 10, 11, 12, 69] [20] [slFeat false a, slFeat false b, I band, I (a.length : Int), I (b.length : Int), .arr 20, I i, I j, I (min (min 1000000000 (at_ fl' (((((i - 1) * (b.length : Int)) + j) - 1).toNat))) (at_ fl' ((((i - 1) * (b.length : Int)) + j).toNat))), Bv true] [some (.arr 1 fl'.length (fI fl'))] [0 < j] ⟨h25, trivial⟩ ?_
        refine x_true rfl ?_
        refine x_r [(10, .call [(true, .any), (true, .any)] true (I (min (min (min 1000000000 (at_ fl' (((((i - 1) * (b.length : Int)) + j) - 1).toNat))) (at_ fl' ((((i - 1) * (b.length : Int)) + j).toNat))) (at_ fl' ((((i * (b.length : Int)) + j) - 1).toNat)))))] [0, 1, 2, 7, 8, 9, 10, 11, 12] [20] [slFeat false a, slFeat false b, I band, I (a.length : Int), I (b.length : Int), .arr 20, I i, I j, I (min (min (min 1000000000 (at_ fl' (((((i - 1) * (b.length : Int)) + j) - 1).toNat))) (at_ fl' ((((i - 1) * (b.length : Int)) + j).toNat))) (at_ fl' ((((i * (b.length : Int)) + j) - 1).toNat)))] [some (.arr 1 fl'.length (fI fl'))] [inR .i64 (i * (b.length : Int)), inR .i64 ((i * (b.length : Int)) + j), inR .i64 (((i * (b.length : Int)) + j) - 1), (0 : Int) ≤ (((i * (b.length : Int)) + j) - 1) ∧ (((i * (b.length : Int)) + j) - 1) < (fl'.length : Int), (((i * (b.length : Int)) + j) - 1).toNat < fl'.length, Con Try.prog 42 [I (min (min 1000000000 (at_ fl' (((((i - 1) * (b.length : Int)) + j) - 1).toNat))) (at_ fl' ((((i - 1) * (b.length : Int)) + j).toNat))), I (at_ fl' ((((i * (b.length : Int)) + j) - 1).toNat))] true (I (min (min (min 1000000000 (at_ fl' (((((i - 1) * (b.length : Int)) + j) - 1).toNat))) (at_ fl' ((((i - 1) * (b.length : Int)) + j).toNat))) (at_ fl' ((((i * (b.length : Int)) + j) - 1).toNat)))) ∧ True] ⟨(inR_i64 (by omega) (by omega)), (inR_i64 (by omega) (by omega)), (inR_i64 (by omega) (by omega)), ⟨(by omega), (by omega)⟩, (by omega), ⟨(l00Min_ok (min (min 1000000000 (at_ fl' (((((i - 1) * (b.length : Int)) + j) - 1).toNat))) (at_ fl' ((((i - 1) * (b.length : Int)) + j).toNat))) (at_ fl' ((((i * (b.length : Int)) + j) - 1).toNat))), trivial⟩, trivial⟩ ?_
        refine xe_then ?_
        refine x_seq ?_
        by_cases h26 : (min (min (min 1000000000 (at_ fl' (((((i - 1) * (b.length : Int)) + j) - 1).toNat))) (at_ fl' ((((i - 1) * (b.length : Int)) + j).toNat))) (at_ fl' ((((i * (b.length : Int)) + j) - 1).toNat))) = 1000000000
        ·refine x_r [(1, .dec true)] [0, 1, 2, 7, 8, 9, 10, 11, 12, 90] [20] [slFeat false a, slFeat false b, I band, I (a.length : Int), I (b.length : Int), .arr 20, I i, I j, I (min (min (min 1000000000 (at_ fl' (((((i - 1) * (b.length : Int)) + j) - 1).toNat))) (at_ fl' ((((i - 1) * (b.length : Int)) + j).toNat))) (at_ fl' ((((i * (b.length : Int)) + j) - 1).toNat))), Bv true] [some (.arr 1 fl'.length (fI fl'))] [(min (min (min 1000000000 (at_ fl' (((((i - 1) * (b.length : Int)) + j) - 1).toNat))) (at_ fl' ((((i - 1) * (b.length : Int)) + j).toNat))) (at_ fl' ((((i * (b.length : Int)) + j) - 1).toNat))) = 1000000000] ⟨h26, trivial⟩ ?_
         refine xe_then ?_
         refine x_true rfl ?_
         refine x_r [] [0, 1, 2, 7, 8, 9, 10, 11] [20] [slFeat false a, slFeat false b, I band, I (a.length : Int), I (b.length : Int), .arr 20, I i, I j] [some (.arr 1 fl'.length (fun q => bif Nat.beq q (((i * (b.length : Int)) + j).toNat) then [I 1000000000] else (fI fl') q))] [inR .i64 (i * (b.length : Int)), inR .i64 ((i * (b.length : Int)) + j), (0 : Int) ≤ ((i * (b.length : Int)) + j) ∧ ((i * (b.length : Int)) + j) < (fl'.length : Int), ((i * (b.length : Int)) + j).toNat < fl'.length] ⟨(inR_i64 (by omega) (by omega)), (inR_i64 (by omega) (by omega)), ⟨(by omega), (by omega)⟩, (by omega), trivial⟩ ?_
         refine xe_block 3 ?_
         refine xe_then ?_
         refine x_weak [] (T := [(0, slFeat false a), (1, slFeat false b), (2, I band), (7, I (a.length : Int)), (8, I (b.length : Int)), (9, .arr 20), (10, I i), (11, I j)]) (O := [(20, .arr 1 ((fl'.set (((i * (b.length : Int)) + j).toNat) 1000000000).length) (fI (fl'.set (((i * (b.length : Int)) + j).toNat) 1000000000)))]) rfl (⟨.inl rfl, .inl rfl, .inl rfl, .inl rfl, .inl rfl, .inl rfl, .inl rfl, .inl rfl, trivial⟩) (⟨.inr ⟨rfl, (by first | rfl | (simp; done) | (simp; omega) | omega), fun i_ hi_ => .inl (upd_enc (enc := cI) rfl i_ hi_)⟩, trivial⟩) ?_
         refine x_r [] [0, 1, 2, 7, 8, 9, 10, 11] [20] [slFeat false a, slFeat false b, I band, I (a.length : Int), I (b.length : Int), .arr 20, I i, I (j + 1)] [some (.arr 1 ((fl'.set (((i * (b.length : Int)) + j).toNat) 1000000000).length) (fI (fl'.set (((i * (b.length : Int)) + j).toNat) 1000000000)))] [inR .i64 (j + 1)] ⟨(inR_i64 (by omega) (by omega)), trivial⟩ ?_
         exact xe_again ((j + 1), (fl'.set (((i * (b.length : Int)) + j).toNat) 1000000000)) rfl (show (0 ≤ (j + 1) ∧ (j + 1) ≤ (b.length : Int)) ∧ (flOk a b band (fl'.set (((i * (b.length : Int)) + j).toNat) 1000000000) (i.toNat * b.length + (j + 1).toNat)) ∧ True from ⟨(by omega), (by rw [show (j + 1).toNat = j.toNat + 1 from by omega]; exact fl_step hin hi hj hka (by rw [hsb.2]; unfold sb3 sb2 sb1 sb0; (repeat' split) <;> omega)), trivial⟩) (by first | (show (((b.length : Int) - (j + 1)).toNat : Nat) < ((b.length : Int) - j).toNat; omega) | (dsimp only; omega))
        by_cases h27 : band < ((i - j).natAbs : Int)
        ·refine x_r [(1, .dec false), (6, .call [(true, .any)] true (I ((i - j).natAbs : Int))), (8, .dec true)] [0, 1, 2, 7, 8, 9, 10, 11, 12, 90] [20] [slFeat false a, slFeat false b, I band, I (a.length : Int), I (b.length : Int), .arr 20, I i, I j, I (min (min (min 1000000000 (at_ fl' (((((i - 1) * (b.length : Int)) + j) - 1).toNat))) (at_ fl' ((((i - 1) * (b.length : Int)) + j).toNat))) (at_ fl' ((((i * (b.length : Int)) + j) - 1).toNat))), Bv true] [some (.arr 1 fl'.length (fI fl'))] [¬ ((min (min (min 1000000000 (at_ fl' (((((i - 1) * (b.length : Int)) + j) - 1).toNat))) (at_ fl' ((((i - 1) * (b.length : Int)) + j).toNat))) (at_ fl' ((((i * (b.length : Int)) + j) - 1).toNat))) = 1000000000), inR .i64 (i - j), Con Try.prog 53 [I (i - j)] true (I ((i - j).natAbs : Int)) ∧ True, band < ((i - j).natAbs : Int)] ⟨h26, (inR_i64 (by omega) (by omega)), ⟨(l09Size_ok (i - j) (by omega)), trivial⟩, h27, trivial⟩ ?_
         refine xe_then ?_
         refine x_true rfl ?_
         refine x_r [] [0, 1, 2, 7, 8, 9, 10, 11] [20] [slFeat false a, slFeat false b, I band, I (a.length : Int), I (b.length : Int), .arr 20, I i, I j] [some (.arr 1 fl'.length (fun q => bif Nat.beq q (((i * (b.length : Int)) + j).toNat) then [I 1000000000] else (fI fl') q))] [inR .i64 (i * (b.length : Int)), inR .i64 ((i * (b.length : Int)) + j), (0 : Int) ≤ ((i * (b.length : Int)) + j) ∧ ((i * (b.length : Int)) + j) < (fl'.length : Int), ((i * (b.length : Int)) + j).toNat < fl'.length] ⟨(inR_i64 (by omega) (by omega)), (inR_i64 (by omega) (by omega)), ⟨(by omega), (by omega)⟩, (by omega), trivial⟩ ?_
         refine xe_block 3 ?_
         refine xe_then ?_
         refine x_weak [] (T := [(0, slFeat false a), (1, slFeat false b), (2, I band), (7, I (a.length : Int)), (8, I (b.length : Int)), (9, .arr 20), (10, I i), (11, I j)]) (O := [(20, .arr 1 ((fl'.set (((i * (b.length : Int)) + j).toNat) 1000000000).length) (fI (fl'.set (((i * (b.length : Int)) + j).toNat) 1000000000)))]) rfl (⟨.inl rfl, .inl rfl, .inl rfl, .inl rfl, .inl rfl, .inl rfl, .inl rfl, .inl rfl, trivial⟩) (⟨.inr ⟨rfl, (by first | rfl | (simp; done) | (simp; omega) | omega), fun i_ hi_ => .inl (upd_enc (enc := cI) rfl i_ hi_)⟩, trivial⟩) ?_
         refine x_r [] [0, 1, 2, 7, 8, 9, 10, 11] [20] [slFeat false a, slFeat false b, I band, I (a.length : Int), I (b.length : Int), .arr 20, I i, I (j + 1)] [some (.arr 1 ((fl'.set (((i * (b.length : Int)) + j).toNat) 1000000000).length) (fI (fl'.set (((i * (b.length : Int)) + j).toNat) 1000000000)))] [inR .i64 (j + 1)] ⟨(inR_i64 (by omega) (by omega)), trivial⟩ ?_
         exact xe_again ((j + 1), (fl'.set (((i * (b.length : Int)) + j).toNat) 1000000000)) rfl (show (0 ≤ (j + 1) ∧ (j + 1) ≤ (b.length : Int)) ∧ (flOk a b band (fl'.set (((i * (b.length : Int)) + j).toNat) 1000000000) (i.toNat * b.length + (j + 1).toNat)) ∧ True from ⟨(by omega), (by rw [show (j + 1).toNat = j.toNat + 1 from by omega]; exact fl_step hin hi hj hka (by rw [hsb.2]; unfold sb3 sb2 sb1 sb0; (repeat' split) <;> omega)), trivial⟩) (by first | (show (((b.length : Int) - (j + 1)).toNat : Nat) < ((b.length : Int) - j).toNat; omega) | (dsimp only; omega))
        refine x_r [(1, .dec false), (6, .call [(true, .any)] true (I ((i - j).natAbs : Int))), (8, .dec false)] [0, 1, 2, 7, 8, 9, 10, 11, 12, 90] [20] [slFeat false a, slFeat false b, I band, I (a.length : Int), I (b.length : Int), .arr 20, I i, I j, I (min (min (min 1000000000 (at_ fl' (((((i - 1) * (b.length : Int)) + j) - 1).toNat))) (at_ fl' ((((i - 1) * (b.length : Int)) + j).toNat))) (at_ fl' ((((i * (b.length : Int)) + j) - 1).toNat))), Bv false] [some (.arr 1 fl'.length (fI fl'))] [¬ ((min (min (min 1000000000 (at_ fl' (((((i - 1) * (b.length : Int)) + j) - 1).toNat))) (at_ fl' ((((i - 1) * (b.length : Int)) + j).toNat))) (at_ fl' ((((i * (b.length : Int)) + j) - 1).toNat))) = 1000000000), inR .i64 (i - j), Con Try.prog 53 [I (i - j)] true (I ((i - j).natAbs : Int)) ∧ True, ¬ (band < ((i - j).natAbs : Int))] ⟨h26, (inR_i64 (by omega) (by omega)), ⟨(l09Size_ok (i - j) (by omega)), trivial⟩, h27, trivial⟩ ?_
        refine xe_then ?_
        refine x_false rfl ?_
        refine x_r [(15, .call [(true, .any), (true, .any)] true (I (costF (at_ a i.toNat) (at_ b j.toNat))))] [0, 1, 2, 7, 8, 9, 10, 11] [20] [slFeat false a, slFeat false b, I band, I (a.length : Int), I (b.length : Int), .arr 20, I i, I j] [some (.arr 1 fl'.length (fun q => bif Nat.beq q (((i * (b.length : Int)) + j).toNat) then [I ((min (min (min 1000000000 (at_ fl' (((((i - 1) * (b.length : Int)) + j) - 1).toNat))) (at_ fl' ((((i - 1) * (b.length : Int)) + j).toNat))) (at_ fl' ((((i * (b.length : Int)) + j) - 1).toNat))) + (costF (at_ a i.toNat) (at_ b j.toNat)))] else (fI fl') q))] [inR .i64 (i * (b.length : Int)), inR .i64 ((i * (b.length : Int)) + j), (0 : Int) ≤ i ∧ i < (a.length : Int), (0 : Int) ≤ j ∧ j < (b.length : Int), Con Try.prog 79 [agFeat (at_ a i.toNat), agFeat (at_ b j.toNat)] true (I (costF (at_ a i.toNat) (at_ b j.toNat))) ∧ True, inR .i64 ((min (min (min 1000000000 (at_ fl' (((((i - 1) * (b.length : Int)) + j) - 1).toNat))) (at_ fl' ((((i - 1) * (b.length : Int)) + j).toNat))) (at_ fl' ((((i * (b.length : Int)) + j) - 1).toNat))) + (costF (at_ a i.toNat) (at_ b j.toNat))), (0 : Int) ≤ ((i * (b.length : Int)) + j) ∧ ((i * (b.length : Int)) + j) < (fl'.length : Int), ((i * (b.length : Int)) + j).toNat < fl'.length] ⟨(inR_i64 (by omega) (by omega)), (inR_i64 (by omega) (by omega)), ⟨(by omega), (by omega)⟩, ⟨(by omega), (by omega)⟩, ⟨(l09Cost_ok (at_ a i.toNat) (at_ b j.toNat) (by first | exact hab.1 _ (by omega) | exact hab.2.1 _ (by omega)) (by first | exact hab.1 _ (by omega) | exact hab.2.1 _ (by omega))), trivial⟩, (inR_i64 (by omega) (by omega)), ⟨(by omega), (by omega)⟩, (by omega), trivial⟩ ?_
        refine xe_block 3 ?_
        refine xe_then ?_
        refine x_weak [] (T := [(0, slFeat false a), (1, slFeat false b), (2, I band), (7, I (a.length : Int)), (8, I (b.length : Int)), (9, .arr 20), (10, I i), (11, I j)]) (O := [(20, .arr 1 ((fl'.set (((i * (b.length : Int)) + j).toNat) ((min (min (min 1000000000 (at_ fl' (((((i - 1) * (b.length : Int)) + j) - 1).toNat))) (at_ fl' ((((i - 1) * (b.length : Int)) + j).toNat))) (at_ fl' ((((i * (b.length : Int)) + j) - 1).toNat))) + (costF (at_ a i.toNat) (at_ b j.toNat)))).length) (fI (fl'.set (((i * (b.length : Int)) + j).toNat) ((min (min (min 1000000000 (at_ fl' (((((i - 1) * (b.length : Int)) + j) - 1).toNat))) (at_ fl' ((((i - 1) * (b.length : Int)) + j).toNat))) (at_ fl' ((((i * (b.length : Int)) + j) - 1).toNat))) + (costF (at_ a i.toNat) (at_ b j.toNat))))))]) rfl (⟨.inl rfl, .inl rfl, .inl rfl, .inl rfl, .inl rfl, .inl rfl, .inl rfl, .inl rfl, trivial⟩) (⟨.inr ⟨rfl, (by first | rfl | (simp; done) | (simp; omega) | omega), fun i_ hi_ => .inl (upd_enc (enc := cI) rfl i_ hi_)⟩, trivial⟩) ?_
        refine x_r [] [0, 1, 2, 7, 8, 9, 10, 11] [20] [slFeat false a, slFeat false b, I band, I (a.length : Int), I (b.length : Int), .arr 20, I i, I (j + 1)] [some (.arr 1 ((fl'.set (((i * (b.length : Int)) + j).toNat) ((min (min (min 1000000000 (at_ fl' (((((i - 1) * (b.length : Int)) + j) - 1).toNat))) (at_ fl' ((((i - 1) * (b.length : Int)) + j).toNat))) (at_ fl' ((((i * (b.length : Int)) + j) - 1).toNat))) + (costF (at_ a i.toNat) (at_ b j.toNat)))).length) (fI (fl'.set (((i * (b.length : Int)) + j).toNat) ((min (min (min 1000000000 (at_ fl' (((((i - 1) * (b.length : Int)) + j) - 1).toNat))) (at_ fl' ((((i - 1) * (b.length : Int)) + j).toNat))) (at_ fl' ((((i * (b.length : Int)) + j) - 1).toNat))) + (costF (at_ a i.toNat) (at_ b j.toNat))))))] [inR .i64 (j + 1)] ⟨(inR_i64 (by omega) (by omega)), trivial⟩ ?_
        exact xe_again ((j + 1), (fl'.set (((i * (b.length : Int)) + j).toNat) ((min (min (min 1000000000 (at_ fl' (((((i - 1) * (b.length : Int)) + j) - 1).toNat))) (at_ fl' ((((i - 1) * (b.length : Int)) + j).toNat))) (at_ fl' ((((i * (b.length : Int)) + j) - 1).toNat))) + (costF (at_ a i.toNat) (at_ b j.toNat))))) rfl (show (0 ≤ (j + 1) ∧ (j + 1) ≤ (b.length : Int)) ∧ (flOk a b band (fl'.set (((i * (b.length : Int)) + j).toNat) ((min (min (min 1000000000 (at_ fl' (((((i - 1) * (b.length : Int)) + j) - 1).toNat))) (at_ fl' ((((i - 1) * (b.length : Int)) + j).toNat))) (at_ fl' ((((i * (b.length : Int)) + j) - 1).toNat))) + (costF (at_ a i.toNat) (at_ b j.toNat)))) (i.toNat * b.length + (j + 1).toNat)) ∧ True from ⟨(by omega), (by rw [show (j + 1).toNat = j.toNat + 1 from by omega]; exact fl_step hin hi hj hka (by rw [hsb.2]; unfold sb3 sb2 sb1 sb0; (repeat' split) <;> omega)), trivial⟩) (by first | (show (((b.length : Int) - (j + 1)).toNat : Nat) < ((b.length : Int) - j).toNat; omega) | (dsimp only; omega))
       refine x_r [(1, .dec true), (4, .dec false)] [0, 1, 2, 7, 8, 9, 10, 11, 12, 42] [20] [slFeat false a, slFeat false b, I band, I (a.length : Int), I (b.length : Int), .arr 20, I i, I j, I 1000000000, Bv false] [some (.arr 1 fl'.length (fI fl'))] [0 < i, ¬ (0 < j)] ⟨h24, h25, trivial⟩ ?_
       refine xe_then ?_
       refine x_false rfl ?_
       refine x_skip ?_
       refine xe_then ?_
       refine x_seq ?_
       refine xR [(1, .dec true)] [0, 1, 2, 7, 8, 9, 10, 11, 12, 56] [20] [slFeat false a, slFeat false b, I band, I (a.length : Int), I (b.length : Int), .arr 20, I i, I j, I 1000000000, Bv true] [some (.arr 1 fl'.length (fI fl'))] [0 < i] ⟨h24, trivial⟩ ?_
       refine x_true rfl ?_
       refine x_r [(10, .call [(true, .any), (true, .any)] true (I (min 1000000000 (at_ fl' ((((i - 1) * (b.length : Int)) + j).toNat)))))] [0, 1, 2, 7, 8, 9, 10, 11, 12] [20] [slFeat false a, slFeat false b, I band, I (a.length : Int), I (b.length : Int), .arr 20, I i, I j, I (min 1000000000 (at_ fl' ((((i - 1) * (b.length : Int)) + j).toNat)))] [some (.arr 1 fl'.length (fI fl'))] [inR .i64 (i - 1), inR .i64 ((i - 1) * (b.length : Int)), inR .i64 (((i - 1) * (b.length : Int)) + j), (0 : Int) ≤ (((i - 1) * (b.length : Int)) + j) ∧ (((i - 1) * (b.length : Int)) + j) < (fl'.length : Int), (((i - 1) * (b.length : Int)) + j).toNat < fl'.length, Con Try.prog 42 [I 1000000000, I (at_ fl' ((((i - 1) * (b.length : Int)) + j).toNat))] true (I (min 1000000000 (at_ fl' ((((i - 1) * (b.length : Int)) + j).toNat)))) ∧ True] ⟨(inR_i64 (by omega) (by omega)), (inR_i64 (by omega) (by omega)), (inR_i64 (by omega) (by omega)), ⟨(by omega), (by omega)⟩, (by omega), ⟨(l00Min_ok 1000000000 (at_ fl' ((((i - 1) * (b.length : Int)) + j).toNat))), trivial⟩, trivial⟩ ?_
       refine xe_then ?_
       refine x_seq ?_
       refine xR [(1, .dec false)] [0, 1, 2, 7, 8, 9, 10, 11, 12, 69] [20] [slFeat false a, slFeat false b, I band, I (a.length : Int), I (b.length : Int), .arr 20, I i, I j, I (min 1000000000 (at_ fl' ((((i - 1) * (b.length : Int)) + j).toNat))), Bv false] [some (.arr 1 fl'.length (fI fl'))] [¬ (0 < j)] ⟨h25, trivial⟩ ?_
       refine x_false rfl ?_
       refine x_skip ?_
       refine xe_then ?_
       refine x_seq ?_
       by_cases h28 : (min 1000000000 (at_ fl' ((((i - 1) * (b.length : Int)) + j).toNat))) = 1000000000
       ·refine x_r [(1, .dec true)] [0, 1, 2, 7, 8, 9, 10, 11, 12, 90] [20] [slFeat false a, slFeat false b, I band, I (a.length : Int), I (b.length : Int), .arr 20, I i, I j, I (min 1000000000 (at_ fl' ((((i - 1) * (b.length : Int)) + j).toNat))), Bv true] [some (.arr 1 fl'.length (fI fl'))] [(min 1000000000 (at_ fl' ((((i - 1) * (b.length : Int)) + j).toNat))) = 1000000000] ⟨h28, trivial⟩ ?_
        refine xe_then ?_
        refine x_true rfl ?_
        refine x_r [] [0, 1, 2, 7, 8, 9, 10, 11] [20] [slFeat false a, slFeat false b, I band, I (a.length : Int), I (b.length : Int), .arr 20, I i, I j] [some (.arr 1 fl'.length (fun q => bif Nat.beq q (((i * (b.length : Int)) + j).toNat) then [I 1000000000] else (fI fl') q))] [inR .i64 (i * (b.length : Int)), inR .i64 ((i * (b.length : Int)) + j), (0 : Int) ≤ ((i * (b.length : Int)) + j) ∧ ((i * (b.length : Int)) + j) < (fl'.length : Int), ((i * (b.length : Int)) + j).toNat < fl'.length] ⟨(inR_i64 (by omega) (by omega)), (inR_i64 (by omega) (by omega)), ⟨(by omega), (by omega)⟩, (by omega), trivial⟩ ?_
        refine xe_block 3 ?_
        refine xe_then ?_
        refine x_weak [] (T := [(0, slFeat false a), (1, slFeat false b), (2, I band), (7, I (a.length : Int)), (8, I (b.length : Int)), (9, .arr 20), (10, I i), (11, I j)]) (O := [(20, .arr 1 ((fl'.set (((i * (b.length : Int)) + j).toNat) 1000000000).length) (fI (fl'.set (((i * (b.length : Int)) + j).toNat) 1000000000)))]) rfl (⟨.inl rfl, .inl rfl, .inl rfl, .inl rfl, .inl rfl, .inl rfl, .inl rfl, .inl rfl, trivial⟩) (⟨.inr ⟨rfl, (by first | rfl | (simp; done) | (simp; omega) | omega), fun i_ hi_ => .inl (upd_enc (enc := cI) rfl i_ hi_)⟩, trivial⟩) ?_
        refine x_r [] [0, 1, 2, 7, 8, 9, 10, 11] [20] [slFeat false a, slFeat false b, I band, I (a.length : Int), I (b.length : Int), .arr 20, I i, I (j + 1)] [some (.arr 1 ((fl'.set (((i * (b.length : Int)) + j).toNat) 1000000000).length) (fI (fl'.set (((i * (b.length : Int)) + j).toNat) 1000000000)))] [inR .i64 (j + 1)] ⟨(inR_i64 (by omega) (by omega)), trivial⟩ ?_
        exact xe_again ((j + 1), (fl'.set (((i * (b.length : Int)) + j).toNat) 1000000000)) rfl (show (0 ≤ (j + 1) ∧ (j + 1) ≤ (b.length : Int)) ∧ (flOk a b band (fl'.set (((i * (b.length : Int)) + j).toNat) 1000000000) (i.toNat * b.length + (j + 1).toNat)) ∧ True from ⟨(by omega), (by rw [show (j + 1).toNat = j.toNat + 1 from by omega]; exact fl_step hin hi hj hka (by rw [hsb.2]; unfold sb3 sb2 sb1 sb0; (repeat' split) <;> omega)), trivial⟩) (by first | (show (((b.length : Int) - (j + 1)).toNat : Nat) < ((b.length : Int) - j).toNat; omega) | (dsimp only; omega))
       by_cases h29 : band < ((i - j).natAbs : Int)
       ·refine x_r [(1, .dec false), (6, .call [(true, .any)] true (I ((i - j).natAbs : Int))), (8, .dec true)] [0, 1, 2, 7, 8, 9, 10, 11, 12, 90] [20] [slFeat false a, slFeat false b, I band, I (a.length : Int), I (b.length : Int), .arr 20, I i, I j, I (min 1000000000 (at_ fl' ((((i - 1) * (b.length : Int)) + j).toNat))), Bv true] [some (.arr 1 fl'.length (fI fl'))] [¬ ((min 1000000000 (at_ fl' ((((i - 1) * (b.length : Int)) + j).toNat))) = 1000000000), inR .i64 (i - j), Con Try.prog 53 [I (i - j)] true (I ((i - j).natAbs : Int)) ∧ True, band < ((i - j).natAbs : Int)] ⟨h28, (inR_i64 (by omega) (by omega)), ⟨(l09Size_ok (i - j) (by omega)), trivial⟩, h29, trivial⟩ ?_
        refine xe_then ?_
        refine x_true rfl ?_
        refine x_r [] [0, 1, 2, 7, 8, 9, 10, 11] [20] [slFeat false a, slFeat false b, I band, I (a.length : Int), I (b.length : Int), .arr 20, I i, I j] [some (.arr 1 fl'.length (fun q => bif Nat.beq q (((i * (b.length : Int)) + j).toNat) then [I 1000000000] else (fI fl') q))] [inR .i64 (i * (b.length : Int)), inR .i64 ((i * (b.length : Int)) + j), (0 : Int) ≤ ((i * (b.length : Int)) + j) ∧ ((i * (b.length : Int)) + j) < (fl'.length : Int), ((i * (b.length : Int)) + j).toNat < fl'.length] ⟨(inR_i64 (by omega) (by omega)), (inR_i64 (by omega) (by omega)), ⟨(by omega), (by omega)⟩, (by omega), trivial⟩ ?_
        refine xe_block 3 ?_
        refine xe_then ?_
        refine x_weak [] (T := [(0, slFeat false a), (1, slFeat false b), (2, I band), (7, I (a.length : Int)), (8, I (b.length : Int)), (9, .arr 20), (10, I i), (11, I j)]) (O := [(20, .arr 1 ((fl'.set (((i * (b.length : Int)) + j).toNat) 1000000000).length) (fI (fl'.set (((i * (b.length : Int)) + j).toNat) 1000000000)))]) rfl (⟨.inl rfl, .inl rfl, .inl rfl, .inl rfl, .inl rfl, .inl rfl, .inl rfl, .inl rfl, trivial⟩) (⟨.inr ⟨rfl, (by first | rfl | (simp; done) | (simp; omega) | omega), fun i_ hi_ => .inl (upd_enc (enc := cI) rfl i_ hi_)⟩, trivial⟩) ?_
        refine x_r [] [0, 1, 2, 7, 8, 9, 10, 11] [20] [slFeat false a, slFeat false b, I band, I (a.length : Int), I (b.length : Int), .arr 20, I i, I (j + 1)] [some (.arr 1 ((fl'.set (((i * (b.length : Int)) + j).toNat) 1000000000).length) (fI (fl'.set (((i * (b.length : Int)) + j).toNat) 1000000000)))] [inR .i64 (j + 1)] ⟨(inR_i64 (by omega) (by omega)), trivial⟩ ?_
        exact xe_again ((j + 1), (fl'.set (((i * (b.length : Int)) + j).toNat) 1000000000)) rfl (show (0 ≤ (j + 1) ∧ (j + 1) ≤ (b.length : Int)) ∧ (flOk a b band (fl'.set (((i * (b.length : Int)) + j).toNat) 1000000000) (i.toNat * b.length + (j + 1).toNat)) ∧ True from ⟨(by omega), (by rw [show (j + 1).toNat = j.toNat + 1 from by omega]; exact fl_step hin hi hj hka (by rw [hsb.2]; unfold sb3 sb2 sb1 sb0; (repeat' split) <;> omega)), trivial⟩) (by first | (show (((b.length : Int) - (j + 1)).toNat : Nat) < ((b.length : Int) - j).toNat; omega) | (dsimp only; omega))
       refine x_r [(1, .dec false), (6, .call [(true, .any)] true (I ((i - j).natAbs : Int))), (8, .dec false)] [0, 1, 2, 7, 8, 9, 10, 11, 12, 90] [20] [slFeat false a, slFeat false b, I band, I (a.length : Int), I (b.length : Int), .arr 20, I i, I j, I (min 1000000000 (at_ fl' ((((i - 1) * (b.length : Int)) + j).toNat))), Bv false] [some (.arr 1 fl'.length (fI fl'))] [¬ ((min 1000000000 (at_ fl' ((((i - 1) * (b.length : Int)) + j).toNat))) = 1000000000), inR .i64 (i - j), Con Try.prog 53 [I (i - j)] true (I ((i - j).natAbs : Int)) ∧ True, ¬ (band < ((i - j).natAbs : Int))] ⟨h28, (inR_i64 (by omega) (by omega)), ⟨(l09Size_ok (i - j) (by omega)), trivial⟩, h29, trivial⟩ ?_
       refine xe_then ?_
       refine x_false rfl ?_
       refine x_r [(15, .call [(true, .any), (true, .any)] true (I (costF (at_ a i.toNat) (at_ b j.toNat))))] [0, 1, 2, 7, 8, 9, 10, 11] [20] [slFeat false a, slFeat false b, I band, I (a.length : Int), I (b.length : Int), .arr 20, I i, I j] [some (.arr 1 fl'.length (fun q => bif Nat.beq q (((i * (b.length : Int)) + j).toNat) then [I ((min 1000000000 (at_ fl' ((((i - 1) * (b.length : Int)) + j).toNat))) + (costF (at_ a i.toNat) (at_ b j.toNat)))] else (fI fl') q))] [inR .i64 (i * (b.length : Int)), inR .i64 ((i * (b.length : Int)) + j), (0 : Int) ≤ i ∧ i < (a.length : Int), (0 : Int) ≤ j ∧ j < (b.length : Int), Con Try.prog 79 [agFeat (at_ a i.toNat), agFeat (at_ b j.toNat)] true (I (costF (at_ a i.toNat) (at_ b j.toNat))) ∧ True, inR .i64 ((min 1000000000 (at_ fl' ((((i - 1) * (b.length : Int)) + j).toNat))) + (costF (at_ a i.toNat) (at_ b j.toNat))), (0 : Int) ≤ ((i * (b.length : Int)) + j) ∧ ((i * (b.length : Int)) + j) < (fl'.length : Int), ((i * (b.length : Int)) + j).toNat < fl'.length] ⟨(inR_i64 (by omega) (by omega)), (inR_i64 (by omega) (by omega)), ⟨(by omega), (by omega)⟩, ⟨(by omega), (by omega)⟩, ⟨(l09Cost_ok (at_ a i.toNat) (at_ b j.toNat) (by first | exact hab.1 _ (by omega) | exact hab.2.1 _ (by omega)) (by first | exact hab.1 _ (by omega) | exact hab.2.1 _ (by omega))), trivial⟩, (inR_i64 (by omega) (by omega)), ⟨(by omega), (by omega)⟩, (by omega), trivial⟩ ?_
       refine xe_block 3 ?_
       refine xe_then ?_
       refine x_weak [] (T := [(0, slFeat false a), (1, slFeat false b), (2, I band), (7, I (a.length : Int)), (8, I (b.length : Int)), (9, .arr 20), (10, I i), (11, I j)]) (O := [(20, .arr 1 ((fl'.set (((i * (b.length : Int)) + j).toNat) ((min 1000000000 (at_ fl' ((((i - 1) * (b.length : Int)) + j).toNat))) + (costF (at_ a i.toNat) (at_ b j.toNat)))).length) (fI (fl'.set (((i * (b.length : Int)) + j).toNat) ((min 1000000000 (at_ fl' ((((i - 1) * (b.length : Int)) + j).toNat))) + (costF (at_ a i.toNat) (at_ b j.toNat))))))]) rfl (⟨.inl rfl, .inl rfl, .inl rfl, .inl rfl, .inl rfl, .inl rfl, .inl rfl, .inl rfl, trivial⟩) (⟨.inr ⟨rfl, (by first | rfl | (simp; done) | (simp; omega) | omega), fun i_ hi_ => .inl (upd_enc (enc := cI) rfl i_ hi_)⟩, trivial⟩) ?_
       refine x_r [] [0, 1, 2, 7, 8, 9, 10, 11] [20] [slFeat false a, slFeat false b, I band, I (a.length : Int), I (b.length : Int), .arr 20, I i, I (j + 1)] [some (.arr 1 ((fl'.set (((i * (b.length : Int)) + j).toNat) ((min 1000000000 (at_ fl' ((((i - 1) * (b.length : Int)) + j).toNat))) + (costF (at_ a i.toNat) (at_ b j.toNat)))).length) (fI (fl'.set (((i * (b.length : Int)) + j).toNat) ((min 1000000000 (at_ fl' ((((i - 1) * (b.length : Int)) + j).toNat))) + (costF (at_ a i.toNat) (at_ b j.toNat))))))] [inR .i64 (j + 1)] ⟨(inR_i64 (by omega) (by omega)), trivial⟩ ?_
       exact xe_again ((j + 1), (fl'.set (((i * (b.length : Int)) + j).toNat) ((min 1000000000 (at_ fl' ((((i - 1) * (b.length : Int)) + j).toNat))) + (costF (at_ a i.toNat) (at_ b j.toNat))))) rfl (show (0 ≤ (j + 1) ∧ (j + 1) ≤ (b.length : Int)) ∧ (flOk a b band (fl'.set (((i * (b.length : Int)) + j).toNat) ((min 1000000000 (at_ fl' ((((i - 1) * (b.length : Int)) + j).toNat))) + (costF (at_ a i.toNat) (at_ b j.toNat)))) (i.toNat * b.length + (j + 1).toNat)) ∧ True from ⟨(by omega), (by rw [show (j + 1).toNat = j.toNat + 1 from by omega]; exact fl_step hin hi hj hka (by rw [hsb.2]; unfold sb3 sb2 sb1 sb0; (repeat' split) <;> omega)), trivial⟩) (by first | (show (((b.length : Int) - (j + 1)).toNat : Nat) < ((b.length : Int) - j).toNat; omega) | (dsimp only; omega))
      refine x_r [(1, .dec false)] [0, 1, 2, 7, 8, 9, 10, 11, 12, 42] [20] [slFeat false a, slFeat false b, I band, I (a.length : Int), I (b.length : Int), .arr 20, I i, I j, I 1000000000, Bv false] [some (.arr 1 fl'.length (fI fl'))] [¬ (0 < i)] ⟨h24, trivial⟩ ?_
      refine xe_then ?_
      refine x_false rfl ?_
      refine x_skip ?_
      refine xe_then ?_
      refine x_seq ?_
      refine xR [(1, .dec false)] [0, 1, 2, 7, 8, 9, 10, 11, 12, 56] [20] [slFeat false a, slFeat false b, I band, I (a.length : Int), I (b.length : Int), .arr 20, I i, I j, I 1000000000, Bv false] [some (.arr 1 fl'.length (fI fl'))] [¬ (0 < i)] ⟨h24, trivial⟩ ?_
      refine x_false rfl ?_
      refine x_skip ?_
      refine xe_then ?_
      refine x_seq ?_
      refine x_seq ?_
      by_cases h30 : 0 < j
      ·refine x_r [(1, .dec true)] [0, 1, 2, 7, 8, 9, 10, 11, 12, 69] [20] [slFeat false a, slFeat false b, I band, I (a.length : Int), I (b.length : Int), .arr 20, I i, I j, I 1000000000, Bv true] [some (.arr 1 fl'.length (fI fl'))] [0 < j] ⟨h30, trivial⟩ ?_
       refine xe_then ?_
       refine x_true rfl ?_
       refine x_r [(10, .call [(true, .any), (true, .any)] true (I (min 1000000000 (at_ fl' ((((i * (b.length : Int)) + j) - 1).toNat)))))] [0, 1, 2, 7, 8, 9, 10, 11, 12] [20] [slFeat false a, slFeat false b, I band, I (a.length : Int), I (b.length : Int), .arr 20, I i, I j, I (min 1000000000 (at_ fl' ((((i * (b.length : Int)) + j) - 1).toNat)))] [some (.arr 1 fl'.length (fI fl'))] [inR .i64 (i * (b.length : Int)), inR .i64 ((i * (b.length : Int)) + j), inR .i64 (((i * (b.length : Int)) + j) - 1), (0 : Int) ≤ (((i * (b.length : Int)) + j) - 1) ∧ (((i * (b.length : Int)) + j) - 1) < (fl'.length : Int), (((i * (b.length : Int)) + j) - 1).toNat < fl'.length, Con Try.prog 42 [I 1000000000, I (at_ fl' ((((i * (b.length : Int)) + j) - 1).toNat))] true (I (min 1000000000 (at_ fl' ((((i * (b.length : Int)) + j) - 1).toNat)))) ∧ True] ⟨(inR_i64 (by omega) (by omega)), (inR_i64 (by omega) (by omega)), (inR_i64 (by omega) (by omega)), ⟨(by omega), (by omega)⟩, (by omega), ⟨(l00Min_ok 1000000000 (at_ fl' ((((i * (b.length : Int)) + j) - 1).toNat))), trivial⟩, trivial⟩ ?_
       refine xe_then ?_
       refine x_seq ?_
       by_cases h31 : (min 1000000000 (at_ fl' ((((i * (b.length : Int)) + j) - 1).toNat))) = 1000000000
       ·refine x_r [(1, .dec true)] [0, 1, 2, 7, 8, 9, 10, 11, 12, 90] [20] [slFeat false a, slFeat false b, I band, I (a.length : Int), I (b.length : Int), .arr 20, I i, I j, I (min 1000000000 (at_ fl' ((((i * (b.length : Int)) + j) - 1).toNat))), Bv true] [some (.arr 1 fl'.length (fI fl'))] [(min 1000000000 (at_ fl' ((((i * (b.length : Int)) + j) - 1).toNat))) = 1000000000] ⟨h31, trivial⟩ ?_
        refine xe_then ?_
        refine x_true rfl ?_
        refine x_r [] [0, 1, 2, 7, 8, 9, 10, 11] [20] [slFeat false a, slFeat false b, I band, I (a.length : Int), I (b.length : Int), .arr 20, I i, I j] [some (.arr 1 fl'.length (fun q => bif Nat.beq q (((i * (b.length : Int)) + j).toNat) then [I 1000000000] else (fI fl') q))] [inR .i64 (i * (b.length : Int)), inR .i64 ((i * (b.length : Int)) + j), (0 : Int) ≤ ((i * (b.length : Int)) + j) ∧ ((i * (b.length : Int)) + j) < (fl'.length : Int), ((i * (b.length : Int)) + j).toNat < fl'.length] ⟨(inR_i64 (by omega) (by omega)), (inR_i64 (by omega) (by omega)), ⟨(by omega), (by omega)⟩, (by omega), trivial⟩ ?_
        refine xe_block 3 ?_
        refine xe_then ?_
        refine x_weak [] (T := [(0, slFeat false a), (1, slFeat false b), (2, I band), (7, I (a.length : Int)), (8, I (b.length : Int)), (9, .arr 20), (10, I i), (11, I j)]) (O := [(20, .arr 1 ((fl'.set (((i * (b.length : Int)) + j).toNat) 1000000000).length) (fI (fl'.set (((i * (b.length : Int)) + j).toNat) 1000000000)))]) rfl (⟨.inl rfl, .inl rfl, .inl rfl, .inl rfl, .inl rfl, .inl rfl, .inl rfl, .inl rfl, trivial⟩) (⟨.inr ⟨rfl, (by first | rfl | (simp; done) | (simp; omega) | omega), fun i_ hi_ => .inl (upd_enc (enc := cI) rfl i_ hi_)⟩, trivial⟩) ?_
        refine x_r [] [0, 1, 2, 7, 8, 9, 10, 11] [20] [slFeat false a, slFeat false b, I band, I (a.length : Int), I (b.length : Int), .arr 20, I i, I (j + 1)] [some (.arr 1 ((fl'.set (((i * (b.length : Int)) + j).toNat) 1000000000).length) (fI (fl'.set (((i * (b.length : Int)) + j).toNat) 1000000000)))] [inR .i64 (j + 1)] ⟨(inR_i64 (by omega) (by omega)), trivial⟩ ?_
        exact xe_again ((j + 1), (fl'.set (((i * (b.length : Int)) + j).toNat) 1000000000)) rfl (show (0 ≤ (j + 1) ∧ (j + 1) ≤ (b.length : Int)) ∧ (flOk a b band (fl'.set (((i * (b.length : Int)) + j).toNat) 1000000000) (i.toNat * b.length + (j + 1).toNat)) ∧ True from ⟨(by omega), (by rw [show (j + 1).toNat = j.toNat + 1 from by omega]; exact fl_step hin hi hj hka (by rw [hsb.2]; unfold sb3 sb2 sb1 sb0; (repeat' split) <;> omega)), trivial⟩) (by first | (show (((b.length : Int) - (j + 1)).toNat : Nat) < ((b.length : Int) - j).toNat; omega) | (dsimp only; omega))
       by_cases h32 : band < ((i - j).natAbs : Int)
       ·refine x_r [(1, .dec false), (6, .call [(true, .any)] true (I ((i - j).natAbs : Int))), (8, .dec true)] [0, 1, 2, 7, 8, 9, 10, 11, 12, 90] [20] [slFeat false a, slFeat false b, I band, I (a.length : Int), I (b.length : Int), .arr 20, I i, I j, I (min 1000000000 (at_ fl' ((((i * (b.length : Int)) + j) - 1).toNat))), Bv true] [some (.arr 1 fl'.length (fI fl'))] [¬ ((min 1000000000 (at_ fl' ((((i * (b.length : Int)) + j) - 1).toNat))) = 1000000000), inR .i64 (i - j), Con Try.prog 53 [I (i - j)] true (I ((i - j).natAbs : Int)) ∧ True, band < ((i - j).natAbs : Int)] ⟨h31, (inR_i64 (by omega) (by omega)), ⟨(l09Size_ok (i - j) (by omega)), trivial⟩, h32, trivial⟩ ?_
        refine xe_then ?_
        refine x_true rfl ?_
        refine x_r [] [0, 1, 2, 7, 8, 9, 10, 11] [20] [slFeat false a, slFeat false b, I band, I (a.length : Int), I (b.length : Int), .arr 20, I i, I j] [some (.arr 1 fl'.length (fun q => bif Nat.beq q (((i * (b.length : Int)) + j).toNat) then [I 1000000000] else (fI fl') q))] [inR .i64 (i * (b.length : Int)), inR .i64 ((i * (b.length : Int)) + j), (0 : Int) ≤ ((i * (b.length : Int)) + j) ∧ ((i * (b.length : Int)) + j) < (fl'.length : Int), ((i * (b.length : Int)) + j).toNat < fl'.length] ⟨(inR_i64 (by omega) (by omega)), (inR_i64 (by omega) (by omega)), ⟨(by omega), (by omega)⟩, (by omega), trivial⟩ ?_
        refine xe_block 3 ?_
        refine xe_then ?_
        refine x_weak [] (T := [(0, slFeat false a), (1, slFeat false b), (2, I band), (7, I (a.length : Int)), (8, I (b.length : Int)), (9, .arr 20), (10, I i), (11, I j)]) (O := [(20, .arr 1 ((fl'.set (((i * (b.length : Int)) + j).toNat) 1000000000).length) (fI (fl'.set (((i * (b.length : Int)) + j).toNat) 1000000000)))]) rfl (⟨.inl rfl, .inl rfl, .inl rfl, .inl rfl, .inl rfl, .inl rfl, .inl rfl, .inl rfl, trivial⟩) (⟨.inr ⟨rfl, (by first | rfl | (simp; done) | (simp; omega) | omega), fun i_ hi_ => .inl (upd_enc (enc := cI) rfl i_ hi_)⟩, trivial⟩) ?_
        refine x_r [] [0, 1, 2, 7, 8, 9, 10, 11] [20] [slFeat false a, slFeat false b, I band, I (a.length : Int), I (b.length : Int), .arr 20, I i, I (j + 1)] [some (.arr 1 ((fl'.set (((i * (b.length : Int)) + j).toNat) 1000000000).length) (fI (fl'.set (((i * (b.length : Int)) + j).toNat) 1000000000)))] [inR .i64 (j + 1)] ⟨(inR_i64 (by omega) (by omega)), trivial⟩ ?_
        exact xe_again ((j + 1), (fl'.set (((i * (b.length : Int)) + j).toNat) 1000000000)) rfl (show (0 ≤ (j + 1) ∧ (j + 1) ≤ (b.length : Int)) ∧ (flOk a b band (fl'.set (((i * (b.length : Int)) + j).toNat) 1000000000) (i.toNat * b.length + (j + 1).toNat)) ∧ True from ⟨(by omega), (by rw [show (j + 1).toNat = j.toNat + 1 from by omega]; exact fl_step hin hi hj hka (by rw [hsb.2]; unfold sb3 sb2 sb1 sb0; (repeat' split) <;> omega)), trivial⟩) (by first | (show (((b.length : Int) - (j + 1)).toNat : Nat) < ((b.length : Int) - j).toNat; omega) | (dsimp only; omega))
       refine x_r [(1, .dec false), (6, .call [(true, .any)] true (I ((i - j).natAbs : Int))), (8, .dec false)] [0, 1, 2, 7, 8, 9, 10, 11, 12, 90] [20] [slFeat false a, slFeat false b, I band, I (a.length : Int), I (b.length : Int), .arr 20, I i, I j, I (min 1000000000 (at_ fl' ((((i * (b.length : Int)) + j) - 1).toNat))), Bv false] [some (.arr 1 fl'.length (fI fl'))] [¬ ((min 1000000000 (at_ fl' ((((i * (b.length : Int)) + j) - 1).toNat))) = 1000000000), inR .i64 (i - j), Con Try.prog 53 [I (i - j)] true (I ((i - j).natAbs : Int)) ∧ True, ¬ (band < ((i - j).natAbs : Int))] ⟨h31, (inR_i64 (by omega) (by omega)), ⟨(l09Size_ok (i - j) (by omega)), trivial⟩, h32, trivial⟩ ?_
       refine xe_then ?_
       refine x_false rfl ?_
       refine x_r [(15, .call [(true, .any), (true, .any)] true (I (costF (at_ a i.toNat) (at_ b j.toNat))))] [0, 1, 2, 7, 8, 9, 10, 11] [20] [slFeat false a, slFeat false b, I band, I (a.length : Int), I (b.length : Int), .arr 20, I i, I j] [some (.arr 1 fl'.length (fun q => bif Nat.beq q (((i * (b.length : Int)) + j).toNat) then [I ((min 1000000000 (at_ fl' ((((i * (b.length : Int)) + j) - 1).toNat))) + (costF (at_ a i.toNat) (at_ b j.toNat)))] else (fI fl') q))] [inR .i64 (i * (b.length : Int)), inR .i64 ((i * (b.length : Int)) + j), (0 : Int) ≤ i ∧ i < (a.length : Int), (0 : Int) ≤ j ∧ j < (b.length : Int), Con Try.prog 79 [agFeat (at_ a i.toNat), agFeat (at_ b j.toNat)] true (I (costF (at_ a i.toNat) (at_ b j.toNat))) ∧ True, inR .i64 ((min 1000000000 (at_ fl' ((((i * (b.length : Int)) + j) - 1).toNat))) + (costF (at_ a i.toNat) (at_ b j.toNat))), (0 : Int) ≤ ((i * (b.length : Int)) + j) ∧ ((i * (b.length : Int)) + j) < (fl'.length : Int), ((i * (b.length : Int)) + j).toNat < fl'.length] ⟨(inR_i64 (by omega) (by omega)), (inR_i64 (by omega) (by omega)), ⟨(by omega), (by omega)⟩, ⟨(by omega), (by omega)⟩, ⟨(l09Cost_ok (at_ a i.toNat) (at_ b j.toNat) (by first | exact hab.1 _ (by omega) | exact hab.2.1 _ (by omega)) (by first | exact hab.1 _ (by omega) | exact hab.2.1 _ (by omega))), trivial⟩, (inR_i64 (by omega) (by omega)), ⟨(by omega), (by omega)⟩, (by omega), trivial⟩ ?_
       refine xe_block 3 ?_
       refine xe_then ?_
       refine x_weak [] (T := [(0, slFeat false a), (1, slFeat false b), (2, I band), (7, I (a.length : Int)), (8, I (b.length : Int)), (9, .arr 20), (10, I i), (11, I j)]) (O := [(20, .arr 1 ((fl'.set (((i * (b.length : Int)) + j).toNat) ((min 1000000000 (at_ fl' ((((i * (b.length : Int)) + j) - 1).toNat))) + (costF (at_ a i.toNat) (at_ b j.toNat)))).length) (fI (fl'.set (((i * (b.length : Int)) + j).toNat) ((min 1000000000 (at_ fl' ((((i * (b.length : Int)) + j) - 1).toNat))) + (costF (at_ a i.toNat) (at_ b j.toNat))))))]) rfl (⟨.inl rfl, .inl rfl, .inl rfl, .inl rfl, .inl rfl, .inl rfl, .inl rfl, .inl rfl, trivial⟩) (⟨.inr ⟨rfl, (by first | rfl | (simp; done) | (simp; omega) | omega), fun i_ hi_ => .inl (upd_enc (enc := cI) rfl i_ hi_)⟩, trivial⟩) ?_
       refine x_r [] [0, 1, 2, 7, 8, 9, 10, 11] [20] [slFeat false a, slFeat false b, I band, I (a.length : Int), I (b.length : Int), .arr 20, I i, I (j + 1)] [some (.arr 1 ((fl'.set (((i * (b.length : Int)) + j).toNat) ((min 1000000000 (at_ fl' ((((i * (b.length : Int)) + j) - 1).toNat))) + (costF (at_ a i.toNat) (at_ b j.toNat)))).length) (fI (fl'.set (((i * (b.length : Int)) + j).toNat) ((min 1000000000 (at_ fl' ((((i * (b.length : Int)) + j) - 1).toNat))) + (costF (at_ a i.toNat) (at_ b j.toNat))))))] [inR .i64 (j + 1)] ⟨(inR_i64 (by omega) (by omega)), trivial⟩ ?_
       exact xe_again ((j + 1), (fl'.set (((i * (b.length : Int)) + j).toNat) ((min 1000000000 (at_ fl' ((((i * (b.length : Int)) + j) - 1).toNat))) + (costF (at_ a i.toNat) (at_ b j.toNat))))) rfl (show (0 ≤ (j + 1) ∧ (j + 1) ≤ (b.length : Int)) ∧ (flOk a b band (fl'.set (((i * (b.length : Int)) + j).toNat) ((min 1000000000 (at_ fl' ((((i * (b.length : Int)) + j) - 1).toNat))) + (costF (at_ a i.toNat) (at_ b j.toNat)))) (i.toNat * b.length + (j + 1).toNat)) ∧ True from ⟨(by omega), (by rw [show (j + 1).toNat = j.toNat + 1 from by omega]; exact fl_step hin hi hj hka (by rw [hsb.2]; unfold sb3 sb2 sb1 sb0; (repeat' split) <;> omega)), trivial⟩) (by first | (show (((b.length : Int) - (j + 1)).toNat : Nat) < ((b.length : Int) - j).toNat; omega) | (dsimp only; omega))
      refine x_r [(1, .dec false)] [0, 1, 2, 7, 8, 9, 10, 11, 12, 69] [20] [slFeat false a, slFeat false b, I band, I (a.length : Int), I (b.length : Int), .arr 20, I i, I j, I 1000000000, Bv false] [some (.arr 1 fl'.length (fI fl'))] [¬ (0 < j)] ⟨h30, trivial⟩ ?_
      refine xe_then ?_
      refine x_false rfl ?_
      refine x_skip ?_
      refine xe_then ?_
      refine xR [(1, .dec true)] [0, 1, 2, 7, 8, 9, 10, 11, 12, 90] [20] [slFeat false a, slFeat false b, I band, I (a.length : Int), I (b.length : Int), .arr 20, I i, I j, I 1000000000, Bv true] [some (.arr 1 fl'.length (fI fl'))] [(1000000000 : Int) = 1000000000] ⟨(by decide), trivial⟩ ?_
      refine x_true rfl ?_
      refine x_r [] [0, 1, 2, 7, 8, 9, 10, 11] [20] [slFeat false a, slFeat false b, I band, I (a.length : Int), I (b.length : Int), .arr 20, I i, I j] [some (.arr 1 fl'.length (fun q => bif Nat.beq q (((i * (b.length : Int)) + j).toNat) then [I 1000000000] else (fI fl') q))] [inR .i64 (i * (b.length : Int)), inR .i64 ((i * (b.length : Int)) + j), (0 : Int) ≤ ((i * (b.length : Int)) + j) ∧ ((i * (b.length : Int)) + j) < (fl'.length : Int), ((i * (b.length : Int)) + j).toNat < fl'.length] ⟨(inR_i64 (by omega) (by omega)), (inR_i64 (by omega) (by omega)), ⟨(by omega), (by omega)⟩, (by omega), trivial⟩ ?_
      refine xe_block 3 ?_
      refine xe_then ?_
      refine x_weak [] (T := [(0, slFeat false a), (1, slFeat false b), (2, I band), (7, I (a.length : Int)), (8, I (b.length : Int)), (9, .arr 20), (10, I i), (11, I j)]) (O := [(20, .arr 1 ((fl'.set (((i * (b.length : Int)) + j).toNat) 1000000000).length) (fI (fl'.set (((i * (b.length : Int)) + j).toNat) 1000000000)))]) rfl (⟨.inl rfl, .inl rfl, .inl rfl, .inl rfl, .inl rfl, .inl rfl, .inl rfl, .inl rfl, trivial⟩) (⟨.inr ⟨rfl, (by first | rfl | (simp; done) | (simp; omega) | omega), fun i_ hi_ => .inl (upd_enc (enc := cI) rfl i_ hi_)⟩, trivial⟩) ?_
      refine x_r [] [0, 1, 2, 7, 8, 9, 10, 11] [20] [slFeat false a, slFeat false b, I band, I (a.length : Int), I (b.length : Int), .arr 20, I i, I (j + 1)] [some (.arr 1 ((fl'.set (((i * (b.length : Int)) + j).toNat) 1000000000).length) (fI (fl'.set (((i * (b.length : Int)) + j).toNat) 1000000000)))] [inR .i64 (j + 1)] ⟨(inR_i64 (by omega) (by omega)), trivial⟩ ?_
      exact xe_again ((j + 1), (fl'.set (((i * (b.length : Int)) + j).toNat) 1000000000)) rfl (show (0 ≤ (j + 1) ∧ (j + 1) ≤ (b.length : Int)) ∧ (flOk a b band (fl'.set (((i * (b.length : Int)) + j).toNat) 1000000000) (i.toNat * b.length + (j + 1).toNat)) ∧ True from ⟨(by omega), (by rw [show (j + 1).toNat = j.toNat + 1 from by omega]; exact fl_step hin hi hj hka (by rw [hsb.2]; unfold sb3 sb2 sb1 sb0; (repeat' split) <;> omega)), trivial⟩) (by first | (show (((b.length : Int) - (j + 1)).toNat : Nat) < ((b.length : Int) - j).toNat; omega) | (dsimp only; omega))
     have hje : j.toNat = b.length := by omega
     refine x_r [(2, .dec false)] [0, 1, 2, 7, 8, 9, 10, 11, 28] [20] [slFeat false a, slFeat false b, I band, I (a.length : Int), I (b.length : Int), .arr 20, I i, I j, Bv false] [some (.arr 1 fl'.length (fI fl'))] [¬ (j < (b.length : Int))] ⟨h2, trivial⟩ ?_
     refine xe_then ?_
     refine x_false rfl ?_
     refine x_exit ?_
     refine xe_exit_then ?_
     refine xe_loop_exit ?_
     refine xe_exit_same ?_
     refine xe_block 1 ?_
     refine xe_then ?_
     refine x_r [] [0, 1, 2, 7, 8, 9, 10] [20] [slFeat false a, slFeat false b, I band, I (a.length : Int), I (b.length : Int), .arr 20, I (i + 1)] [some (.arr 1 fl'.length (fI fl'))] [inR .i64 (i + 1)] ⟨(inR_i64 (by omega) (by omega)), trivial⟩ ?_
     exact xe_again ((i + 1), fl') rfl (show (0 ≤ (i + 1) ∧ (i + 1) ≤ (a.length : Int)) ∧ (flOk a b band fl' ((i + 1).toNat * b.length)) ∧ True from ⟨(by omega), (by rw [show (i + 1).toNat = i.toNat + 1 from by omega]; exact fl_done hin hje), trivial⟩) (by first | (show (((a.length : Int) - (i + 1)).toNat : Nat) < ((a.length : Int) - i).toNat; omega) | (dsimp only; omega))
    have hie : i.toNat = a.length := by omega
    rw [hie] at hfl
    refine x_r [(2, .dec false)] [0, 1, 2, 7, 8, 9, 10, 23] [20] [slFeat false a, slFeat false b, I band, I (a.length : Int), I (b.length : Int), .arr 20, I i, Bv false] [some (.arr 1 fl.length (fI fl))] [¬ (i < (a.length : Int))] ⟨h1, trivial⟩ ?_
    refine xe_then ?_
    refine x_false rfl ?_
    refine x_exit ?_
    refine xe_exit_then ?_
    refine xe_loop_exit ?_
    refine xe_exit_same ?_
    refine xe_then ?_
    refine xR [] [6] [20] [.arr 20] [some (.arr 1 fl.length (fI fl))] [] trivial ?_
    refine x_ret ?_
    refine xe_end fl (show (flOk a b band fl (a.length * b.length)) ∧ (True) from ⟨(by first | assumption | exact hfl), trivial⟩) (trivial) (.arr 20) (by kernel_rfl) (.inr ⟨(fun _ => rfl), rfl, rfl, fun i _ => .inl rfl⟩) (fun _ => rfl) (fun _ => (tagI true _))
  obtain ⟨out, ⟨hh0, _⟩, hc⟩ := hh
  exact ⟨out, hh0, hc⟩


-- spec.l09Least
theorem l09Least_ok (a : List Feat) (b : List Feat) (band : Int) (hab : okAB a b) (hbd : 0 ≤ band ∧ band ≤ 1000) (h1 : 1 ≤ a.length ∧ 1 ≤ b.length) : ∃ (v : Int), (v = cv farS a b band (a.length - 1) (b.length - 1)) ∧ Con Try.prog 40 [slFeat false a, slFeat false b, I band] true (I v) := by
  have hh : ∃ r : Int, ((r = cv farS a b band (a.length - 1) (b.length - 1)) ∧ (True)) ∧ CallOK Try.prog 40 [slFeat false a, slFeat false b, I band] (lookO []) true (I r) (lookO []) := by
    refine fn_okX (Φ := fun r : Int => (r = cv farS a b band (a.length - 1) (b.length - 1)) ∧ (True)) [] (fun r => []) (fn := Try.f40) (nt := 18) Try.func40 rfl rfl (args := [slFeat false a, slFeat false b, I band]) rfl (allcons (.inl ⟨rfl, tagFeat false _⟩) (allcons (.inl ⟨rfl, tagFeat false _⟩) (allcons (.inl ⟨rfl, trivial⟩) allnil))) (res := fun r => I r) ?_
    refine xR [] [0, 1, 2] [] [slFeat false a, slFeat false b, I band] [] [] trivial ?_
    refine x_seq ?_
    obtain ⟨out_1, hx1_0, hc1⟩ := l09Table_ok a b band hab (by omega)
    have hls := fl_last hx1_0 h1.1 h1.2
    have hlq := Nat.mul_le_mul hab.2.2.1 hab.2.2.2
    rw [← hx1_0.1] at hlq
    refine x_r [(3, .call [(true, .any), (true, .any), (true, .any)] true (slI true out_1))] [7] [] [slI true out_1] [] [Con Try.prog 70 [slFeat false a, slFeat false b, I band] true (slI true out_1) ∧ True] ⟨⟨hc1, trivial⟩, trivial⟩ ?_
    refine xe_then ?_
    refine xR [] [6] [] [I (at_ out_1 (((out_1.length : Int) - 1).toNat))] [] [inR .i64 ((out_1.length : Int) - 1), (0 : Int) ≤ ((out_1.length : Int) - 1) ∧ ((out_1.length : Int) - 1) < (out_1.length : Int)] ⟨(inR_i64 (by omega) (by omega)), ⟨(by omega), (by omega)⟩, trivial⟩ ?_
    refine x_ret ?_
    refine xe_end (at_ out_1 (((out_1.length : Int) - 1).toNat)) (show ((at_ out_1 (((out_1.length : Int) - 1).toNat)) = cv farS a b band (a.length - 1) (b.length - 1)) ∧ (True) from ⟨(by (rw [← hls.1]; congr 1; omega)), trivial⟩) (trivial) (I (at_ out_1 (((out_1.length : Int) - 1).toNat))) (by kernel_rfl) (.inl rfl) (fun _ => rfl) (fun _ => trivial)
  obtain ⟨v, ⟨hh0, _⟩, hc⟩ := hh
  exact ⟨v, hh0, hc⟩


-- spec.Elastic
theorem specElastic_ok (a : List Feat) (b : List Feat) (band : Int) : ∃ (v : Int) (c : Int), (v = (elR a b band).1) ∧ (c = (elR a b band).2) ∧ Con Try.prog 19 [slFeat false a, slFeat false b, I band] true (.tup [I v, I c]) := by
  have hh : ∃ r : Int × Int, ((r.1 = (elR a b band).1) ∧ (r.2 = (elR a b band).2) ∧ (True)) ∧ CallOK Try.prog 19 [slFeat false a, slFeat false b, I band] (lookO []) true (.tup [I r.1, I r.2]) (lookO []) := by
    refine fn_okX (Φ := fun r : Int × Int => (r.1 = (elR a b band).1) ∧ (r.2 = (elR a b band).2) ∧ (True)) [] (fun r => []) (fn := Try.f19) (nt := 20) Try.func19 rfl rfl (args := [slFeat false a, slFeat false b, I band]) rfl (allcons (.inl ⟨rfl, tagFeat false _⟩) (allcons (.inl ⟨rfl, tagFeat false _⟩) (allcons (.inl ⟨rfl, trivial⟩) allnil))) (res := fun r => .tup [I r.1, I r.2]) ?_
    refine xR [] [0, 1, 2] [] [slFeat false a, slFeat false b, I band] [] [] trivial ?_
    refine xR [(3, .call [(true, .any), (true, .any), (true, .any)] true (I (elCode a b band)))] [0, 1, 2, 8] [] [slFeat false a, slFeat false b, I band, I (elCode a b band)] [] [Con Try.prog 31 [slFeat false a, slFeat false b, I band] true (I (elCode a b band)) ∧ True] ⟨⟨(l09Code_ok a b band), trivial⟩, trivial⟩ ?_
    refine x_seq ?_
    refine x_seq ?_
    by_cases h1 : (elCode a b band) = 0
    ·have hcd := elCode_0 (a := a) (b := b) (band := band) (by omega)
     have hna := okFeats_n hcd.1
     have hnb := okFeats_n hcd.2.1
     refine x_r [(1, .dec false)] [0, 1, 2, 8, 14] [] [slFeat false a, slFeat false b, I band, I (elCode a b band), Bv false] [] [¬ ((elCode a b band) ≠ 0)] ⟨(fun hq => hq h1), trivial⟩ ?_
     refine xe_then ?_
     refine x_false rfl ?_
     refine x_skip ?_
     refine xe_then ?_
     refine x_seq ?_
     obtain ⟨v_1, hx1_0, hc1⟩ := l09Least_ok a b band (okAB_of hcd.1 hcd.2.1) (by omega) (by omega)
     refine x_r [(3, .call [(true, .any), (true, .any), (true, .any)] true (I v_1))] [6, 7] [] [I v_1, I 0] [] [Con Try.prog 40 [slFeat false a, slFeat false b, I band] true (I v_1) ∧ True] ⟨⟨hc1, trivial⟩, trivial⟩ ?_
     refine xe_then ?_
     refine x_ret ?_
     refine xe_end (v_1, 0) (show (v_1 = (elR a b band).1) ∧ (0 = (elR a b band).2) ∧ (True) from ⟨(by (unfold elR; simp [*])), (by (unfold elR; simp [*])), trivial⟩) (trivial) (.tup [I v_1, I 0]) (by kernel_rfl) (.inl rfl) (fun _ => rfl) (fun _ => (by simp [tagged, taggedL]))
    refine x_r [(1, .dec true)] [0, 1, 2, 8, 14] [] [slFeat false a, slFeat false b, I band, I (elCode a b band), Bv true] [] [(elCode a b band) ≠ 0] ⟨h1, trivial⟩ ?_
    refine xe_then ?_
    refine x_true rfl ?_
    refine xR [] [6, 7] [] [I 0, I (elCode a b band)] [] [] trivial ?_
    refine x_ret ?_
    refine xe_ret_then ?_
    refine xe_end (0, (elCode a b band)) (show (0 = (elR a b band).1) ∧ ((elCode a b band) = (elR a b band).2) ∧ (True) from ⟨(by (unfold elR; simp [*])), (by (unfold elR; simp [*])), trivial⟩) (trivial) (.tup [I 0, I (elCode a b band)]) (by kernel_rfl) (.inl rfl) (fun _ => rfl) (fun _ => (by simp [tagged, taggedL]))
  obtain ⟨⟨v, c⟩, ⟨hh0, hh1, _⟩, hc⟩ := hh
  exact ⟨v, c, hh0, hh1, hc⟩


-- laws.FnVotes
theorem fnVotes_con (code : List Int) (more : List Int) (ok_code : ∀ y ∈ code, inR .u8 y) (ok_more : ∀ y ∈ more, inR .u8 y) : Con Try.prog 4 [slU8 false code, slU8 false more] true (Bv true) := by
  refine fn_ok (fn := Try.f4) (nt := 234) Try.func4 rfl rfl rfl rfl (by simp [taggedL, tagged, tagU8]) fun B hB => ?_
  refine aw_lens (x := slU8 false code) 0 rfl (fun len_code => ?_)
  simp [LenOK, LenL, cU8, fU8, slU8] at len_code
  refine aw_lens (x := slU8 false more) 1 rfl (fun len_more => ?_)
  simp [LenOK, LenL, cU8, fU8, slU8] at len_more
  refine aR [] [0, 1] [] [slU8 false code, slU8 false more] [] [] hB trivial ?_
  refine aw_seq ?_
  refine aw_seq ?_
  rcases Bool.eq_false_or_eq_true (decide (3000 < (code.length : Int) ∨ 3000 < (more.length : Int))) with h1 | h1
  ·refine aw_r [(2, .call [(true, .any), (true, .any)] true (Bv true))] [0, 1, 22] [] [slU8 false code, slU8 false more, Bv true] [] [Con Try.prog 5 [slU8 false code, slU8 false more] true (Bv true) ∧ True] hB ⟨⟨(con_bool h1 (a2Long_ok code more)), trivial⟩, trivial⟩ ?_
   refine ae_then ?_
   refine aw_true rfl ?_
   refine aR [] [4] [] [Bv true] [] [] hB trivial ?_
   refine aw_ret ?_
   refine ae_ret_then ?_
   refine ae_ret hB (Bv true) (by kernel_rfl) (.inl rfl) rfl (fun _ => trivial)
  have hc : (∀ j, j < code.length → 0 ≤ at_ code j ∧ at_ code j ≤ 255) ∧ code.length ≤ 4611686018427387904 := ⟨fun j hj => ok_code _ (at_mem hj), by first | omega | (simp at h1; omega)⟩
  have hmore : (∀ j, j < more.length → 0 ≤ at_ more j ∧ at_ more j ≤ 255) ∧ more.length ≤ 4611686018427387904 := ⟨fun j hj => ok_more _ (at_mem hj), by first | omega | (simp at h1; omega)⟩
  refine aw_r [(2, .call [(true, .any), (true, .any)] true (Bv false))] [0, 1, 22] [] [slU8 false code, slU8 false more, Bv false] [] [Con Try.prog 5 [slU8 false code, slU8 false more] true (Bv false) ∧ True] hB ⟨⟨(con_bool h1 (a2Long_ok code more)), trivial⟩, trivial⟩ ?_
  refine ae_then ?_
  refine aw_false rfl ?_
  refine aw_skip ?_
  refine ae_then ?_
  refine aw_seq ?_
  obtain ⟨v_1, hx1_0, hx1_1, hx1_2, hc1⟩ := A2Store_ok code (by assumption)
  have hst : okStore' v_1 = true := okS_of hx1_0 hx1_1 hx1_2
  have h6 := hx1_1
  have hK0 := a2At_bd more 0 (n := 5) (by decide)
  have hoks := okS_size hst
  refine aw_r [(1, .call [(true, .any)] true (agStoreT v_1)), (2, .new 5)] [1, 5] [5] [slU8 false more, .ref 5 0] [some (bxStoreT v_1)] [Con Try.prog 13 [slU8 false code] true (agStoreT v_1) ∧ True] hB ⟨⟨hc1, trivial⟩, trivial⟩ ?_
  refine ae_then ?_
  refine aw_seq ?_
  obtain ⟨v_2, hx2_0, hx2_1, hc2⟩ := A2Feats_ok more (by assumption)
  have okf := hx2_0
  refine aw_r [(1, .call [(true, .any)] true (slFeat true v_2))] [1, 5, 6] [5] [slU8 false more, .ref 5 0, slFeat true v_2] [some (bxStoreT v_1)] [Con Try.prog 14 [slU8 false more] true (slFeat true v_2) ∧ True] hB ⟨⟨hc2, trivial⟩, trivial⟩ ?_
  refine ae_then ?_
  refine aR [(1, .call [(true, .any), (true, .any), (true, .any)] true (I (a2AtI more 0 5)))] [5, 6, 7] [5] [.ref 5 0, slFeat true v_2, I (1 + (a2AtI more 0 5))] [some (bxStoreT v_1)] [Con Try.prog 15 [slU8 false more, I 0, I 5] true (I (a2AtI more 0 5)) ∧ True, inR .i64 (1 + (a2AtI more 0 5))] hB ⟨⟨(a2At_ok more 0 5 hmore.1 (by omega)), trivial⟩, (inR_i64 (by omega) (by omega)), trivial⟩ ?_
  refine aw_seq ?_
  obtain ⟨v_3, c_3, hx3_0, hx3_1, hc3⟩ := MatchesOf_ok v_1 v_2 hst okf (by omega) hoks
  have hall := hx3_0
  have hal : v_3.length ≤ 6 := by rw [hall]; exact Nat.le_trans (mtS_len _ _ _) h6
  refine aw_r [(2, .call [(false, agStore v_1), (false, slFeat false v_2)] true (.tup [slMatch true v_3, I c_3]))] [5, 6, 7, 8, 9] [5] [.ref 5 0, slFeat true v_2, I (1 + (a2AtI more 0 5)), slMatch true v_3, I c_3] [some (bxStoreT v_1)] [Con Try.prog 16 [agStore v_1, slFeat false v_2] true (.tup [slMatch true v_3, I c_3]) ∧ ((valOf (I v_1.Band) = valOf (I v_1.Band)) ∧ ((false = true → true = true) ∧ 2 = 2 ∧ v_1.Templates.length = v_1.Templates.length ∧ ∀ i_, i_ < v_1.Templates.length → (fTemplate true v_1.Templates) i_ = (fTemplate false v_1.Templates) i_ ∨ (AV.idsL ((fTemplate false v_1.Templates) i_) = [] ∧ leL (fun _ => none) false ((fTemplate true v_1.Templates) i_) ((fTemplate false v_1.Templates) i_))) ∧ ([] : List AV) = []) ∧ ((false = true → true = true) ∧ 3 = 3 ∧ v_2.length = v_2.length ∧ ∀ i_, i_ < v_2.length → (fFeat v_2) i_ = (fFeat v_2) i_ ∨ (AV.idsL ((fFeat v_2) i_) = [] ∧ leL (fun _ => none) false ((fFeat v_2) i_) ((fFeat v_2) i_))) ∧ True] hB ⟨⟨hc3, ⟨rfl, ⟨⟨(fun h => by cases h), rfl, rfl, fun i _ => .inr ⟨idsTemplate _ _, leTemplate _ _ _⟩⟩, rfl⟩⟩, ⟨(fun h => by cases h), rfl, rfl, fun i _ => .inl rfl⟩, trivial⟩, trivial⟩ ?_
  refine ae_then ?_
  refine aw_seq ?_
  obtain ⟨v_4, c_4, hx4_0, hx4_1, hc4⟩ := Nearest_ok v_1 v_2 (1 + (a2AtI more 0 5)) hst okf (by omega) (by omega) hoks
  have hls := hx4_0
  have hnl := nsL_len (s := v_1) (fs := v_2) (k := (1 + (a2AtI more 0 5))) (by omega)
  rw [← hls, ← hall] at hnl
  refine aw_r [(3, .call [(false, agStore v_1), (false, slFeat false v_2), (true, .any)] true (.tup [slMatch true v_4, I c_4]))] [5, 6, 7, 8, 9, 10, 11] [5] [.ref 5 0, slFeat true v_2, I (1 + (a2AtI more 0 5)), slMatch true v_3, I c_3, slMatch true v_4, I c_4] [some (bxStoreT v_1)] [Con Try.prog 17 [agStore v_1, slFeat false v_2, I (1 + (a2AtI more 0 5))] true (.tup [slMatch true v_4, I c_4]) ∧ ((valOf (I v_1.Band) = valOf (I v_1.Band)) ∧ ((false = true → true = true) ∧ 2 = 2 ∧ v_1.Templates.length = v_1.Templates.length ∧ ∀ i_, i_ < v_1.Templates.length → (fTemplate true v_1.Templates) i_ = (fTemplate false v_1.Templates) i_ ∨ (AV.idsL ((fTemplate false v_1.Templates) i_) = [] ∧ leL (fun _ => none) false ((fTemplate true v_1.Templates) i_) ((fTemplate false v_1.Templates) i_))) ∧ ([] : List AV) = []) ∧ ((false = true → true = true) ∧ 3 = 3 ∧ v_2.length = v_2.length ∧ ∀ i_, i_ < v_2.length → (fFeat v_2) i_ = (fFeat v_2) i_ ∨ (AV.idsL ((fFeat v_2) i_) = [] ∧ leL (fun _ => none) false ((fFeat v_2) i_) ((fFeat v_2) i_))) ∧ True] hB ⟨⟨hc4, ⟨rfl, ⟨⟨(fun h => by cases h), rfl, rfl, fun i _ => .inr ⟨idsTemplate _ _, leTemplate _ _ _⟩⟩, rfl⟩⟩, ⟨(fun h => by cases h), rfl, rfl, fun i _ => .inl rfl⟩, trivial⟩, trivial⟩ ?_
  refine ae_then ?_
  refine aw_seq ?_
  obtain ⟨v_5, c_5, hx5_0, hx5_1, hc5⟩ := Vote_ok v_1 v_2 1 hst okf (by omega) (by first | rfl | omega) hoks
  have hvv := hx5_0
  have hvc := hx5_1
  have hnn := ns_none (s := v_1) (fs := v_2) (k := 1) (by decide)
  rw [← hall] at hnn
  refine aw_r [(2, .call [(false, agStore v_1), (false, slFeat false v_2), (true, .any)] true (.tup [Sv v_5, I c_5]))] [5, 6, 7, 8, 9, 10, 11, 12, 13] [5] [.ref 5 0, slFeat true v_2, I (1 + (a2AtI more 0 5)), slMatch true v_3, I c_3, slMatch true v_4, I c_4, Sv v_5, I c_5] [some (bxStoreT v_1)] [Con Try.prog 18 [agStore v_1, slFeat false v_2, I 1] true (.tup [Sv v_5, I c_5]) ∧ ((valOf (I v_1.Band) = valOf (I v_1.Band)) ∧ ((false = true → true = true) ∧ 2 = 2 ∧ v_1.Templates.length = v_1.Templates.length ∧ ∀ i_, i_ < v_1.Templates.length → (fTemplate true v_1.Templates) i_ = (fTemplate false v_1.Templates) i_ ∨ (AV.idsL ((fTemplate false v_1.Templates) i_) = [] ∧ leL (fun _ => none) false ((fTemplate true v_1.Templates) i_) ((fTemplate false v_1.Templates) i_))) ∧ ([] : List AV) = []) ∧ ((false = true → true = true) ∧ 3 = 3 ∧ v_2.length = v_2.length ∧ ∀ i_, i_ < v_2.length → (fFeat v_2) i_ = (fFeat v_2) i_ ∨ (AV.idsL ((fFeat v_2) i_) = [] ∧ leL (fun _ => none) false ((fFeat v_2) i_) ((fFeat v_2) i_))) ∧ True] hB ⟨⟨hc5, ⟨rfl, ⟨⟨(fun h => by cases h), rfl, rfl, fun i _ => .inr ⟨idsTemplate _ _, leTemplate _ _ _⟩⟩, rfl⟩⟩, ⟨(fun h => by cases h), rfl, rfl, fun i _ => .inl rfl⟩, trivial⟩, trivial⟩ ?_
  refine ae_then ?_
  refine aw_seq ?_
  refine aw_seq ?_
  by_cases h2 : (v_4.length : Int) < (1 + (a2AtI more 0 5))
  ·refine aw_r [(1, .dec false), (4, .dec false), (10, .dec false), (17, .dec false), (23, .dec true), (29, .dec false)] [5, 6, 7, 8, 10, 12, 13, 80] [5] [.ref 5 0, slFeat true v_2, I (1 + (a2AtI more 0 5)), slMatch true v_3, slMatch true v_4, Sv v_5, I c_5, Bv false] [some (bxStoreT v_1)] [¬ (c_3 ≠ 0), ¬ (c_4 ≠ 0), ¬ ((1 + (a2AtI more 0 5)) < (v_4.length : Int)), ¬ ((v_3.length : Int) < (v_4.length : Int)), (v_4.length : Int) < (1 + (a2AtI more 0 5)), ¬ ((v_4.length : Int) ≠ (v_3.length : Int))] hB ⟨(fun hq => hq hx3_1), (fun hq => hq hx4_1), (by omega), (by omega), h2, (fun hq => hq (by omega)), trivial⟩ ?_
   refine ae_then ?_
   refine aw_false rfl ?_
   refine aw_skip ?_
   refine ae_then ?_
   refine aw_seq ?_
   refine aR [] [5, 6, 7, 8, 10, 12, 13, 14] [5] [.ref 5 0, slFeat true v_2, I (1 + (a2AtI more 0 5)), slMatch true v_3, slMatch true v_4, Sv v_5, I c_5, I 0] [some (bxStoreT v_1)] [] hB trivial ?_
   refine aw_block ?_
   refine aw_loop (fun gn gσ => ∃ (i : Int), gn = ((v_4.length : Int) - i).toNat ∧ (0 ≤ i ∧ i ≤ (v_4.length : Int)) ∧ gσ = mkS [(5, .ref 5 0), (6, slFeat true v_2), (7, I (1 + (a2AtI more 0 5))), (8, slMatch true v_3), (10, slMatch true v_4), (12, Sv v_5), (13, I c_5), (14, I i)] [(5, bxStoreT v_1)]) (((v_4.length : Int) - 0).toNat) ⟨0, rfl, (by omega), rfl⟩ (fun gn gσ hI => ?_)
   obtain ⟨i, rfl, hi0, rfl⟩ := hI
   refine aw_seq ?_
   refine aw_seq ?_
   by_cases h3 : i < (v_4.length : Int)
   ·have hi : i.toNat < v_4.length := by omega
    have hns := ns_at hst okf (k := (1 + (a2AtI more 0 5))) (i := i.toNat) (by rw [← hls]; exact hi)
    rw [← hls] at hns
    refine aw_r [(3, .dec true)] [5, 6, 7, 8, 10, 12, 13, 14, 84] [5] [.ref 5 0, slFeat true v_2, I (1 + (a2AtI more 0 5)), slMatch true v_3, slMatch true v_4, Sv v_5, I c_5, I i, Bv true] [some (bxStoreT v_1)] [i < (v_4.length : Int)] hB ⟨h3, trivial⟩ ?_
    refine ae_then ?_
    refine aw_true rfl ?_
    refine aw_skip ?_
    refine ae_then ?_
    refine aw_seq ?_
    refine aw_block ?_
    refine aw_seq ?_
    refine aR [(5, .dec false), (15, .dec false)] [5, 6, 7, 8, 10, 12, 13, 14, 103] [5] [.ref 5 0, slFeat true v_2, I (1 + (a2AtI more 0 5)), slMatch true v_3, slMatch true v_4, Sv v_5, I c_5, I i, Bv false] [some (bxStoreT v_1)] [(0 : Int) ≤ i ∧ i < (v_4.length : Int), ¬ (((at_ v_4 i.toNat).Index) < 0), (0 : Int) ≤ i ∧ i < (v_4.length : Int), ¬ ((v_1.Templates.length : Int) ≤ ((at_ v_4 i.toNat).Index))] hB ⟨⟨(by omega), (by omega)⟩, (by omega), ⟨(by omega), (by omega)⟩, (by omega), trivial⟩ ?_
    refine aw_false rfl ?_
    refine aw_skip ?_
    refine ae_then ?_
    refine aw_seq ?_
    obtain ⟨v_6, c_6, hx6_0, hx6_1, hc6⟩ := specElastic_ok v_2 ((at_ v_1.Templates (((at_ v_4 i.toNat).Index).toNat)).Feats) v_1.Band
    have hev : v_6 = (at_ v_4 i.toNat).Cost ∧ c_6 = 0 := by rw [hx6_0, hx6_1, hns.2]; exact ⟨rfl, rfl⟩
    refine aw_r [(13, .call [(false, slFeat false v_2), (false, slFeat false ((at_ v_1.Templates (((at_ v_4 i.toNat).Index).toNat)).Feats)), (true, .any)] true (.tup [I v_6, I c_6]))] [5, 6, 7, 8, 10, 12, 13, 14, 15, 16] [5] [.ref 5 0, slFeat true v_2, I (1 + (a2AtI more 0 5)), slMatch true v_3, slMatch true v_4, Sv v_5, I c_5, I i, I v_6, I c_6] [some (bxStoreT v_1)] [(0 : Int) ≤ i ∧ i < (v_4.length : Int), (0 : Int) ≤ ((at_ v_4 i.toNat).Index) ∧ ((at_ v_4 i.toNat).Index) < (v_1.Templates.length : Int), Con Try.prog 19 [slFeat false v_2, slFeat false ((at_ v_1.Templates (((at_ v_4 i.toNat).Index).toNat)).Feats), I v_1.Band] true (.tup [I v_6, I c_6]) ∧ ((false = true → true = true) ∧ 3 = 3 ∧ v_2.length = v_2.length ∧ ∀ i_, i_ < v_2.length → (fFeat v_2) i_ = (fFeat v_2) i_ ∨ (AV.idsL ((fFeat v_2) i_) = [] ∧ leL (fun _ => none) false ((fFeat v_2) i_) ((fFeat v_2) i_))) ∧ ((false = true → true = true) ∧ 3 = 3 ∧ (((at_ v_1.Templates (((at_ v_4 i.toNat).Index).toNat)).Feats).length) = (((at_ v_1.Templates (((at_ v_4 i.toNat).Index).toNat)).Feats).length) ∧ ∀ i_, i_ < (((at_ v_1.Templates (((at_ v_4 i.toNat).Index).toNat)).Feats).length) → (fFeat ((at_ v_1.Templates (((at_ v_4 i.toNat).Index).toNat)).Feats)) i_ = (fFeat ((at_ v_1.Templates (((at_ v_4 i.toNat).Index).toNat)).Feats)) i_ ∨ (AV.idsL ((fFeat ((at_ v_1.Templates (((at_ v_4 i.toNat).Index).toNat)).Feats)) i_) = [] ∧ leL (fun _ => none) false ((fFeat ((at_ v_1.Templates (((at_ v_4 i.toNat).Index).toNat)).Feats)) i_) ((fFeat ((at_ v_1.Templates (((at_ v_4 i.toNat).Index).toNat)).Feats)) i_))) ∧ True] hB ⟨⟨(by omega), (by omega)⟩, ⟨(by omega), (by omega)⟩, ⟨hc6, ⟨(fun h => by cases h), rfl, rfl, fun i _ => .inl rfl⟩, ⟨(fun h => by cases h), rfl, rfl, fun i _ => .inl rfl⟩, trivial⟩, trivial⟩ ?_
    refine ae_then ?_
    refine aw_seq ?_
    by_cases h4 : 0 < i
    ·have hor := nsL_ord (s := v_1) (fs := v_2) (k := (1 + (a2AtI more 0 5))) (i := i.toNat) (by omega) (by rw [← hls]; exact hi)
     rw [← hls, show i.toNat - 1 = (i - 1).toNat from by omega] at hor
     by_cases h5 : v_6 = ((at_ v_4 ((i - 1).toNat)).Cost)
     ·refine aw_r [(1, .dec false), (9, .dec false), (13, .dec true), (22, .dec false), (31, .dec true), (44, .dec false)] [5, 6, 7, 8, 10, 12, 13, 14, 169] [5] [.ref 5 0, slFeat true v_2, I (1 + (a2AtI more 0 5)), slMatch true v_3, slMatch true v_4, Sv v_5, I c_5, I i, Bv false] [some (bxStoreT v_1)] [¬ (c_6 ≠ 0), (0 : Int) ≤ i ∧ i < (v_4.length : Int), ¬ (v_6 ≠ ((at_ v_4 i.toNat).Cost)), 0 < i, inR .i64 (i - 1), (0 : Int) ≤ (i - 1) ∧ (i - 1) < (v_4.length : Int), ¬ (v_6 < ((at_ v_4 ((i - 1).toNat)).Cost)), inR .i64 (i - 1), (0 : Int) ≤ (i - 1) ∧ (i - 1) < (v_4.length : Int), v_6 = ((at_ v_4 ((i - 1).toNat)).Cost), (0 : Int) ≤ i ∧ i < (v_4.length : Int), inR .i64 (i - 1), (0 : Int) ≤ (i - 1) ∧ (i - 1) < (v_4.length : Int), ¬ (((at_ v_4 i.toNat).Index) ≤ ((at_ v_4 ((i - 1).toNat)).Index))] hB ⟨(fun hq => hq hev.2), ⟨(by omega), (by omega)⟩, (fun hq => hq hev.1), h4, (inR_i64 (by omega) (by omega)), ⟨(by omega), (by omega)⟩, (by omega), (inR_i64 (by omega) (by omega)), ⟨(by omega), (by omega)⟩, h5, ⟨(by omega), (by omega)⟩, (inR_i64 (by omega) (by omega)), ⟨(by omega), (by omega)⟩, (by omega), trivial⟩ ?_
      refine ae_then ?_
      refine aw_false rfl ?_
      refine aw_skip ?_
      refine ae_block 1 ?_
      refine ae_then ?_
      refine aw_r [] [5, 6, 7, 8, 10, 12, 13, 14] [5] [.ref 5 0, slFeat true v_2, I (1 + (a2AtI more 0 5)), slMatch true v_3, slMatch true v_4, Sv v_5, I c_5, I (i + 1)] [some (bxStoreT v_1)] [inR .i64 (i + 1)] hB ⟨(inR_i64 (by omega) (by omega)), trivial⟩ ?_
      exact ae_again _ (by omega) ⟨(i + 1), rfl, (by omega), rfl⟩
     refine aw_r [(1, .dec false), (9, .dec false), (13, .dec true), (22, .dec false), (31, .dec false)] [5, 6, 7, 8, 10, 12, 13, 14, 169] [5] [.ref 5 0, slFeat true v_2, I (1 + (a2AtI more 0 5)), slMatch true v_3, slMatch true v_4, Sv v_5, I c_5, I i, Bv false] [some (bxStoreT v_1)] [¬ (c_6 ≠ 0), (0 : Int) ≤ i ∧ i < (v_4.length : Int), ¬ (v_6 ≠ ((at_ v_4 i.toNat).Cost)), 0 < i, inR .i64 (i - 1), (0 : Int) ≤ (i - 1) ∧ (i - 1) < (v_4.length : Int), ¬ (v_6 < ((at_ v_4 ((i - 1).toNat)).Cost)), inR .i64 (i - 1), (0 : Int) ≤ (i - 1) ∧ (i - 1) < (v_4.length : Int), ¬ (v_6 = ((at_ v_4 ((i - 1).toNat)).Cost))] hB ⟨(fun hq => hq hev.2), ⟨(by omega), (by omega)⟩, (fun hq => hq hev.1), h4, (inR_i64 (by omega) (by omega)), ⟨(by omega), (by omega)⟩, (by omega), (inR_i64 (by omega) (by omega)), ⟨(by omega), (by omega)⟩, h5, trivial⟩ ?_
     refine ae_then ?_
     refine aw_false rfl ?_
     refine aw_skip ?_
     refine ae_block 1 ?_
     refine ae_then ?_
     refine aw_r [] [5, 6, 7, 8, 10, 12, 13, 14] [5] [.ref 5 0, slFeat true v_2, I (1 + (a2AtI more 0 5)), slMatch true v_3, slMatch true v_4, Sv v_5, I c_5, I (i + 1)] [some (bxStoreT v_1)] [inR .i64 (i + 1)] hB ⟨(inR_i64 (by omega) (by omega)), trivial⟩ ?_
     exact ae_again _ (by omega) ⟨(i + 1), rfl, (by omega), rfl⟩
    refine aw_r [(1, .dec false), (9, .dec false), (13, .dec false)] [5, 6, 7, 8, 10, 12, 13, 14, 169] [5] [.ref 5 0, slFeat true v_2, I (1 + (a2AtI more 0 5)), slMatch true v_3, slMatch true v_4, Sv v_5, I c_5, I i, Bv false] [some (bxStoreT v_1)] [¬ (c_6 ≠ 0), (0 : Int) ≤ i ∧ i < (v_4.length : Int), ¬ (v_6 ≠ ((at_ v_4 i.toNat).Cost)), ¬ (0 < i)] hB ⟨(fun hq => hq hev.2), ⟨(by omega), (by omega)⟩, (fun hq => hq hev.1), h4, trivial⟩ ?_
    refine ae_then ?_
    refine aw_false rfl ?_
    refine aw_skip ?_
    refine ae_block 1 ?_
    refine ae_then ?_
    refine aw_r [] [5, 6, 7, 8, 10, 12, 13, 14] [5] [.ref 5 0, slFeat true v_2, I (1 + (a2AtI more 0 5)), slMatch true v_3, slMatch true v_4, Sv v_5, I c_5, I (i + 1)] [some (bxStoreT v_1)] [inR .i64 (i + 1)] hB ⟨(inR_i64 (by omega) (by omega)), trivial⟩ ?_
    exact ae_again _ (by omega) ⟨(i + 1), rfl, (by omega), rfl⟩
   refine aw_r [(3, .dec false)] [5, 6, 7, 8, 10, 12, 13, 14, 84] [5] [.ref 5 0, slFeat true v_2, I (1 + (a2AtI more 0 5)), slMatch true v_3, slMatch true v_4, Sv v_5, I c_5, I i, Bv false] [some (bxStoreT v_1)] [¬ (i < (v_4.length : Int))] hB ⟨h3, trivial⟩ ?_
   refine ae_then ?_
   refine aw_false rfl ?_
   refine aw_exit ?_
   refine ae_exit_then ?_
   refine ae_exit_then ?_
   refine ae_exit_same ?_
   refine ae_then ?_
   refine aw_seq ?_
   refine aR [] [5, 7, 8, 10, 12, 13, 17] [5] [.ref 5 0, I (1 + (a2AtI more 0 5)), slMatch true v_3, slMatch true v_4, Sv v_5, I c_5, I 0] [some (bxStoreT v_1)] [] hB trivial ?_
   refine aw_block ?_
   refine aw_loop (fun gn gσ => ∃ (i' : Int), gn = ((v_3.length : Int) - i').toNat ∧ (0 ≤ i' ∧ i' ≤ (v_3.length : Int)) ∧ gσ = mkS [(5, .ref 5 0), (7, I (1 + (a2AtI more 0 5))), (8, slMatch true v_3), (10, slMatch true v_4), (12, Sv v_5), (13, I c_5), (17, I i')] [(5, bxStoreT v_1)]) (((v_3.length : Int) - 0).toNat) ⟨0, rfl, (by omega), rfl⟩ (fun gn gσ hI => ?_)
   obtain ⟨i', rfl, hi0, rfl⟩ := hI
   refine aw_seq ?_
   refine aw_seq ?_
   by_cases h6 : i' < (v_3.length : Int)
   ·have hi2 : i'.toNat < v_3.length := by omega
    refine aw_r [(3, .dec true)] [5, 7, 8, 10, 12, 13, 17, 173] [5] [.ref 5 0, I (1 + (a2AtI more 0 5)), slMatch true v_3, slMatch true v_4, Sv v_5, I c_5, I i', Bv true] [some (bxStoreT v_1)] [i' < (v_3.length : Int)] hB ⟨h6, trivial⟩ ?_
    refine ae_then ?_
    refine aw_true rfl ?_
    refine aw_skip ?_
    refine ae_then ?_
    refine aw_seq ?_
    refine aw_block ?_
    refine aw_seq ?_
    by_cases h7 : (v_4.length : Int) = (1 + (a2AtI more 0 5))
    ·by_cases h8 : ((at_ v_3 i'.toNat).Cost) < ((at_ v_4 (((1 + (a2AtI more 0 5)) - 1).toNat)).Cost)
     ·obtain ⟨j0, hj0, hj1⟩ := mem_at' (nsL_has (k := (1 + (a2AtI more 0 5))) (by omega) (by rw [← hall]; exact at_mem hi2) (by rw [← hls]; omega) (by rw [← hls]; exact h8))
      rw [← hls] at hj0 hj1
      refine aw_r [(3, .dec true), (16, .dec true)] [5, 7, 8, 10, 12, 13, 17, 193] [5] [.ref 5 0, I (1 + (a2AtI more 0 5)), slMatch true v_3, slMatch true v_4, Sv v_5, I c_5, I i', Bv true] [some (bxStoreT v_1)] [(v_4.length : Int) = (1 + (a2AtI more 0 5)), (0 : Int) ≤ i' ∧ i' < (v_3.length : Int), inR .i64 ((1 + (a2AtI more 0 5)) - 1), (0 : Int) ≤ ((1 + (a2AtI more 0 5)) - 1) ∧ ((1 + (a2AtI more 0 5)) - 1) < (v_4.length : Int), ((at_ v_3 i'.toNat).Cost) < ((at_ v_4 (((1 + (a2AtI more 0 5)) - 1).toNat)).Cost)] hB ⟨h7, ⟨(by omega), (by omega)⟩, (inR_i64 (by omega) (by omega)), ⟨(by omega), (by omega)⟩, h8, trivial⟩ ?_
      refine ae_then ?_
      refine aw_true rfl ?_
      refine aR [] [5, 7, 8, 10, 12, 13, 17, 18] [5] [.ref 5 0, I (1 + (a2AtI more 0 5)), slMatch true v_3, slMatch true v_4, Sv v_5, I c_5, I i', Bv false] [some (bxStoreT v_1)] [] hB trivial ?_
      refine aw_seq ?_
      refine aR [] [5, 7, 8, 10, 12, 13, 17, 18, 19] [5] [.ref 5 0, I (1 + (a2AtI more 0 5)), slMatch true v_3, slMatch true v_4, Sv v_5, I c_5, I i', Bv false, I 0] [some (bxStoreT v_1)] [] hB trivial ?_
      refine aw_block ?_
      refine aw_loop (fun gn gσ => ∃ (found : Bool) (j : Int), gn = ((v_4.length : Int) - j).toNat ∧ (0 ≤ j ∧ j ≤ (v_4.length : Int)) ∧ ((found = true ↔ ∃ k : Nat, (k : Int) < j ∧ at_ v_4 k = at_ v_3 i'.toNat)) ∧ gσ = mkS [(5, .ref 5 0), (7, I (1 + (a2AtI more 0 5))), (8, slMatch true v_3), (10, slMatch true v_4), (12, Sv v_5), (13, I c_5), (17, I i'), (18, Bv found), (19, I j)] [(5, bxStoreT v_1)]) (((v_4.length : Int) - 0).toNat) ⟨false, 0, rfl, (by omega), (by constructor; (intro q; cases q); (rintro ⟨k, q, _⟩; omega)), rfl⟩ (fun gn gσ hI => ?_)
      obtain ⟨found, j, rfl, hj0, hfd, rfl⟩ := hI
      refine aw_seq ?_
      refine aw_seq ?_
      by_cases h9 : j < (v_4.length : Int)
      ·have hj : j.toNat < v_4.length := by omega
       refine aw_r [(3, .dec true)] [5, 7, 8, 10, 12, 13, 17, 18, 19, 197] [5] [.ref 5 0, I (1 + (a2AtI more 0 5)), slMatch true v_3, slMatch true v_4, Sv v_5, I c_5, I i', Bv found, I j, Bv true] [some (bxStoreT v_1)] [j < (v_4.length : Int)] hB ⟨h9, trivial⟩ ?_
       refine ae_then ?_
       refine aw_true rfl ?_
       refine aw_skip ?_
       refine ae_then ?_
       refine aw_seq ?_
       refine aw_block ?_
       rcases Bool.eq_false_or_eq_true found with h10 | h10
       ·subst h10
        refine aw_r [] [5, 7, 8, 10, 12, 13, 17, 18, 19] [5] [.ref 5 0, I (1 + (a2AtI more 0 5)), slMatch true v_3, slMatch true v_4, Sv v_5, I c_5, I i', Bv true, I j] [some (bxStoreT v_1)] [] hB trivial ?_
        refine ae_block 5 ?_
        refine ae_then ?_
        refine aw_r [] [5, 7, 8, 10, 12, 13, 17, 18, 19] [5] [.ref 5 0, I (1 + (a2AtI more 0 5)), slMatch true v_3, slMatch true v_4, Sv v_5, I c_5, I i', Bv true, I (j + 1)] [some (bxStoreT v_1)] [inR .i64 (j + 1)] hB ⟨(inR_i64 (by omega) (by omega)), trivial⟩ ?_
        exact ae_again _ (by omega) ⟨true, (j + 1), rfl, (by omega), (by first | (constructor; (intro _; obtain ⟨k, h1, h2⟩ := hfd.1 rfl; exact ⟨k, by omega, h2⟩); (intro _; rfl)) | (constructor; (intro _; exact ⟨j.toNat, by omega, hje⟩); (intro _; rfl)) | (constructor; (intro q; cases q); (rintro ⟨k, h1, h2⟩; by_cases e : k = j.toNat; (exact absurd (e ▸ h2) hjn); (have h3 : (k : Int) < j := by clear hfd; omega); (exact hfd.2 ⟨k, h3, h2⟩)))), rfl⟩
       subst h10
       by_cases h11 : ((at_ v_4 j.toNat).Index) = ((at_ v_3 i'.toNat).Index) ∧ ((at_ v_4 j.toNat).Cost) = ((at_ v_3 i'.toNat).Cost) ∧ True
       ·have hje : at_ v_4 j.toNat = at_ v_3 i'.toNat := match_ext h11.1 h11.2.1
        refine aw_r [(10, .dec true)] [5, 7, 8, 10, 12, 13, 17, 18, 19] [5] [.ref 5 0, I (1 + (a2AtI more 0 5)), slMatch true v_3, slMatch true v_4, Sv v_5, I c_5, I i', Bv true, I j] [some (bxStoreT v_1)] [(0 : Int) ≤ j ∧ j < (v_4.length : Int), (0 : Int) ≤ i' ∧ i' < (v_3.length : Int), ((at_ v_4 j.toNat).Index) = ((at_ v_3 i'.toNat).Index) ∧ ((at_ v_4 j.toNat).Cost) = ((at_ v_3 i'.toNat).Cost) ∧ True] hB ⟨⟨(by omega), (by omega)⟩, ⟨(by omega), (by omega)⟩, h11, trivial⟩ ?_
        refine ae_block 5 ?_
        refine ae_then ?_
        refine aw_r [] [5, 7, 8, 10, 12, 13, 17, 18, 19] [5] [.ref 5 0, I (1 + (a2AtI more 0 5)), slMatch true v_3, slMatch true v_4, Sv v_5, I c_5, I i', Bv true, I (j + 1)] [some (bxStoreT v_1)] [inR .i64 (j + 1)] hB ⟨(inR_i64 (by omega) (by omega)), trivial⟩ ?_
        exact ae_again _ (by omega) ⟨true, (j + 1), rfl, (by omega), (by first | (constructor; (intro _; obtain ⟨k, h1, h2⟩ := hfd.1 rfl; exact ⟨k, by omega, h2⟩); (intro _; rfl)) | (constructor; (intro _; exact ⟨j.toNat, by omega, hje⟩); (intro _; rfl)) | (constructor; (intro q; cases q); (rintro ⟨k, h1, h2⟩; by_cases e : k = j.toNat; (exact absurd (e ▸ h2) hjn); (have h3 : (k : Int) < j := by clear hfd; omega); (exact hfd.2 ⟨k, h3, h2⟩)))), rfl⟩
       have hjn : ¬ at_ v_4 j.toNat = at_ v_3 i'.toNat := fun q => h11 ⟨congrArg Match.Index q, congrArg Match.Cost q, trivial⟩
       refine aw_r [(10, .dec false)] [5, 7, 8, 10, 12, 13, 17, 18, 19] [5] [.ref 5 0, I (1 + (a2AtI more 0 5)), slMatch true v_3, slMatch true v_4, Sv v_5, I c_5, I i', Bv false, I j] [some (bxStoreT v_1)] [(0 : Int) ≤ j ∧ j < (v_4.length : Int), (0 : Int) ≤ i' ∧ i' < (v_3.length : Int), ¬ (((at_ v_4 j.toNat).Index) = ((at_ v_3 i'.toNat).Index) ∧ ((at_ v_4 j.toNat).Cost) = ((at_ v_3 i'.toNat).Cost) ∧ True)] hB ⟨⟨(by omega), (by omega)⟩, ⟨(by omega), (by omega)⟩, h11, trivial⟩ ?_
       refine ae_block 5 ?_
       refine ae_then ?_
       refine aw_r [] [5, 7, 8, 10, 12, 13, 17, 18, 19] [5] [.ref 5 0, I (1 + (a2AtI more 0 5)), slMatch true v_3, slMatch true v_4, Sv v_5, I c_5, I i', Bv false, I (j + 1)] [some (bxStoreT v_1)] [inR .i64 (j + 1)] hB ⟨(inR_i64 (by omega) (by omega)), trivial⟩ ?_
       exact ae_again _ (by omega) ⟨false, (j + 1), rfl, (by omega), (by first | (constructor; (intro _; obtain ⟨k, h1, h2⟩ := hfd.1 rfl; exact ⟨k, by omega, h2⟩); (intro _; rfl)) | (constructor; (intro _; exact ⟨j.toNat, by omega, hje⟩); (intro _; rfl)) | (constructor; (intro q; cases q); (rintro ⟨k, h1, h2⟩; by_cases e : k = j.toNat; (exact absurd (e ▸ h2) hjn); (have h3 : (k : Int) < j := by clear hfd; omega); (exact hfd.2 ⟨k, h3, h2⟩)))), rfl⟩
      refine aw_r [(3, .dec false)] [5, 7, 8, 10, 12, 13, 17, 18, 19, 197] [5] [.ref 5 0, I (1 + (a2AtI more 0 5)), slMatch true v_3, slMatch true v_4, Sv v_5, I c_5, I i', Bv found, I j, Bv false] [some (bxStoreT v_1)] [¬ (j < (v_4.length : Int))] hB ⟨h9, trivial⟩ ?_
      refine ae_then ?_
      refine aw_false rfl ?_
      refine aw_exit ?_
      refine ae_exit_then ?_
      refine ae_exit_then ?_
      refine ae_exit_same ?_
      refine ae_then ?_
      refine aw_seq ?_
      obtain rfl : found = true := (hfd.2 ⟨j0, by omega, hj1⟩)
      refine aw_r [] [5, 7, 8, 10, 12, 13, 17, 213] [5] [.ref 5 0, I (1 + (a2AtI more 0 5)), slMatch true v_3, slMatch true v_4, Sv v_5, I c_5, I i', Bv false] [some (bxStoreT v_1)] [] hB trivial ?_
      refine ae_then ?_
      refine aw_false rfl ?_
      refine aw_skip ?_
      refine ae_block 3 ?_
      refine ae_then ?_
      refine aw_r [] [5, 7, 8, 10, 12, 13, 17] [5] [.ref 5 0, I (1 + (a2AtI more 0 5)), slMatch true v_3, slMatch true v_4, Sv v_5, I c_5, I (i' + 1)] [some (bxStoreT v_1)] [inR .i64 (i' + 1)] hB ⟨(inR_i64 (by omega) (by omega)), trivial⟩ ?_
      exact ae_again _ (by omega) ⟨(i' + 1), rfl, (by omega), rfl⟩
     refine aw_r [(3, .dec true), (16, .dec false)] [5, 7, 8, 10, 12, 13, 17, 193] [5] [.ref 5 0, I (1 + (a2AtI more 0 5)), slMatch true v_3, slMatch true v_4, Sv v_5, I c_5, I i', Bv false] [some (bxStoreT v_1)] [(v_4.length : Int) = (1 + (a2AtI more 0 5)), (0 : Int) ≤ i' ∧ i' < (v_3.length : Int), inR .i64 ((1 + (a2AtI more 0 5)) - 1), (0 : Int) ≤ ((1 + (a2AtI more 0 5)) - 1) ∧ ((1 + (a2AtI more 0 5)) - 1) < (v_4.length : Int), ¬ (((at_ v_3 i'.toNat).Cost) < ((at_ v_4 (((1 + (a2AtI more 0 5)) - 1).toNat)).Cost))] hB ⟨h7, ⟨(by omega), (by omega)⟩, (inR_i64 (by omega) (by omega)), ⟨(by omega), (by omega)⟩, h8, trivial⟩ ?_
     refine ae_then ?_
     refine aw_false rfl ?_
     refine aw_skip ?_
     refine ae_block 3 ?_
     refine ae_then ?_
     refine aw_r [] [5, 7, 8, 10, 12, 13, 17] [5] [.ref 5 0, I (1 + (a2AtI more 0 5)), slMatch true v_3, slMatch true v_4, Sv v_5, I c_5, I (i' + 1)] [some (bxStoreT v_1)] [inR .i64 (i' + 1)] hB ⟨(inR_i64 (by omega) (by omega)), trivial⟩ ?_
     exact ae_again _ (by omega) ⟨(i' + 1), rfl, (by omega), rfl⟩
    refine aw_r [(3, .dec false)] [5, 7, 8, 10, 12, 13, 17, 193] [5] [.ref 5 0, I (1 + (a2AtI more 0 5)), slMatch true v_3, slMatch true v_4, Sv v_5, I c_5, I i', Bv false] [some (bxStoreT v_1)] [¬ ((v_4.length : Int) = (1 + (a2AtI more 0 5)))] hB ⟨h7, trivial⟩ ?_
    refine ae_then ?_
    refine aw_false rfl ?_
    refine aw_skip ?_
    refine ae_block 3 ?_
    refine ae_then ?_
    refine aw_r [] [5, 7, 8, 10, 12, 13, 17] [5] [.ref 5 0, I (1 + (a2AtI more 0 5)), slMatch true v_3, slMatch true v_4, Sv v_5, I c_5, I (i' + 1)] [some (bxStoreT v_1)] [inR .i64 (i' + 1)] hB ⟨(inR_i64 (by omega) (by omega)), trivial⟩ ?_
    exact ae_again _ (by omega) ⟨(i' + 1), rfl, (by omega), rfl⟩
   refine aw_r [(3, .dec false)] [5, 7, 8, 10, 12, 13, 17, 173] [5] [.ref 5 0, I (1 + (a2AtI more 0 5)), slMatch true v_3, slMatch true v_4, Sv v_5, I c_5, I i', Bv false] [some (bxStoreT v_1)] [¬ (i' < (v_3.length : Int))] hB ⟨h6, trivial⟩ ?_
   refine ae_then ?_
   refine aw_false rfl ?_
   refine aw_exit ?_
   refine ae_exit_then ?_
   refine ae_exit_then ?_
   refine ae_exit_same ?_
   refine ae_then ?_
   refine aw_seq ?_
   refine aw_seq ?_
   by_cases h12 : (v_3.length : Int) = 0
   ·have hv3 := hnn.2 (by omega)
    rw [if_pos hv3] at hvc
    refine aw_r [(2, .dec true)] [5, 10, 12, 13, 216] [5] [.ref 5 0, slMatch true v_4, Sv v_5, I c_5, Bv true] [some (bxStoreT v_1)] [(v_3.length : Int) = 0] hB ⟨h12, trivial⟩ ?_
    refine ae_then ?_
    refine aw_true rfl ?_
    refine aR [(1, .dec true)] [4] [] [Bv true] [] [c_5 = 3] hB ⟨hvc, trivial⟩ ?_
    refine aw_ret ?_
    refine ae_ret_then ?_
    refine ae_ret hB (Bv true) (by kernel_rfl) (.inl rfl) rfl (fun _ => trivial)
   have hv3 : ¬ (nsL v_1 v_2 1).length = 0 := fun q => h12 (by have := hnn.1 q; omega)
   rw [if_neg hv3] at hvc
   have hsb := nsL_sub (s := v_1) (fs := v_2) (k := (1 + (a2AtI more 0 5))) (by omega) (by rw [← hall]; omega)
   rw [← hls] at hsb
   have hvl : v_5 = (at_ v_1.Templates (at_ v_4 0).Index.toNat).Label := by rw [hvv, hsb.2.2]; exact if_neg hv3
   have hns := ns_at hst okf (k := (1 + (a2AtI more 0 5))) (i := 0) (by rw [← hls]; omega)
   rw [← hls] at hns
   refine aw_r [(2, .dec false)] [5, 10, 12, 13, 216] [5] [.ref 5 0, slMatch true v_4, Sv v_5, I c_5, Bv false] [some (bxStoreT v_1)] [¬ ((v_3.length : Int) = 0)] hB ⟨h12, trivial⟩ ?_
   refine ae_then ?_
   refine aw_false rfl ?_
   refine aw_skip ?_
   refine ae_then ?_
   refine aR [(1, .dec true), (13, .dec true)] [4] [] [Bv true] [] [c_5 = 0, (0 : Int) ≤ 0 ∧ 0 < (v_4.length : Int), (0 : Int) ≤ ((at_ v_4 0).Index) ∧ ((at_ v_4 0).Index) < (v_1.Templates.length : Int), v_5 = ((at_ v_1.Templates (((at_ v_4 0).Index).toNat)).Label)] hB ⟨hvc, ⟨(by omega), (by omega)⟩, ⟨(by omega), (by omega)⟩, hvl, trivial⟩ ?_
   refine aw_ret ?_
   refine ae_ret hB (Bv true) (by kernel_rfl) (.inl rfl) rfl (fun _ => trivial)
  refine aw_r [(1, .dec false), (4, .dec false), (10, .dec false), (17, .dec false), (23, .dec false)] [5, 6, 7, 8, 10, 12, 13, 80] [5] [.ref 5 0, slFeat true v_2, I (1 + (a2AtI more 0 5)), slMatch true v_3, slMatch true v_4, Sv v_5, I c_5, Bv false] [some (bxStoreT v_1)] [¬ (c_3 ≠ 0), ¬ (c_4 ≠ 0), ¬ ((1 + (a2AtI more 0 5)) < (v_4.length : Int)), ¬ ((v_3.length : Int) < (v_4.length : Int)), ¬ ((v_4.length : Int) < (1 + (a2AtI more 0 5)))] hB ⟨(fun hq => hq hx3_1), (fun hq => hq hx4_1), (by omega), (by omega), h2, trivial⟩ ?_
  refine ae_then ?_
  refine aw_false rfl ?_
  refine aw_skip ?_
  refine ae_then ?_
  refine aw_seq ?_
  refine aR [] [5, 6, 7, 8, 10, 12, 13, 14] [5] [.ref 5 0, slFeat true v_2, I (1 + (a2AtI more 0 5)), slMatch true v_3, slMatch true v_4, Sv v_5, I c_5, I 0] [some (bxStoreT v_1)] [] hB trivial ?_
  refine aw_block ?_
  refine aw_loop (fun gn gσ => ∃ (i : Int), gn = ((v_4.length : Int) - i).toNat ∧ (0 ≤ i ∧ i ≤ (v_4.length : Int)) ∧ gσ = mkS [(5, .ref 5 0), (6, slFeat true v_2), (7, I (1 + (a2AtI more 0 5))), (8, slMatch true v_3), (10, slMatch true v_4), (12, Sv v_5), (13, I c_5), (14, I i)] [(5, bxStoreT v_1)]) (((v_4.length : Int) - 0).toNat) ⟨0, rfl, (by omega), rfl⟩ (fun gn gσ hI => ?_)
  obtain ⟨i, rfl, hi0, rfl⟩ := hI
  refine aw_seq ?_
  refine aw_seq ?_
  by_cases h13 : i < (v_4.length : Int)
  ·have hi : i.toNat < v_4.length := by omega
   have hns := ns_at hst okf (k := (1 + (a2AtI more 0 5))) (i := i.toNat) (by rw [← hls]; exact hi)
   rw [← hls] at hns
   refine aw_r [(3, .dec true)] [5, 6, 7, 8, 10, 12, 13, 14, 84] [5] [.ref 5 0, slFeat true v_2, I (1 + (a2AtI more 0 5)), slMatch true v_3, slMatch true v_4, Sv v_5, I c_5, I i, Bv true] [some (bxStoreT v_1)] [i < (v_4.length : Int)] hB ⟨h13, trivial⟩ ?_
   refine ae_then ?_
   refine aw_true rfl ?_
   refine aw_skip ?_
   refine ae_then ?_
   refine aw_seq ?_
   refine aw_block ?_
   refine aw_seq ?_
   refine aR [(5, .dec false), (15, .dec false)] [5, 6, 7, 8, 10, 12, 13, 14, 103] [5] [.ref 5 0, slFeat true v_2, I (1 + (a2AtI more 0 5)), slMatch true v_3, slMatch true v_4, Sv v_5, I c_5, I i, Bv false] [some (bxStoreT v_1)] [(0 : Int) ≤ i ∧ i < (v_4.length : Int), ¬ (((at_ v_4 i.toNat).Index) < 0), (0 : Int) ≤ i ∧ i < (v_4.length : Int), ¬ ((v_1.Templates.length : Int) ≤ ((at_ v_4 i.toNat).Index))] hB ⟨⟨(by omega), (by omega)⟩, (by omega), ⟨(by omega), (by omega)⟩, (by omega), trivial⟩ ?_
   refine aw_false rfl ?_
   refine aw_skip ?_
   refine ae_then ?_
   refine aw_seq ?_
   obtain ⟨v_7, c_7, hx7_0, hx7_1, hc7⟩ := specElastic_ok v_2 ((at_ v_1.Templates (((at_ v_4 i.toNat).Index).toNat)).Feats) v_1.Band
   have hev : v_7 = (at_ v_4 i.toNat).Cost ∧ c_7 = 0 := by rw [hx7_0, hx7_1, hns.2]; exact ⟨rfl, rfl⟩
   refine aw_r [(13, .call [(false, slFeat false v_2), (false, slFeat false ((at_ v_1.Templates (((at_ v_4 i.toNat).Index).toNat)).Feats)), (true, .any)] true (.tup [I v_7, I c_7]))] [5, 6, 7, 8, 10, 12, 13, 14, 15, 16] [5] [.ref 5 0, slFeat true v_2, I (1 + (a2AtI more 0 5)), slMatch true v_3, slMatch true v_4, Sv v_5, I c_5, I i, I v_7, I c_7] [some (bxStoreT v_1)] [(0 : Int) ≤ i ∧ i < (v_4.length : Int), (0 : Int) ≤ ((at_ v_4 i.toNat).Index) ∧ ((at_ v_4 i.toNat).Index) < (v_1.Templates.length : Int), Con Try.prog 19 [slFeat false v_2, slFeat false ((at_ v_1.Templates (((at_ v_4 i.toNat).Index).toNat)).Feats), I v_1.Band] true (.tup [I v_7, I c_7]) ∧ ((false = true → true = true) ∧ 3 = 3 ∧ v_2.length = v_2.length ∧ ∀ i_, i_ < v_2.length → (fFeat v_2) i_ = (fFeat v_2) i_ ∨ (AV.idsL ((fFeat v_2) i_) = [] ∧ leL (fun _ => none) false ((fFeat v_2) i_) ((fFeat v_2) i_))) ∧ ((false = true → true = true) ∧ 3 = 3 ∧ (((at_ v_1.Templates (((at_ v_4 i.toNat).Index).toNat)).Feats).length) = (((at_ v_1.Templates (((at_ v_4 i.toNat).Index).toNat)).Feats).length) ∧ ∀ i_, i_ < (((at_ v_1.Templates (((at_ v_4 i.toNat).Index).toNat)).Feats).length) → (fFeat ((at_ v_1.Templates (((at_ v_4 i.toNat).Index).toNat)).Feats)) i_ = (fFeat ((at_ v_1.Templates (((at_ v_4 i.toNat).Index).toNat)).Feats)) i_ ∨ (AV.idsL ((fFeat ((at_ v_1.Templates (((at_ v_4 i.toNat).Index).toNat)).Feats)) i_) = [] ∧ leL (fun _ => none) false ((fFeat ((at_ v_1.Templates (((at_ v_4 i.toNat).Index).toNat)).Feats)) i_) ((fFeat ((at_ v_1.Templates (((at_ v_4 i.toNat).Index).toNat)).Feats)) i_))) ∧ True] hB ⟨⟨(by omega), (by omega)⟩, ⟨(by omega), (by omega)⟩, ⟨hc7, ⟨(fun h => by cases h), rfl, rfl, fun i _ => .inl rfl⟩, ⟨(fun h => by cases h), rfl, rfl, fun i _ => .inl rfl⟩, trivial⟩, trivial⟩ ?_
   refine ae_then ?_
   refine aw_seq ?_
   by_cases h14 : 0 < i
   ·have hor := nsL_ord (s := v_1) (fs := v_2) (k := (1 + (a2AtI more 0 5))) (i := i.toNat) (by omega) (by rw [← hls]; exact hi)
    rw [← hls, show i.toNat - 1 = (i - 1).toNat from by omega] at hor
    by_cases h15 : v_7 = ((at_ v_4 ((i - 1).toNat)).Cost)
    ·refine aw_r [(1, .dec false), (9, .dec false), (13, .dec true), (22, .dec false), (31, .dec true), (44, .dec false)] [5, 6, 7, 8, 10, 12, 13, 14, 169] [5] [.ref 5 0, slFeat true v_2, I (1 + (a2AtI more 0 5)), slMatch true v_3, slMatch true v_4, Sv v_5, I c_5, I i, Bv false] [some (bxStoreT v_1)] [¬ (c_7 ≠ 0), (0 : Int) ≤ i ∧ i < (v_4.length : Int), ¬ (v_7 ≠ ((at_ v_4 i.toNat).Cost)), 0 < i, inR .i64 (i - 1), (0 : Int) ≤ (i - 1) ∧ (i - 1) < (v_4.length : Int), ¬ (v_7 < ((at_ v_4 ((i - 1).toNat)).Cost)), inR .i64 (i - 1), (0 : Int) ≤ (i - 1) ∧ (i - 1) < (v_4.length : Int), v_7 = ((at_ v_4 ((i - 1).toNat)).Cost), (0 : Int) ≤ i ∧ i < (v_4.length : Int), inR .i64 (i - 1), (0 : Int) ≤ (i - 1) ∧ (i - 1) < (v_4.length : Int), ¬ (((at_ v_4 i.toNat).Index) ≤ ((at_ v_4 ((i - 1).toNat)).Index))] hB ⟨(fun hq => hq hev.2), ⟨(by omega), (by omega)⟩, (fun hq => hq hev.1), h14, (inR_i64 (by omega) (by omega)), ⟨(by omega), (by omega)⟩, (by omega), (inR_i64 (by omega) (by omega)), ⟨(by omega), (by omega)⟩, h15, ⟨(by omega), (by omega)⟩, (inR_i64 (by omega) (by omega)), ⟨(by omega), (by omega)⟩, (by omega), trivial⟩ ?_
     refine ae_then ?_
     refine aw_false rfl ?_
     refine aw_skip ?_
     refine ae_block 1 ?_
     refine ae_then ?_
     refine aw_r [] [5, 6, 7, 8, 10, 12, 13, 14] [5] [.ref 5 0, slFeat true v_2, I (1 + (a2AtI more 0 5)), slMatch true v_3, slMatch true v_4, Sv v_5, I c_5, I (i + 1)] [some (bxStoreT v_1)] [inR .i64 (i + 1)] hB ⟨(inR_i64 (by omega) (by omega)), trivial⟩ ?_
     exact ae_again _ (by omega) ⟨(i + 1), rfl, (by omega), rfl⟩
    refine aw_r [(1, .dec false), (9, .dec false), (13, .dec true), (22, .dec false), (31, .dec false)] [5, 6, 7, 8, 10, 12, 13, 14, 169] [5] [.ref 5 0, slFeat true v_2, I (1 + (a2AtI more 0 5)), slMatch true v_3, slMatch true v_4, Sv v_5, I c_5, I i, Bv false] [some (bxStoreT v_1)] [¬ (c_7 ≠ 0), (0 : Int) ≤ i ∧ i < (v_4.length : Int), ¬ (v_7 ≠ ((at_ v_4 i.toNat).Cost)), 0 < i, inR .i64 (i - 1), (0 : Int) ≤ (i - 1) ∧ (i - 1) < (v_4.length : Int), ¬ (v_7 < ((at_ v_4 ((i - 1).toNat)).Cost)), inR .i64 (i - 1), (0 : Int) ≤ (i - 1) ∧ (i - 1) < (v_4.length : Int), ¬ (v_7 = ((at_ v_4 ((i - 1).toNat)).Cost))] hB ⟨(fun hq => hq hev.2), ⟨(by omega), (by omega)⟩, (fun hq => hq hev.1), h14, (inR_i64 (by omega) (by omega)), ⟨(by omega), (by omega)⟩, (by omega), (inR_i64 (by omega) (by omega)), ⟨(by omega), (by omega)⟩, h15, trivial⟩ ?_
    refine ae_then ?_
    refine aw_false rfl ?_
    refine aw_skip ?_
    refine ae_block 1 ?_
    refine ae_then ?_
    refine aw_r [] [5, 6, 7, 8, 10, 12, 13, 14] [5] [.ref 5 0, slFeat true v_2, I (1 + (a2AtI more 0 5)), slMatch true v_3, slMatch true v_4, Sv v_5, I c_5, I (i + 1)] [some (bxStoreT v_1)] [inR .i64 (i + 1)] hB ⟨(inR_i64 (by omega) (by omega)), trivial⟩ ?_
    exact ae_again _ (by omega) ⟨(i + 1), rfl, (by omega), rfl⟩
   refine aw_r [(1, .dec false), (9, .dec false), (13, .dec false)] [5, 6, 7, 8, 10, 12, 13, 14, 169] [5] [.ref 5 0, slFeat true v_2, I (1 + (a2AtI more 0 5)), slMatch true v_3, slMatch true v_4, Sv v_5, I c_5, I i, Bv false] [some (bxStoreT v_1)] [¬ (c_7 ≠ 0), (0 : Int) ≤ i ∧ i < (v_4.length : Int), ¬ (v_7 ≠ ((at_ v_4 i.toNat).Cost)), ¬ (0 < i)] hB ⟨(fun hq => hq hev.2), ⟨(by omega), (by omega)⟩, (fun hq => hq hev.1), h14, trivial⟩ ?_
   refine ae_then ?_
   refine aw_false rfl ?_
   refine aw_skip ?_
   refine ae_block 1 ?_
   refine ae_then ?_
   refine aw_r [] [5, 6, 7, 8, 10, 12, 13, 14] [5] [.ref 5 0, slFeat true v_2, I (1 + (a2AtI more 0 5)), slMatch true v_3, slMatch true v_4, Sv v_5, I c_5, I (i + 1)] [some (bxStoreT v_1)] [inR .i64 (i + 1)] hB ⟨(inR_i64 (by omega) (by omega)), trivial⟩ ?_
   exact ae_again _ (by omega) ⟨(i + 1), rfl, (by omega), rfl⟩
  refine aw_r [(3, .dec false)] [5, 6, 7, 8, 10, 12, 13, 14, 84] [5] [.ref 5 0, slFeat true v_2, I (1 + (a2AtI more 0 5)), slMatch true v_3, slMatch true v_4, Sv v_5, I c_5, I i, Bv false] [some (bxStoreT v_1)] [¬ (i < (v_4.length : Int))] hB ⟨h13, trivial⟩ ?_
  refine ae_then ?_
  refine aw_false rfl ?_
  refine aw_exit ?_
  refine ae_exit_then ?_
  refine ae_exit_then ?_
  refine ae_exit_same ?_
  refine ae_then ?_
  refine aw_seq ?_
  refine aR [] [5, 7, 8, 10, 12, 13, 17] [5] [.ref 5 0, I (1 + (a2AtI more 0 5)), slMatch true v_3, slMatch true v_4, Sv v_5, I c_5, I 0] [some (bxStoreT v_1)] [] hB trivial ?_
  refine aw_block ?_
  refine aw_loop (fun gn gσ => ∃ (i' : Int), gn = ((v_3.length : Int) - i').toNat ∧ (0 ≤ i' ∧ i' ≤ (v_3.length : Int)) ∧ gσ = mkS [(5, .ref 5 0), (7, I (1 + (a2AtI more 0 5))), (8, slMatch true v_3), (10, slMatch true v_4), (12, Sv v_5), (13, I c_5), (17, I i')] [(5, bxStoreT v_1)]) (((v_3.length : Int) - 0).toNat) ⟨0, rfl, (by omega), rfl⟩ (fun gn gσ hI => ?_)
  obtain ⟨i', rfl, hi0, rfl⟩ := hI
  refine aw_seq ?_
  refine aw_seq ?_
  by_cases h16 : i' < (v_3.length : Int)
  ·have hi2 : i'.toNat < v_3.length := by omega
   refine aw_r [(3, .dec true)] [5, 7, 8, 10, 12, 13, 17, 173] [5] [.ref 5 0, I (1 + (a2AtI more 0 5)), slMatch true v_3, slMatch true v_4, Sv v_5, I c_5, I i', Bv true] [some (bxStoreT v_1)] [i' < (v_3.length : Int)] hB ⟨h16, trivial⟩ ?_
   refine ae_then ?_
   refine aw_true rfl ?_
   refine aw_skip ?_
   refine ae_then ?_
   refine aw_seq ?_
   refine aw_block ?_
   refine aw_seq ?_
   by_cases h17 : (v_4.length : Int) = (1 + (a2AtI more 0 5))
   ·by_cases h18 : ((at_ v_3 i'.toNat).Cost) < ((at_ v_4 (((1 + (a2AtI more 0 5)) - 1).toNat)).Cost)
    ·obtain ⟨j0, hj0, hj1⟩ := mem_at' (nsL_has (k := (1 + (a2AtI more 0 5))) (by omega) (by rw [← hall]; exact at_mem hi2) (by rw [← hls]; omega) (by rw [← hls]; exact h18))
     rw [← hls] at hj0 hj1
     refine aw_r [(3, .dec true), (16, .dec true)] [5, 7, 8, 10, 12, 13, 17, 193] [5] [.ref 5 0, I (1 + (a2AtI more 0 5)), slMatch true v_3, slMatch true v_4, Sv v_5, I c_5, I i', Bv true] [some (bxStoreT v_1)] [(v_4.length : Int) = (1 + (a2AtI more 0 5)), (0 : Int) ≤ i' ∧ i' < (v_3.length : Int), inR .i64 ((1 + (a2AtI more 0 5)) - 1), (0 : Int) ≤ ((1 + (a2AtI more 0 5)) - 1) ∧ ((1 + (a2AtI more 0 5)) - 1) < (v_4.length : Int), ((at_ v_3 i'.toNat).Cost) < ((at_ v_4 (((1 + (a2AtI more 0 5)) - 1).toNat)).Cost)] hB ⟨h17, ⟨(by omega), (by omega)⟩, (inR_i64 (by omega) (by omega)), ⟨(by omega), (by omega)⟩, h18, trivial⟩ ?_
     refine ae_then ?_
     refine aw_true rfl ?_
     refine aR [] [5, 7, 8, 10, 12, 13, 17, 18] [5] [.ref 5 0, I (1 + (a2AtI more 0 5)), slMatch true v_3, slMatch true v_4, Sv v_5, I c_5, I i', Bv false] [some (bxStoreT v_1)] [] hB trivial ?_
     refine aw_seq ?_
     refine aR [] [5, 7, 8, 10, 12, 13, 17, 18, 19] [5] [.ref 5 0, I (1 + (a2AtI more 0 5)), slMatch true v_3, slMatch true v_4, Sv v_5, I c_5, I i', Bv false, I 0] [some (bxStoreT v_1)] [] hB trivial ?_
     refine aw_block ?_
     refine aw_loop (fun gn gσ => ∃ (found : Bool) (j : Int), gn = ((v_4.length : Int) - j).toNat ∧ (0 ≤ j ∧ j ≤ (v_4.length : Int)) ∧ ((found = true ↔ ∃ k : Nat, (k : Int) < j ∧ at_ v_4 k = at_ v_3 i'.toNat)) ∧ gσ = mkS [(5, .ref 5 0), (7, I (1 + (a2AtI more 0 5))), (8, slMatch true v_3), (10, slMatch true v_4), (12, Sv v_5), (13, I c_5), (17, I i'), (18, Bv found), (19, I j)] [(5, bxStoreT v_1)]) (((v_4.length : Int) - 0).toNat) ⟨false, 0, rfl, (by omega), (by constructor; (intro q; cases q); (rintro ⟨k, q, _⟩; omega)), rfl⟩ (fun gn gσ hI => ?_)
     obtain ⟨found, j, rfl, hj0, hfd, rfl⟩ := hI
     refine aw_seq ?_
     refine aw_seq ?_
     by_cases h19 : j < (v_4.length : Int)
     ·have hj : j.toNat < v_4.length := by omega
      refine aw_r [(3, .dec true)] [5, 7, 8, 10, 12, 13, 17, 18, 19, 197] [5] [.ref 5 0, I (1 + (a2AtI more 0 5)), slMatch true v_3, slMatch true v_4, Sv v_5, I c_5, I i', Bv found, I j, Bv true] [some (bxStoreT v_1)] [j < (v_4.length : Int)] hB ⟨h19, trivial⟩ ?_
      refine ae_then ?_
      refine aw_true rfl ?_
      refine aw_skip ?_
      refine ae_then ?_
      refine aw_seq ?_
      refine aw_block ?_
      rcases Bool.eq_false_or_eq_true found with h20 | h20
      ·subst h20
       refine aw_r [] [5, 7, 8, 10, 12, 13, 17, 18, 19] [5] [.ref 5 0, I (1 + (a2AtI more 0 5)), slMatch true v_3, slMatch true v_4, Sv v_5, I c_5, I i', Bv true, I j] [some (bxStoreT v_1)] [] hB trivial ?_
       refine ae_block 5 ?_
       refine ae_then ?_
       refine aw_r [] [5, 7, 8, 10, 12, 13, 17, 18, 19] [5] [.ref 5 0, I (1 + (a2AtI more 0 5)), slMatch true v_3, slMatch true v_4, Sv v_5, I c_5, I i', Bv true, I (j + 1)] [some (bxStoreT v_1)] [inR .i64 (j + 1)] hB ⟨(inR_i64 (by omega) (by omega)), trivial⟩ ?_
       exact ae_again _ (by omega) ⟨true, (j + 1), rfl, (by omega), (by first | (constructor; (intro _; obtain ⟨k, h1, h2⟩ := hfd.1 rfl; exact ⟨k, by omega, h2⟩); (intro _; rfl)) | (constructor; (intro _; exact ⟨j.toNat, by omega, hje⟩); (intro _; rfl)) | (constructor; (intro q; cases q); (rintro ⟨k, h1, h2⟩; by_cases e : k = j.toNat; (exact absurd (e ▸ h2) hjn); (have h3 : (k : Int) < j := by clear hfd; omega); (exact hfd.2 ⟨k, h3, h2⟩)))), rfl⟩
      subst h20
      by_cases h21 : ((at_ v_4 j.toNat).Index) = ((at_ v_3 i'.toNat).Index) ∧ ((at_ v_4 j.toNat).Cost) = ((at_ v_3 i'.toNat).Cost) ∧ True
      ·have hje : at_ v_4 j.toNat = at_ v_3 i'.toNat := match_ext h21.1 h21.2.1
       refine aw_r [(10, .dec true)] [5, 7, 8, 10, 12, 13, 17, 18, 19] [5] [.ref 5 0, I (1 + (a2AtI more 0 5)), slMatch true v_3, slMatch true v_4, Sv v_5, I c_5, I i', Bv true, I j] [some (bxStoreT v_1)] [(0 : Int) ≤ j ∧ j < (v_4.length : Int), (0 : Int) ≤ i' ∧ i' < (v_3.length : Int), ((at_ v_4 j.toNat).Index) = ((at_ v_3 i'.toNat).Index) ∧ ((at_ v_4 j.toNat).Cost) = ((at_ v_3 i'.toNat).Cost) ∧ True] hB ⟨⟨(by omega), (by omega)⟩, ⟨(by omega), (by omega)⟩, h21, trivial⟩ ?_
       refine ae_block 5 ?_
       refine ae_then ?_
       refine aw_r [] [5, 7, 8, 10, 12, 13, 17, 18, 19] [5] [.ref 5 0, I (1 + (a2AtI more 0 5)), slMatch true v_3, slMatch true v_4, Sv v_5, I c_5, I i', Bv true, I (j + 1)] [some (bxStoreT v_1)] [inR .i64 (j + 1)] hB ⟨(inR_i64 (by omega) (by omega)), trivial⟩ ?_
       exact ae_again _ (by omega) ⟨true, (j + 1), rfl, (by omega), (by first | (constructor; (intro _; obtain ⟨k, h1, h2⟩ := hfd.1 rfl; exact ⟨k, by omega, h2⟩); (intro _; rfl)) | (constructor; (intro _; exact ⟨j.toNat, by omega, hje⟩); (intro _; rfl)) | (constructor; (intro q; cases q); (rintro ⟨k, h1, h2⟩; by_cases e : k = j.toNat; (exact absurd (e ▸ h2) hjn); (have h3 : (k : Int) < j := by clear hfd; omega); (exact hfd.2 ⟨k, h3, h2⟩)))), rfl⟩
      have hjn : ¬ at_ v_4 j.toNat = at_ v_3 i'.toNat := fun q => h21 ⟨congrArg Match.Index q, congrArg Match.Cost q, trivial⟩
      refine aw_r [(10, .dec false)] [5, 7, 8, 10, 12, 13, 17, 18, 19] [5] [.ref 5 0, I (1 + (a2AtI more 0 5)), slMatch true v_3, slMatch true v_4, Sv v_5, I c_5, I i', Bv false, I j] [some (bxStoreT v_1)] [(0 : Int) ≤ j ∧ j < (v_4.length : Int), (0 : Int) ≤ i' ∧ i' < (v_3.length : Int), ¬ (((at_ v_4 j.toNat).Index) = ((at_ v_3 i'.toNat).Index) ∧ ((at_ v_4 j.toNat).Cost) = ((at_ v_3 i'.toNat).Cost) ∧ True)] hB ⟨⟨(by omega), (by omega)⟩, ⟨(by omega), (by omega)⟩, h21, trivial⟩ ?_
      refine ae_block 5 ?_
      refine ae_then ?_
      refine aw_r [] [5, 7, 8, 10, 12, 13, 17, 18, 19] [5] [.ref 5 0, I (1 + (a2AtI more 0 5)), slMatch true v_3, slMatch true v_4, Sv v_5, I c_5, I i', Bv false, I (j + 1)] [some (bxStoreT v_1)] [inR .i64 (j + 1)] hB ⟨(inR_i64 (by omega) (by omega)), trivial⟩ ?_
      exact ae_again _ (by omega) ⟨false, (j + 1), rfl, (by omega), (by first | (constructor; (intro _; obtain ⟨k, h1, h2⟩ := hfd.1 rfl; exact ⟨k, by omega, h2⟩); (intro _; rfl)) | (constructor; (intro _; exact ⟨j.toNat, by omega, hje⟩); (intro _; rfl)) | (constructor; (intro q; cases q); (rintro ⟨k, h1, h2⟩; by_cases e : k = j.toNat; (exact absurd (e ▸ h2) hjn); (have h3 : (k : Int) < j := by clear hfd; omega); (exact hfd.2 ⟨k, h3, h2⟩)))), rfl⟩
     refine aw_r [(3, .dec false)] [5, 7, 8, 10, 12, 13, 17, 18, 19, 197] [5] [.ref 5 0, I (1 + (a2AtI more 0 5)), slMatch true v_3, slMatch true v_4, Sv v_5, I c_5, I i', Bv found, I j, Bv false] [some (bxStoreT v_1)] [¬ (j < (v_4.length : Int))] hB ⟨h19, trivial⟩ ?_
     refine ae_then ?_
     refine aw_false rfl ?_
     refine aw_exit ?_
     refine ae_exit_then ?_
     refine ae_exit_then ?_
     refine ae_exit_same ?_
     refine ae_then ?_
     refine aw_seq ?_
     obtain rfl : found = true := (hfd.2 ⟨j0, by omega, hj1⟩)
     refine aw_r [] [5, 7, 8, 10, 12, 13, 17, 213] [5] [.ref 5 0, I (1 + (a2AtI more 0 5)), slMatch true v_3, slMatch true v_4, Sv v_5, I c_5, I i', Bv false] [some (bxStoreT v_1)] [] hB trivial ?_
     refine ae_then ?_
     refine aw_false rfl ?_
     refine aw_skip ?_
     refine ae_block 3 ?_
     refine ae_then ?_
     refine aw_r [] [5, 7, 8, 10, 12, 13, 17] [5] [.ref 5 0, I (1 + (a2AtI more 0 5)), slMatch true v_3, slMatch true v_4, Sv v_5, I c_5, I (i' + 1)] [some (bxStoreT v_1)] [inR .i64 (i' + 1)] hB ⟨(inR_i64 (by omega) (by omega)), trivial⟩ ?_
     exact ae_again _ (by omega) ⟨(i' + 1), rfl, (by omega), rfl⟩
    refine aw_r [(3, .dec true), (16, .dec false)] [5, 7, 8, 10, 12, 13, 17, 193] [5] [.ref 5 0, I (1 + (a2AtI more 0 5)), slMatch true v_3, slMatch true v_4, Sv v_5, I c_5, I i', Bv false] [some (bxStoreT v_1)] [(v_4.length : Int) = (1 + (a2AtI more 0 5)), (0 : Int) ≤ i' ∧ i' < (v_3.length : Int), inR .i64 ((1 + (a2AtI more 0 5)) - 1), (0 : Int) ≤ ((1 + (a2AtI more 0 5)) - 1) ∧ ((1 + (a2AtI more 0 5)) - 1) < (v_4.length : Int), ¬ (((at_ v_3 i'.toNat).Cost) < ((at_ v_4 (((1 + (a2AtI more 0 5)) - 1).toNat)).Cost))] hB ⟨h17, ⟨(by omega), (by omega)⟩, (inR_i64 (by omega) (by omega)), ⟨(by omega), (by omega)⟩, h18, trivial⟩ ?_
    refine ae_then ?_
    refine aw_false rfl ?_
    refine aw_skip ?_
    refine ae_block 3 ?_
    refine ae_then ?_
    refine aw_r [] [5, 7, 8, 10, 12, 13, 17] [5] [.ref 5 0, I (1 + (a2AtI more 0 5)), slMatch true v_3, slMatch true v_4, Sv v_5, I c_5, I (i' + 1)] [some (bxStoreT v_1)] [inR .i64 (i' + 1)] hB ⟨(inR_i64 (by omega) (by omega)), trivial⟩ ?_
    exact ae_again _ (by omega) ⟨(i' + 1), rfl, (by omega), rfl⟩
   refine aw_r [(3, .dec false)] [5, 7, 8, 10, 12, 13, 17, 193] [5] [.ref 5 0, I (1 + (a2AtI more 0 5)), slMatch true v_3, slMatch true v_4, Sv v_5, I c_5, I i', Bv false] [some (bxStoreT v_1)] [¬ ((v_4.length : Int) = (1 + (a2AtI more 0 5)))] hB ⟨h17, trivial⟩ ?_
   refine ae_then ?_
   refine aw_false rfl ?_
   refine aw_skip ?_
   refine ae_block 3 ?_
   refine ae_then ?_
   refine aw_r [] [5, 7, 8, 10, 12, 13, 17] [5] [.ref 5 0, I (1 + (a2AtI more 0 5)), slMatch true v_3, slMatch true v_4, Sv v_5, I c_5, I (i' + 1)] [some (bxStoreT v_1)] [inR .i64 (i' + 1)] hB ⟨(inR_i64 (by omega) (by omega)), trivial⟩ ?_
   exact ae_again _ (by omega) ⟨(i' + 1), rfl, (by omega), rfl⟩
  refine aw_r [(3, .dec false)] [5, 7, 8, 10, 12, 13, 17, 173] [5] [.ref 5 0, I (1 + (a2AtI more 0 5)), slMatch true v_3, slMatch true v_4, Sv v_5, I c_5, I i', Bv false] [some (bxStoreT v_1)] [¬ (i' < (v_3.length : Int))] hB ⟨h16, trivial⟩ ?_
  refine ae_then ?_
  refine aw_false rfl ?_
  refine aw_exit ?_
  refine ae_exit_then ?_
  refine ae_exit_then ?_
  refine ae_exit_same ?_
  refine ae_then ?_
  refine aw_seq ?_
  refine aw_seq ?_
  by_cases h22 : (v_3.length : Int) = 0
  ·have hv3 := hnn.2 (by omega)
   rw [if_pos hv3] at hvc
   refine aw_r [(2, .dec true)] [5, 10, 12, 13, 216] [5] [.ref 5 0, slMatch true v_4, Sv v_5, I c_5, Bv true] [some (bxStoreT v_1)] [(v_3.length : Int) = 0] hB ⟨h22, trivial⟩ ?_
   refine ae_then ?_
   refine aw_true rfl ?_
   refine aR [(1, .dec true)] [4] [] [Bv true] [] [c_5 = 3] hB ⟨hvc, trivial⟩ ?_
   refine aw_ret ?_
   refine ae_ret_then ?_
   refine ae_ret hB (Bv true) (by kernel_rfl) (.inl rfl) rfl (fun _ => trivial)
  have hv3 : ¬ (nsL v_1 v_2 1).length = 0 := fun q => h22 (by have := hnn.1 q; omega)
  rw [if_neg hv3] at hvc
  have hsb := nsL_sub (s := v_1) (fs := v_2) (k := (1 + (a2AtI more 0 5))) (by omega) (by rw [← hall]; omega)
  rw [← hls] at hsb
  have hvl : v_5 = (at_ v_1.Templates (at_ v_4 0).Index.toNat).Label := by rw [hvv, hsb.2.2]; exact if_neg hv3
  have hns := ns_at hst okf (k := (1 + (a2AtI more 0 5))) (i := 0) (by rw [← hls]; omega)
  rw [← hls] at hns
  refine aw_r [(2, .dec false)] [5, 10, 12, 13, 216] [5] [.ref 5 0, slMatch true v_4, Sv v_5, I c_5, Bv false] [some (bxStoreT v_1)] [¬ ((v_3.length : Int) = 0)] hB ⟨h22, trivial⟩ ?_
  refine ae_then ?_
  refine aw_false rfl ?_
  refine aw_skip ?_
  refine ae_then ?_
  refine aR [(1, .dec true), (13, .dec true)] [4] [] [Bv true] [] [c_5 = 0, (0 : Int) ≤ 0 ∧ 0 < (v_4.length : Int), (0 : Int) ≤ ((at_ v_4 0).Index) ∧ ((at_ v_4 0).Index) < (v_1.Templates.length : Int), v_5 = ((at_ v_1.Templates (((at_ v_4 0).Index).toNat)).Label)] hB ⟨hvc, ⟨(by omega), (by omega)⟩, ⟨(by omega), (by omega)⟩, hvl, trivial⟩ ?_
  refine aw_ret ?_
  refine ae_ret hB (Bv true) (by kernel_rfl) (.inl rfl) rfl (fun _ => trivial)


/-! ### the row -/

theorem opens_t22 : OpensA Try.prog 22 (cLU8 false) (fun xs => ∀ y ∈ xs, inR .u8 y) :=
  opensA_slice (c := cU8) (sz := 1) Try.underlying22 (by kernel_rfl) (by decide) (fun x => ⟨rfl, by simp [oneA, cU8]⟩) (opensA_int Try.underlying5)

namespace fnVotes
set_option maxRecDepth 100000 in
theorem lifted (os : Os) (started : os.Started) (H : Type) (enc : TypeId × Value → H) :
    ReturnsInHanded {} Try.checked os 4 .any (Rows.fnVotesSpec.pre6 enc Try.prog Try.f4 Rows.fnVotesRow.domain false) (Rows.fnVotesSpec.post enc Try.prog Try.f4 false true false false) := by
  refine returnsInHanded_of_change_shaped (C := Try.checked) Try.own started (by kernel_rfl) Try.func4
    (ChangeSpec.witness6 (enc := enc) (C := Try.checked) false ⟨#[], #[.slice none 0 0, .slice none 0 0], []⟩ 8 (by kernel_rfl) (by kernel_rfl) (by kernel_rfl) (by kernel_rfl)) ?_
  intro W base args ds gs before hval0 hW hcnd hsz hshp _
  have hW' := hW
  obtain ⟨p, q, hA0, hV, rfl, hfz, hnd⟩ := hW
  have hval : ∀ (j : Nat) t v, Try.f4.params[j]? = some t → args[j]? = some v → Value.okWide Try.prog W .any base t v := hval0
  have hA : DataW.TrodAll enc Try.prog W 0 (fun _ => true) true Try.f4.params.toList args.toList ds p := hA0
  rw [Try.params4] at hA hval
  obtain ⟨v0, vs0, d0, ds0, p0, q0, hargs, rfl, rfl, h0, r0⟩ := trodAll_cons hA
  obtain ⟨v1, vs1, d1, ds1, p1, q1, rfl, rfl, rfl, h1, r1⟩ := trodAll_cons r0
  obtain ⟨rfl, rfl, rfl⟩ := trodAll_nil r1
  obtain rfl : args = #[v0, v1] := args_eq hargs
  obtain ⟨rfl, rfl⟩ := trodVars_none hV
  obtain ⟨fuel0, hf0⟩ := h0
  obtain ⟨A0, l0, c0, rfl⟩ := okWide_slice Try.underlying22 (hval 0 22 v0 rfl rfl)
  obtain ⟨x0, rx0, ok0⟩ := (opens_t22) enc W 0 _ _ _ _ _ hf0
  obtain ⟨fuel1, hf1⟩ := h1
  obtain ⟨A1, l1, c1, rfl⟩ := okWide_slice Try.underlying22 (hval 1 22 v1 rfl rfl)
  obtain ⟨x1, rx1, ok1⟩ := (opens_t22) enc W 0 _ _ _ _ _ hf1
  refine (walk_of0 (fnVotes_con x0 x1 ok0 ok1) (fun w _ => WX_free w) (RelTL.cons (relTL_one rx0) (RelTL.cons (relTL_one rx1) RelTL.nil))).mono fun e W1 ⟨he, hb⟩ => ?_
  subst he
  exact ⟨_, rfl, law_post Try.laidOut rfl Try.underlying4 (of_decide_eq_true (by kernel_rfl)) rfl hW' hb rfl⟩

theorem over : Rows.fnVotesRow.holds Try.pinned (OpenSpec.ofChange Rows.fnVotesSpec) :=
  OpenClaim.holds_of_wide 4 Try.f4 rfl rfl rfl rfl rfl rfl rfl ⟨rfl, rfl, rfl, rfl, rfl⟩ rfl rfl rfl rfl rfl (by kernel_rfl) Try.func4 (by kernel_rfl)
    (of_decide_eq_true (by kernel_rfl)) (by unfold Func.isWrapper; first | (rw [if_pos (by decide +kernel)]; kernel_rfl) | (rw [if_neg (by decide +kernel)]; exact ⟨rfl, rfl⟩))
    (fun os started H enc _ => lifted os started H enc)

theorem proved : Rows.FnVotesSaid :=
  over
#print axioms proved
end fnVotes
end Go.Proofs.Ytbapncplieakmaa.Ax
