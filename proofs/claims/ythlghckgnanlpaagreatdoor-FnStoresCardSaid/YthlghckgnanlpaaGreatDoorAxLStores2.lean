/- Contracts that the statement FnStores reaches, part 2. No conditions. -/
import Derived.Test.YthlghckgnanlpaaGreatDoorAxLStores1
import Derived.LaidMore
import Derived.Lay
import Derived.Lib.IndexBytes
import Derived.Lib.ItoaNum
import Derived.Lib.ParseIntBCases
import Derived.Lib.ParseIntBTie
import Derived.Lib.SplitLaws
import Derived.OpenShut
import Derived.SevenTiedAt
import Derived.Stop.Joined
import Derived.Test.YthlghckgnanlpaaGreatDoorAxBd
import Derived.Test.YthlghckgnanlpaaGreatDoorAxGr
import Derived.Test.YthlghckgnanlpaaGreatDoorAxR
import Derived.Test.YthlghckgnanlpaaGreatDoorAxS
import Derived.Test.YthlghckgnanlpaaGreatDoorAxV
namespace Go.Proofs.YthlghckgnanlpaaGreatDoor.Ax
open Go.RowKit Go.ChangeShapes Go.WideShapes
set_option linter.unusedVariables false
set_option linter.unusedSimpArgs false


-- impl.costTable
theorem costTable_ok (a : List Feat) (b : List Feat) (band : Int) (hab : okAB a b) (hbd : 0 ≤ band ∧ band ≤ 1000) : ∃ (v : List (List Int)), (tbOk a b band v a.length) ∧ Con Tryz.prog 266 [slFeat false a, slFeat false b, I band] true (slLI true v) := by
  have hla := hab.2.2
  have hh : ∃ r : (List (List Int)), ((tbOk a b band r a.length) ∧ (True)) ∧ CallOK Tryz.prog 266 [slFeat false a, slFeat false b, I band] (lookO []) true (slLI true r) (lookO []) := by
    refine fn_okX (Φ := fun r : (List (List Int)) => (tbOk a b band r a.length) ∧ (True)) [] (fun r => []) (fn := Tryz.f266) (nt := 76) Tryz.func266 rfl rfl (args := [slFeat false a, slFeat false b, I band]) rfl (allcons (.inl ⟨rfl, tagFeat false _⟩) (allcons (.inl ⟨rfl, tagFeat false _⟩) (allcons (.inl ⟨rfl, trivial⟩) allnil))) (res := fun r => slLI true r) ?_
    refine xR [] [0, 1, 2] [] [slFeat false a, slFeat false b, I band] [] [] trivial ?_
    refine xR [(2, .new 13)] [0, 1, 2, 7] [13] [slFeat false a, slFeat false b, I band, .arr 13] [some (.arr 1 ((a.length : Int).toNat) (fun _ => [nilA]))] [(0 : Int) ≤ (a.length : Int) ∧ ((a.length : Int) : Int) ≤ (a.length : Int) ∧ (24 : Int) * (a.length : Int) ≤ 281474976710656 ∧ (a.length : Int) ≤ 9223372036854775807] ⟨⟨(by omega), (by omega), (by omega), (by omega)⟩, trivial⟩ ?_
    refine x_seq ?_
    refine xR [] [0, 1, 2, 7, 15, 16] [13] [slFeat false a, slFeat false b, I band, .arr 13, I (a.length : Int), I 0] [some (.arr 1 ((a.length : Int).toNat) (fun _ => [nilA]))] [] trivial ?_
    refine x_block ?_
    refine x_famN 13 8401 1 rfl (fun q _ => ⟨_, rfl, rfl⟩) (by kernel_rfl) ?_
    refine x_weak [] (T := [(0, slFeat false a), (1, slFeat false b), (2, I band), (7, .arr 13), (15, I (a.length : Int)), (16, I 0)]) (O := [(13, tOLI 8401 (List.replicate ((a.length : Int).toNat) ([] : List Int))), (8401, tFLI (List.replicate ((a.length : Int).toNat) ([] : List Int)))]) rfl (⟨.inl rfl, .inl rfl, .inl rfl, .inl rfl, .inl rfl, .inl rfl, trivial⟩) (⟨.inr ⟨rfl, rfl, (by simp), fun i hi => .inl rfl⟩, .inr (fnilLI ((a.length : Int).toNat)), trivial⟩) ?_
    refine x_loop (X := Int × (List (List Int))) (fun x => mkS [(0, slFeat false a), (1, slFeat false b), (2, I band), (7, .arr 13), (15, I (a.length : Int)), (16, I x.1)] [(13, tOLI 8401 x.2), (8401, tFLI x.2)]) (fun x => (0 ≤ x.1 ∧ x.1 ≤ (a.length : Int)) ∧ (tbOk a b band x.2 x.1.toNat) ∧ True) (fun x => ((a.length : Int) - x.1).toNat) (0, (List.replicate ((a.length : Int).toNat) ([] : List Int))) rfl (show (0 ≤ (0 : Int) ∧ (0 : Int) ≤ (a.length : Int)) ∧ (tbOk a b band (List.replicate ((a.length : Int).toNat) ([] : List Int)) (0 : Int).toNat) ∧ True from ⟨(by omega), (by exact tb_nil a b band (by first | rfl | omega | simp)), trivial⟩) (fun x hI => ?_)
    obtain ⟨t16, tb⟩ := x
    obtain ⟨hi0, htb, _⟩ : (0 ≤ t16 ∧ t16 ≤ (a.length : Int)) ∧ (tbOk a b band tb t16.toNat) ∧ True := hI
    show XW _ _ _ _ (mkS [(0, slFeat false a), (1, slFeat false b), (2, I band), (7, .arr 13), (15, I (a.length : Int)), (16, I t16)] [(13, tOLI 8401 tb), (8401, tFLI tb)]) _ _
    refine x_seq ?_
    by_cases h1 : t16 < (a.length : Int)
    ·have hi : t16.toNat < a.length := by omega
     have hix : ((t16.toNat : Nat) : Int) = t16 := by omega
     have htl := htb.1
     refine x_r [(0, .dec true)] [0, 1, 2, 7, 15, 16, 17] [13, 8401] [slFeat false a, slFeat false b, I band, .arr 13, I (a.length : Int), I t16, Bv true] [some (tOLI 8401 tb), some (tFLI tb)] [t16 < (a.length : Int)] ⟨h1, trivial⟩ ?_
     refine xe_then ?_
     refine x_seq ?_
     refine x_true rfl ?_
     refine x_skip ?_
     refine xe_then ?_
     refine x_seq ?_
     refine x_block ?_
     refine xR [] [0, 1, 2, 7, 8, 15, 16] [13, 8401] [slFeat false a, slFeat false b, I band, .arr 13, I t16, I (a.length : Int), I t16] [some (tOLI 8401 tb), some (tFLI tb)] [] trivial ?_
     refine xR [(4, .new 23)] [0, 1, 2, 7, 8, 15, 16] [13, 23, 8401] [slFeat false a, slFeat false b, I band, .arr 13, I t16, I (a.length : Int), I t16] [some (.oar [8401, 23] 1 tb.length (fun q => bif Nat.beq q t16.toNat then [.arr 23] else (oLI 8401 tb) q)), some (.arr 1 ((b.length : Int).toNat) (fun _ => [I 0])), some (tFLI tb)] [(0 : Int) ≤ (b.length : Int) ∧ ((b.length : Int) : Int) ≤ (b.length : Int) ∧ (8 : Int) * (b.length : Int) ≤ 281474976710656 ∧ (b.length : Int) ≤ 9223372036854775807, (0 : Int) ≤ t16 ∧ t16 < (tb.length : Int), t16.toNat < tb.length] ⟨⟨(by omega), (by omega), (by omega), (by omega)⟩, ⟨(by omega), (by omega)⟩, (by omega), trivial⟩ ?_
     refine x_seq ?_
     refine x_putrow 13 23 8401 t16.toNat rfl rfl rfl ((by omega)) (by first | exact Nat.le_refl _ | omega) (fun q _ => ⟨fun e => by subst e; simp only [Nat.beq_refl, cond_true], fun e => by simp only [beq_ne e, cond_false]; rfl⟩) (by kernel_rfl) ?_
     refine x_weak [] (T := [(0, slFeat false a), (1, slFeat false b), (2, I band), (7, .arr 13), (8, I t16), (15, I (a.length : Int)), (16, I t16)]) (O := [(13, tOLI 8401 (tb.set t16.toNat (List.replicate ((b.length : Int).toNat) (0 : Int)))), (8401, tFLI (tb.set t16.toNat (List.replicate ((b.length : Int).toNat) (0 : Int))))]) rfl (⟨.inl rfl, .inl rfl, .inl rfl, .inl rfl, .inl rfl, .inl rfl, .inl rfl, trivial⟩) (⟨.inr ⟨rfl, rfl, (by simp), fun i hi => .inl rfl⟩, .inr (fputLI ((by omega)) (by first | rfl | (simp; done) | (simp; omega)) (fun i_ h_ => (show ∀ i_ : Nat, i_ < ((List.replicate ((b.length : Int).toNat) (0 : Int)) : List Int).length → (fun _ => [I 0]) i_ = (fI (List.replicate ((b.length : Int).toNat) (0 : Int))) i_ from fun i_ hi_ => (const_enc (enc := cI) rfl i_ hi_)) i_ (by first | exact h_ | (simpa using h_)))), trivial⟩) ?_
     refine x_r [] [0, 1, 2, 7, 8, 15, 16, 26, 27] [13, 8401] [slFeat false a, slFeat false b, I band, .arr 13, I t16, I (a.length : Int), I t16, I (b.length : Int), I 0] [some (tOLI 8401 (tb.set t16.toNat (List.replicate ((b.length : Int).toNat) (0 : Int)))), some (tFLI (tb.set t16.toNat (List.replicate ((b.length : Int).toNat) (0 : Int))))] [] trivial ?_
     refine xe_then ?_
     refine x_block ?_
     refine x_loop (X := Int × (List (List Int))) (fun x => mkS [(0, slFeat false a), (1, slFeat false b), (2, I band), (7, .arr 13), (8, I t16), (15, I (a.length : Int)), (16, I t16), (26, I (b.length : Int)), (27, I x.1)] [(13, tOLI 8401 x.2), (8401, tFLI x.2)]) (fun x => (0 ≤ x.1 ∧ x.1 ≤ (b.length : Int)) ∧ (tbOk a b band x.2 t16.toNat ∧ rowOk a b band (at_ x.2 t16.toNat) t16.toNat x.1.toNat) ∧ True) (fun x => ((b.length : Int) - x.1).toNat) (0, (tb.set t16.toNat (List.replicate ((b.length : Int).toNat) (0 : Int)))) rfl (show (0 ≤ (0 : Int) ∧ (0 : Int) ≤ (b.length : Int)) ∧ (tbOk a b band (tb.set t16.toNat (List.replicate ((b.length : Int).toNat) (0 : Int))) t16.toNat ∧ rowOk a b band (at_ (tb.set t16.toNat (List.replicate ((b.length : Int).toNat) (0 : Int))) t16.toNat) t16.toNat (0 : Int).toNat) ∧ True from ⟨(by omega), (by exact tb_row htb hi (by first | rfl | omega | simp)), trivial⟩) (fun x hI => ?_)
     obtain ⟨t27, tb'⟩ := x
     obtain ⟨hj0, hin, _⟩ : (0 ≤ t27 ∧ t27 ≤ (b.length : Int)) ∧ (tbOk a b band tb' t16.toNat ∧ rowOk a b band (at_ tb' t16.toNat) t16.toNat t27.toNat) ∧ True := hI
     show XW _ _ _ _ (mkS [(0, slFeat false a), (1, slFeat false b), (2, I band), (7, .arr 13), (8, I t16), (15, I (a.length : Int)), (16, I t16), (26, I (b.length : Int)), (27, I t27)] [(13, tOLI 8401 tb'), (8401, tFLI tb')]) _ _
     refine x_seq ?_
     by_cases h2 : t27 < (b.length : Int)
     ·have hj : t27.toNat < b.length := by omega
      have hcb := costF_bd (hab.1 _ hi) (hab.2.1 _ hj)
      have hjx : ((t27.toNat : Nat) : Int) = t27 := by omega
      have htl2 := hin.1.1
      have htl3 := hin.2.1
      have hlb := lb_at hab hin.1 hin.2 hi hj
      rw [hix, hjx] at hlb
      have hrl : 1 ≤ t16 → ((at_ tb' (t16 - 1).toNat).length : Int) = b.length := fun q => by rw [(hin.1.2 (t16 - 1).toNat (by omega)).1]
      have hrz : (t16 - 0).toNat = t16.toNat := by omega
      refine x_r [(0, .dec true)] [0, 1, 2, 7, 8, 15, 16, 26, 27, 28] [13, 8401] [slFeat false a, slFeat false b, I band, .arr 13, I t16, I (a.length : Int), I t16, I (b.length : Int), I t27, Bv true] [some (tOLI 8401 tb'), some (tFLI tb')] [t27 < (b.length : Int)] ⟨h2, trivial⟩ ?_
      refine xe_then ?_
      refine x_seq ?_
      refine x_true rfl ?_
      refine x_skip ?_
      refine xe_then ?_
      refine x_seq ?_
      refine x_block ?_
      refine xR [] [0, 1, 2, 7, 8, 9, 15, 16, 26, 27] [13, 8401] [slFeat false a, slFeat false b, I band, .arr 13, I t16, I t27, I (a.length : Int), I t16, I (b.length : Int), I t27] [some (tOLI 8401 tb'), some (tFLI tb')] [] trivial ?_
      refine xR [(3, .call [(false, slLI false tb'), (true, .any), (true, .any)] true (I (lb3 tb' t16 t27)))] [0, 1, 2, 7, 8, 9, 10, 15, 16, 26, 27] [13, 8401] [slFeat false a, slFeat false b, I band, .arr 13, I t16, I t27, I (lb3 tb' t16 t27), I (a.length : Int), I t16, I (b.length : Int), I t27] [some (tOLI 8401 tb'), some (tFLI tb')] [Con Tryz.prog 298 [slLI false tb', I t16, I t27] true (I (lb3 tb' t16 t27)) ∧ ((false = true → true = true) ∧ 1 = 1 ∧ tb'.length = tb'.length ∧ ∀ i_, i_ < tb'.length → AV.idsL ((fLI false tb') i_) = [] ∧ leL (lookO [(8401, tFLI tb')]) true ((oLI 8401 tb') i_) ((fLI false tb') i_)) ∧ True] ⟨⟨(leastBefore_ok tb' t16 t27 (by omega) (by omega) (fun q => by have := hrl q; omega) (fun q => by rw [hrz]; omega)), ⟨(fun h => by cases h), rfl, rfl, oleLI _ _ rfl⟩, trivial⟩, trivial⟩ ?_
      refine x_seq ?_
      refine x_seq ?_
      by_cases h3 : t16 = 0
      ·by_cases h4 : t27 = 0
       ·refine x_r [(1, .dec true), (4, .dec true)] [0, 1, 2, 7, 8, 9, 10, 15, 16, 26, 27, 39] [13, 8401] [slFeat false a, slFeat false b, I band, .arr 13, I t16, I t27, I (lb3 tb' t16 t27), I (a.length : Int), I t16, I (b.length : Int), I t27, Bv true] [some (tOLI 8401 tb'), some (tFLI tb')] [t16 = 0, t27 = 0] ⟨h3, h4, trivial⟩ ?_
        refine xe_then ?_
        refine x_true rfl ?_
        refine x_r [] [0, 1, 2, 7, 8, 9, 10, 15, 16, 26, 27] [13, 8401] [slFeat false a, slFeat false b, I band, .arr 13, I t16, I t27, I 0, I (a.length : Int), I t16, I (b.length : Int), I t27] [some (tOLI 8401 tb'), some (tFLI tb')] [] trivial ?_
        refine xe_then ?_
        refine x_seq ?_
        by_cases h5 : band < ((t16 - t27).natAbs : Int)
        ·refine x_r [(3, .call [(true, .any)] true (I ((t16 - t27).natAbs : Int))), (5, .dec true)] [0, 1, 2, 7, 8, 9, 10, 15, 16, 26, 27, 49] [13, 8401] [slFeat false a, slFeat false b, I band, .arr 13, I t16, I t27, I 0, I (a.length : Int), I t16, I (b.length : Int), I t27, Bv true] [some (tOLI 8401 tb'), some (tFLI tb')] [inR .i64 (t16 - t27), Con Tryz.prog 265 [I (t16 - t27)] true (I ((t16 - t27).natAbs : Int)) ∧ True, band < ((t16 - t27).natAbs : Int)] ⟨(inR_i64 (by omega) (by omega)), ⟨(abs_ok (t16 - t27) (by omega)), trivial⟩, h5, trivial⟩ ?_
         refine xe_then ?_
         refine x_true rfl ?_
         refine x_r [] [0, 1, 2, 7, 8, 15, 16, 26, 27] [13, 8401] [slFeat false a, slFeat false b, I band, .arr 13, I t16, I (a.length : Int), I t16, I (b.length : Int), I t27] [some (tOLI 8401 tb'), some (.fam tb'.length 1 (mLI tb') (fun q => bif Nat.beq q t16.toNat then (fun q => bif Nat.beq q t27.toNat then [I 1099511627776] else (gLI tb') t16.toNat q) else (gLI tb') q))] [(0 : Int) ≤ t16 ∧ t16 < (tb'.length : Int), t16.toNat < tb'.length, t16.toNat < tb'.length ∧ (0 : Int) ≤ t27 ∧ t27 < (((at_ tb' t16.toNat).length) : Int), t16.toNat < tb'.length ∧ t27.toNat < (at_ tb' t16.toNat).length] ⟨⟨(by omega), (by omega)⟩, (by omega), ⟨(by omega), (by omega), (by omega)⟩, ⟨(by omega), (by omega)⟩, trivial⟩ ?_
         refine xe_block 3 ?_
         refine xe_then ?_
         refine x_weak [] (T := [(0, slFeat false a), (1, slFeat false b), (2, I band), (7, .arr 13), (8, I t16), (15, I (a.length : Int)), (16, I t16), (26, I (b.length : Int)), (27, I t27)]) (O := [(13, tOLI 8401 (tb'.set t16.toNat ((at_ tb' t16.toNat).set t27.toNat 1099511627776))), (8401, tFLI (tb'.set t16.toNat ((at_ tb' t16.toNat).set t27.toNat 1099511627776)))]) rfl (⟨.inl rfl, .inl rfl, .inl rfl, .inl rfl, .inl rfl, .inl rfl, .inl rfl, .inl rfl, .inl rfl, trivial⟩) (⟨.inr ⟨rfl, rfl, (by first | rfl | (simp; done) | omega), fun i_ hi_ => .inl (osetLI 8401 t16.toNat tb' ((at_ tb' t16.toNat).set t27.toNat 1099511627776) i_)⟩, .inr (fsetLI (P := t16.toNat) (k := t27.toNat) ((by omega)) ((by omega)) (by simp only [Nat.beq_refl, cond_true]; try rfl) (by intro i hi; simp only [Nat.beq_refl, cond_true, beq_ne hi, cond_false]; try rfl) (by intro p hp; simp only [beq_ne hp, cond_false])), trivial⟩) ?_
         refine x_r [] [0, 1, 2, 7, 8, 15, 16, 26, 27] [13, 8401] [slFeat false a, slFeat false b, I band, .arr 13, I t16, I (a.length : Int), I t16, I (b.length : Int), I (t27 + 1)] [some (tOLI 8401 (tb'.set t16.toNat ((at_ tb' t16.toNat).set t27.toNat 1099511627776))), some (tFLI (tb'.set t16.toNat ((at_ tb' t16.toNat).set t27.toNat 1099511627776)))] [inR .i64 (t27 + 1)] ⟨(inR_i64 (by omega) (by omega)), trivial⟩ ?_
         exact xe_again ((t27 + 1), (tb'.set t16.toNat ((at_ tb' t16.toNat).set t27.toNat 1099511627776))) rfl (show (0 ≤ (t27 + 1) ∧ (t27 + 1) ≤ (b.length : Int)) ∧ (tbOk a b band (tb'.set t16.toNat ((at_ tb' t16.toNat).set t27.toNat 1099511627776)) t16.toNat ∧ rowOk a b band (at_ (tb'.set t16.toNat ((at_ tb' t16.toNat).set t27.toNat 1099511627776)) t16.toNat) t16.toNat (t27 + 1).toNat) ∧ True from ⟨(by omega), (by rw [show (t27 + 1).toNat = t27.toNat + 1 from by omega]; exact tb_step hin.1 hin.2 hi hj (by rw [hlb.2]; first | exact (stp_far (by first | (left; rw [hix, hjx]; omega) | (right; (try rw [if_neg (by omega)]); (try rw [if_pos (by omega)]); omega))).symm | (rw [stp_add (by rw [hix, hjx]; omega) (by first | (rw [if_neg (by omega)]; omega) | (rw [if_pos (by omega)]; decide))]; first | rw [if_neg (by omega)] | rw [if_pos (by omega)]))), trivial⟩) (by first | (show (((b.length : Int) - (t27 + 1)).toNat : Nat) < ((b.length : Int) - t27).toNat; omega) | (dsimp only; omega))
        refine x_r [(3, .call [(true, .any)] true (I ((t16 - t27).natAbs : Int))), (5, .dec false), (8, .dec false)] [0, 1, 2, 7, 8, 9, 10, 15, 16, 26, 27, 49] [13, 8401] [slFeat false a, slFeat false b, I band, .arr 13, I t16, I t27, I 0, I (a.length : Int), I t16, I (b.length : Int), I t27, Bv false] [some (tOLI 8401 tb'), some (tFLI tb')] [inR .i64 (t16 - t27), Con Tryz.prog 265 [I (t16 - t27)] true (I ((t16 - t27).natAbs : Int)) ∧ True, ¬ (band < ((t16 - t27).natAbs : Int)), ¬ ((1099511627776 : Int) ≤ 0)] ⟨(inR_i64 (by omega) (by omega)), ⟨(abs_ok (t16 - t27) (by omega)), trivial⟩, h5, (by decide), trivial⟩ ?_
        refine xe_then ?_
        refine x_false rfl ?_
        refine x_r [(14, .call [(true, .any), (true, .any)] true (I (costF (at_ a t16.toNat) (at_ b t27.toNat))))] [0, 1, 2, 7, 8, 15, 16, 26, 27] [13, 8401] [slFeat false a, slFeat false b, I band, .arr 13, I t16, I (a.length : Int), I t16, I (b.length : Int), I t27] [some (tOLI 8401 tb'), some (.fam tb'.length 1 (mLI tb') (fun q => bif Nat.beq q t16.toNat then (fun q => bif Nat.beq q t27.toNat then [I (0 + (costF (at_ a t16.toNat) (at_ b t27.toNat)))] else (gLI tb') t16.toNat q) else (gLI tb') q))] [(0 : Int) ≤ t16 ∧ t16 < (tb'.length : Int), t16.toNat < tb'.length, (0 : Int) ≤ t16 ∧ t16 < (a.length : Int), (0 : Int) ≤ t27 ∧ t27 < (b.length : Int), Con Tryz.prog 299 [agFeat (at_ a t16.toNat), agFeat (at_ b t27.toNat)] true (I (costF (at_ a t16.toNat) (at_ b t27.toNat))) ∧ True, inR .i64 (0 + (costF (at_ a t16.toNat) (at_ b t27.toNat))), t16.toNat < tb'.length ∧ (0 : Int) ≤ t27 ∧ t27 < (((at_ tb' t16.toNat).length) : Int), t16.toNat < tb'.length ∧ t27.toNat < (at_ tb' t16.toNat).length] ⟨⟨(by omega), (by omega)⟩, (by omega), ⟨(by omega), (by omega)⟩, ⟨(by omega), (by omega)⟩, ⟨(featCost_ok (at_ a t16.toNat) (at_ b t27.toNat) (by first | exact hab.1 _ (by omega) | exact hab.2.1 _ (by omega)) (by first | exact hab.1 _ (by omega) | exact hab.2.1 _ (by omega))), trivial⟩, (inR_i64 (by omega) (by omega)), ⟨(by omega), (by omega), (by omega)⟩, ⟨(by omega), (by omega)⟩, trivial⟩ ?_
        refine xe_block 3 ?_
        refine xe_then ?_
        refine x_weak [] (T := [(0, slFeat false a), (1, slFeat false b), (2, I band), (7, .arr 13), (8, I t16), (15, I (a.length : Int)), (16, I t16), (26, I (b.length : Int)), (27, I t27)]) (O := [(13, tOLI 8401 (tb'.set t16.toNat ((at_ tb' t16.toNat).set t27.toNat (0 + (costF (at_ a t16.toNat) (at_ b t27.toNat)))))), (8401, tFLI (tb'.set t16.toNat ((at_ tb' t16.toNat).set t27.toNat (0 + (costF (at_ a t16.toNat) (at_ b t27.toNat))))))]) rfl (⟨.inl rfl, .inl rfl, .inl rfl, .inl rfl, .inl rfl, .inl rfl, .inl rfl, .inl rfl, .inl rfl, trivial⟩) (⟨.inr ⟨rfl, rfl, (by first | rfl | (simp; done) | omega), fun i_ hi_ => .inl (osetLI 8401 t16.toNat tb' ((at_ tb' t16.toNat).set t27.toNat (0 + (costF (at_ a t16.toNat) (at_ b t27.toNat)))) i_)⟩, .inr (fsetLI (P := t16.toNat) (k := t27.toNat) ((by omega)) ((by omega)) (by simp only [Nat.beq_refl, cond_true]; try rfl) (by intro i hi; simp only [Nat.beq_refl, cond_true, beq_ne hi, cond_false]; try rfl) (by intro p hp; simp only [beq_ne hp, cond_false])), trivial⟩) ?_
        refine x_r [] [0, 1, 2, 7, 8, 15, 16, 26, 27] [13, 8401] [slFeat false a, slFeat false b, I band, .arr 13, I t16, I (a.length : Int), I t16, I (b.length : Int), I (t27 + 1)] [some (tOLI 8401 (tb'.set t16.toNat ((at_ tb' t16.toNat).set t27.toNat (0 + (costF (at_ a t16.toNat) (at_ b t27.toNat)))))), some (tFLI (tb'.set t16.toNat ((at_ tb' t16.toNat).set t27.toNat (0 + (costF (at_ a t16.toNat) (at_ b t27.toNat))))))] [inR .i64 (t27 + 1)] ⟨(inR_i64 (by omega) (by omega)), trivial⟩ ?_
        exact xe_again ((t27 + 1), (tb'.set t16.toNat ((at_ tb' t16.toNat).set t27.toNat (0 + (costF (at_ a t16.toNat) (at_ b t27.toNat)))))) rfl (show (0 ≤ (t27 + 1) ∧ (t27 + 1) ≤ (b.length : Int)) ∧ (tbOk a b band (tb'.set t16.toNat ((at_ tb' t16.toNat).set t27.toNat (0 + (costF (at_ a t16.toNat) (at_ b t27.toNat))))) t16.toNat ∧ rowOk a b band (at_ (tb'.set t16.toNat ((at_ tb' t16.toNat).set t27.toNat (0 + (costF (at_ a t16.toNat) (at_ b t27.toNat))))) t16.toNat) t16.toNat (t27 + 1).toNat) ∧ True from ⟨(by omega), (by rw [show (t27 + 1).toNat = t27.toNat + 1 from by omega]; exact tb_step hin.1 hin.2 hi hj (by rw [hlb.2]; first | exact (stp_far (by first | (left; rw [hix, hjx]; omega) | (right; (try rw [if_neg (by omega)]); (try rw [if_pos (by omega)]); omega))).symm | (rw [stp_add (by rw [hix, hjx]; omega) (by first | (rw [if_neg (by omega)]; omega) | (rw [if_pos (by omega)]; decide))]; first | rw [if_neg (by omega)] | rw [if_pos (by omega)]))), trivial⟩) (by first | (show (((b.length : Int) - (t27 + 1)).toNat : Nat) < ((b.length : Int) - t27).toNat; omega) | (dsimp only; omega))
       refine x_r [(1, .dec true), (4, .dec false)] [0, 1, 2, 7, 8, 9, 10, 15, 16, 26, 27, 39] [13, 8401] [slFeat false a, slFeat false b, I band, .arr 13, I t16, I t27, I (lb3 tb' t16 t27), I (a.length : Int), I t16, I (b.length : Int), I t27, Bv false] [some (tOLI 8401 tb'), some (tFLI tb')] [t16 = 0, ¬ (t27 = 0)] ⟨h3, h4, trivial⟩ ?_
       refine xe_then ?_
       refine x_false rfl ?_
       refine x_skip ?_
       refine xe_then ?_
       refine x_seq ?_
       by_cases h6 : band < ((t16 - t27).natAbs : Int)
       ·refine x_r [(3, .call [(true, .any)] true (I ((t16 - t27).natAbs : Int))), (5, .dec true)] [0, 1, 2, 7, 8, 9, 10, 15, 16, 26, 27, 49] [13, 8401] [slFeat false a, slFeat false b, I band, .arr 13, I t16, I t27, I (lb3 tb' t16 t27), I (a.length : Int), I t16, I (b.length : Int), I t27, Bv true] [some (tOLI 8401 tb'), some (tFLI tb')] [inR .i64 (t16 - t27), Con Tryz.prog 265 [I (t16 - t27)] true (I ((t16 - t27).natAbs : Int)) ∧ True, band < ((t16 - t27).natAbs : Int)] ⟨(inR_i64 (by omega) (by omega)), ⟨(abs_ok (t16 - t27) (by omega)), trivial⟩, h6, trivial⟩ ?_
        refine xe_then ?_
        refine x_true rfl ?_
        refine x_r [] [0, 1, 2, 7, 8, 15, 16, 26, 27] [13, 8401] [slFeat false a, slFeat false b, I band, .arr 13, I t16, I (a.length : Int), I t16, I (b.length : Int), I t27] [some (tOLI 8401 tb'), some (.fam tb'.length 1 (mLI tb') (fun q => bif Nat.beq q t16.toNat then (fun q => bif Nat.beq q t27.toNat then [I 1099511627776] else (gLI tb') t16.toNat q) else (gLI tb') q))] [(0 : Int) ≤ t16 ∧ t16 < (tb'.length : Int), t16.toNat < tb'.length, t16.toNat < tb'.length ∧ (0 : Int) ≤ t27 ∧ t27 < (((at_ tb' t16.toNat).length) : Int), t16.toNat < tb'.length ∧ t27.toNat < (at_ tb' t16.toNat).length] ⟨⟨(by omega), (by omega)⟩, (by omega), ⟨(by omega), (by omega), (by omega)⟩, ⟨(by omega), (by omega)⟩, trivial⟩ ?_
        refine xe_block 3 ?_
        refine xe_then ?_
        refine x_weak [] (T := [(0, slFeat false a), (1, slFeat false b), (2, I band), (7, .arr 13), (8, I t16), (15, I (a.length : Int)), (16, I t16), (26, I (b.length : Int)), (27, I t27)]) (O := [(13, tOLI 8401 (tb'.set t16.toNat ((at_ tb' t16.toNat).set t27.toNat 1099511627776))), (8401, tFLI (tb'.set t16.toNat ((at_ tb' t16.toNat).set t27.toNat 1099511627776)))]) rfl (⟨.inl rfl, .inl rfl, .inl rfl, .inl rfl, .inl rfl, .inl rfl, .inl rfl, .inl rfl, .inl rfl, trivial⟩) (⟨.inr ⟨rfl, rfl, (by first | rfl | (simp; done) | omega), fun i_ hi_ => .inl (osetLI 8401 t16.toNat tb' ((at_ tb' t16.toNat).set t27.toNat 1099511627776) i_)⟩, .inr (fsetLI (P := t16.toNat) (k := t27.toNat) ((by omega)) ((by omega)) (by simp only [Nat.beq_refl, cond_true]; try rfl) (by intro i hi; simp only [Nat.beq_refl, cond_true, beq_ne hi, cond_false]; try rfl) (by intro p hp; simp only [beq_ne hp, cond_false])), trivial⟩) ?_
        refine x_r [] [0, 1, 2, 7, 8, 15, 16, 26, 27] [13, 8401] [slFeat false a, slFeat false b, I band, .arr 13, I t16, I (a.length : Int), I t16, I (b.length : Int), I (t27 + 1)] [some (tOLI 8401 (tb'.set t16.toNat ((at_ tb' t16.toNat).set t27.toNat 1099511627776))), some (tFLI (tb'.set t16.toNat ((at_ tb' t16.toNat).set t27.toNat 1099511627776)))] [inR .i64 (t27 + 1)] ⟨(inR_i64 (by omega) (by omega)), trivial⟩ ?_
        exact xe_again ((t27 + 1), (tb'.set t16.toNat ((at_ tb' t16.toNat).set t27.toNat 1099511627776))) rfl (show (0 ≤ (t27 + 1) ∧ (t27 + 1) ≤ (b.length : Int)) ∧ (tbOk a b band (tb'.set t16.toNat ((at_ tb' t16.toNat).set t27.toNat 1099511627776)) t16.toNat ∧ rowOk a b band (at_ (tb'.set t16.toNat ((at_ tb' t16.toNat).set t27.toNat 1099511627776)) t16.toNat) t16.toNat (t27 + 1).toNat) ∧ True from ⟨(by omega), (by rw [show (t27 + 1).toNat = t27.toNat + 1 from by omega]; exact tb_step hin.1 hin.2 hi hj (by rw [hlb.2]; first | exact (stp_far (by first | (left; rw [hix, hjx]; omega) | (right; (try rw [if_neg (by omega)]); (try rw [if_pos (by omega)]); omega))).symm | (rw [stp_add (by rw [hix, hjx]; omega) (by first | (rw [if_neg (by omega)]; omega) | (rw [if_pos (by omega)]; decide))]; first | rw [if_neg (by omega)] | rw [if_pos (by omega)]))), trivial⟩) (by first | (show (((b.length : Int) - (t27 + 1)).toNat : Nat) < ((b.length : Int) - t27).toNat; omega) | (dsimp only; omega))
       by_cases h7 : 1099511627776 ≤ (lb3 tb' t16 t27)
       ·refine x_r [(3, .call [(true, .any)] true (I ((t16 - t27).natAbs : Int))), (5, .dec false), (8, .dec true)] [0, 1, 2, 7, 8, 9, 10, 15, 16, 26, 27, 49] [13, 8401] [slFeat false a, slFeat false b, I band, .arr 13, I t16, I t27, I (lb3 tb' t16 t27), I (a.length : Int), I t16, I (b.length : Int), I t27, Bv true] [some (tOLI 8401 tb'), some (tFLI tb')] [inR .i64 (t16 - t27), Con Tryz.prog 265 [I (t16 - t27)] true (I ((t16 - t27).natAbs : Int)) ∧ True, ¬ (band < ((t16 - t27).natAbs : Int)), 1099511627776 ≤ (lb3 tb' t16 t27)] ⟨(inR_i64 (by omega) (by omega)), ⟨(abs_ok (t16 - t27) (by omega)), trivial⟩, h6, h7, trivial⟩ ?_
        refine xe_then ?_
        refine x_true rfl ?_
        refine x_r [] [0, 1, 2, 7, 8, 15, 16, 26, 27] [13, 8401] [slFeat false a, slFeat false b, I band, .arr 13, I t16, I (a.length : Int), I t16, I (b.length : Int), I t27] [some (tOLI 8401 tb'), some (.fam tb'.length 1 (mLI tb') (fun q => bif Nat.beq q t16.toNat then (fun q => bif Nat.beq q t27.toNat then [I 1099511627776] else (gLI tb') t16.toNat q) else (gLI tb') q))] [(0 : Int) ≤ t16 ∧ t16 < (tb'.length : Int), t16.toNat < tb'.length, t16.toNat < tb'.length ∧ (0 : Int) ≤ t27 ∧ t27 < (((at_ tb' t16.toNat).length) : Int), t16.toNat < tb'.length ∧ t27.toNat < (at_ tb' t16.toNat).length] ⟨⟨(by omega), (by omega)⟩, (by omega), ⟨(by omega), (by omega), (by omega)⟩, ⟨(by omega), (by omega)⟩, trivial⟩ ?_
        refine xe_block 3 ?_
        refine xe_then ?_
        refine x_weak [] (T := [(0, slFeat false a), (1, slFeat false b), (2, I band), (7, .arr 13), (8, I t16), (15, I (a.length : Int)), (16, I t16), (26, I (b.length : Int)), (27, I t27)]) (O := [(13, tOLI 8401 (tb'.set t16.toNat ((at_ tb' t16.toNat).set t27.toNat 1099511627776))), (8401, tFLI (tb'.set t16.toNat ((at_ tb' t16.toNat).set t27.toNat 1099511627776)))]) rfl (⟨.inl rfl, .inl rfl, .inl rfl, .inl rfl, .inl rfl, .inl rfl, .inl rfl, .inl rfl, .inl rfl, trivial⟩) (⟨.inr ⟨rfl, rfl, (by first | rfl | (simp; done) | omega), fun i_ hi_ => .inl (osetLI 8401 t16.toNat tb' ((at_ tb' t16.toNat).set t27.toNat 1099511627776) i_)⟩, .inr (fsetLI (P := t16.toNat) (k := t27.toNat) ((by omega)) ((by omega)) (by simp only [Nat.beq_refl, cond_true]; try rfl) (by intro i hi; simp only [Nat.beq_refl, cond_true, beq_ne hi, cond_false]; try rfl) (by intro p hp; simp only [beq_ne hp, cond_false])), trivial⟩) ?_
        refine x_r [] [0, 1, 2, 7, 8, 15, 16, 26, 27] [13, 8401] [slFeat false a, slFeat false b, I band, .arr 13, I t16, I (a.length : Int), I t16, I (b.length : Int), I (t27 + 1)] [some (tOLI 8401 (tb'.set t16.toNat ((at_ tb' t16.toNat).set t27.toNat 1099511627776))), some (tFLI (tb'.set t16.toNat ((at_ tb' t16.toNat).set t27.toNat 1099511627776)))] [inR .i64 (t27 + 1)] ⟨(inR_i64 (by omega) (by omega)), trivial⟩ ?_
        exact xe_again ((t27 + 1), (tb'.set t16.toNat ((at_ tb' t16.toNat).set t27.toNat 1099511627776))) rfl (show (0 ≤ (t27 + 1) ∧ (t27 + 1) ≤ (b.length : Int)) ∧ (tbOk a b band (tb'.set t16.toNat ((at_ tb' t16.toNat).set t27.toNat 1099511627776)) t16.toNat ∧ rowOk a b band (at_ (tb'.set t16.toNat ((at_ tb' t16.toNat).set t27.toNat 1099511627776)) t16.toNat) t16.toNat (t27 + 1).toNat) ∧ True from ⟨(by omega), (by rw [show (t27 + 1).toNat = t27.toNat + 1 from by omega]; exact tb_step hin.1 hin.2 hi hj (by rw [hlb.2]; first | exact (stp_far (by first | (left; rw [hix, hjx]; omega) | (right; (try rw [if_neg (by omega)]); (try rw [if_pos (by omega)]); omega))).symm | (rw [stp_add (by rw [hix, hjx]; omega) (by first | (rw [if_neg (by omega)]; omega) | (rw [if_pos (by omega)]; decide))]; first | rw [if_neg (by omega)] | rw [if_pos (by omega)]))), trivial⟩) (by first | (show (((b.length : Int) - (t27 + 1)).toNat : Nat) < ((b.length : Int) - t27).toNat; omega) | (dsimp only; omega))
       refine x_r [(3, .call [(true, .any)] true (I ((t16 - t27).natAbs : Int))), (5, .dec false), (8, .dec false)] [0, 1, 2, 7, 8, 9, 10, 15, 16, 26, 27, 49] [13, 8401] [slFeat false a, slFeat false b, I band, .arr 13, I t16, I t27, I (lb3 tb' t16 t27), I (a.length : Int), I t16, I (b.length : Int), I t27, Bv false] [some (tOLI 8401 tb'), some (tFLI tb')] [inR .i64 (t16 - t27), Con Tryz.prog 265 [I (t16 - t27)] true (I ((t16 - t27).natAbs : Int)) ∧ True, ¬ (band < ((t16 - t27).natAbs : Int)), ¬ (1099511627776 ≤ (lb3 tb' t16 t27))] ⟨(inR_i64 (by omega) (by omega)), ⟨(abs_ok (t16 - t27) (by omega)), trivial⟩, h6, h7, trivial⟩ ?_
       refine xe_then ?_
       refine x_false rfl ?_
       refine x_r [(14, .call [(true, .any), (true, .any)] true (I (costF (at_ a t16.toNat) (at_ b t27.toNat))))] [0, 1, 2, 7, 8, 15, 16, 26, 27] [13, 8401] [slFeat false a, slFeat false b, I band, .arr 13, I t16, I (a.length : Int), I t16, I (b.length : Int), I t27] [some (tOLI 8401 tb'), some (.fam tb'.length 1 (mLI tb') (fun q => bif Nat.beq q t16.toNat then (fun q => bif Nat.beq q t27.toNat then [I ((lb3 tb' t16 t27) + (costF (at_ a t16.toNat) (at_ b t27.toNat)))] else (gLI tb') t16.toNat q) else (gLI tb') q))] [(0 : Int) ≤ t16 ∧ t16 < (tb'.length : Int), t16.toNat < tb'.length, (0 : Int) ≤ t16 ∧ t16 < (a.length : Int), (0 : Int) ≤ t27 ∧ t27 < (b.length : Int), Con Tryz.prog 299 [agFeat (at_ a t16.toNat), agFeat (at_ b t27.toNat)] true (I (costF (at_ a t16.toNat) (at_ b t27.toNat))) ∧ True, inR .i64 ((lb3 tb' t16 t27) + (costF (at_ a t16.toNat) (at_ b t27.toNat))), t16.toNat < tb'.length ∧ (0 : Int) ≤ t27 ∧ t27 < (((at_ tb' t16.toNat).length) : Int), t16.toNat < tb'.length ∧ t27.toNat < (at_ tb' t16.toNat).length] ⟨⟨(by omega), (by omega)⟩, (by omega), ⟨(by omega), (by omega)⟩, ⟨(by omega), (by omega)⟩, ⟨(featCost_ok (at_ a t16.toNat) (at_ b t27.toNat) (by first | exact hab.1 _ (by omega) | exact hab.2.1 _ (by omega)) (by first | exact hab.1 _ (by omega) | exact hab.2.1 _ (by omega))), trivial⟩, (inR_i64 (by omega) (by omega)), ⟨(by omega), (by omega), (by omega)⟩, ⟨(by omega), (by omega)⟩, trivial⟩ ?_
       refine xe_block 3 ?_
       refine xe_then ?_
       refine x_weak [] (T := [(0, slFeat false a), (1, slFeat false b), (2, I band), (7, .arr 13), (8, I t16), (15, I (a.length : Int)), (16, I t16), (26, I (b.length : Int)), (27, I t27)]) (O := [(13, tOLI 8401 (tb'.set t16.toNat ((at_ tb' t16.toNat).set t27.toNat ((lb3 tb' t16 t27) + (costF (at_ a t16.toNat) (at_ b t27.toNat)))))), (8401, tFLI (tb'.set t16.toNat ((at_ tb' t16.toNat).set t27.toNat ((lb3 tb' t16 t27) + (costF (at_ a t16.toNat) (at_ b t27.toNat))))))]) rfl (⟨.inl rfl, .inl rfl, .inl rfl, .inl rfl, .inl rfl, .inl rfl, .inl rfl, .inl rfl, .inl rfl, trivial⟩) (⟨.inr ⟨rfl, rfl, (by first | rfl | (simp; done) | omega), fun i_ hi_ => .inl (osetLI 8401 t16.toNat tb' ((at_ tb' t16.toNat).set t27.toNat ((lb3 tb' t16 t27) + (costF (at_ a t16.toNat) (at_ b t27.toNat)))) i_)⟩, .inr (fsetLI (P := t16.toNat) (k := t27.toNat) ((by omega)) ((by omega)) (by simp only [Nat.beq_refl, cond_true]; try rfl) (by intro i hi; simp only [Nat.beq_refl, cond_true, beq_ne hi, cond_false]; try rfl) (by intro p hp; simp only [beq_ne hp, cond_false])), trivial⟩) ?_
       refine x_r [] [0, 1, 2, 7, 8, 15, 16, 26, 27] [13, 8401] [slFeat false a, slFeat false b, I band, .arr 13, I t16, I (a.length : Int), I t16, I (b.length : Int), I (t27 + 1)] [some (tOLI 8401 (tb'.set t16.toNat ((at_ tb' t16.toNat).set t27.toNat ((lb3 tb' t16 t27) + (costF (at_ a t16.toNat) (at_ b t27.toNat)))))), some (tFLI (tb'.set t16.toNat ((at_ tb' t16.toNat).set t27.toNat ((lb3 tb' t16 t27) + (costF (at_ a t16.toNat) (at_ b t27.toNat))))))] [inR .i64 (t27 + 1)] ⟨(inR_i64 (by omega) (by omega)), trivial⟩ ?_
       exact xe_again ((t27 + 1), (tb'.set t16.toNat ((at_ tb' t16.toNat).set t27.toNat ((lb3 tb' t16 t27) + (costF (at_ a t16.toNat) (at_ b t27.toNat)))))) rfl (show (0 ≤ (t27 + 1) ∧ (t27 + 1) ≤ (b.length : Int)) ∧ (tbOk a b band (tb'.set t16.toNat ((at_ tb' t16.toNat).set t27.toNat ((lb3 tb' t16 t27) + (costF (at_ a t16.toNat) (at_ b t27.toNat))))) t16.toNat ∧ rowOk a b band (at_ (tb'.set t16.toNat ((at_ tb' t16.toNat).set t27.toNat ((lb3 tb' t16 t27) + (costF (at_ a t16.toNat) (at_ b t27.toNat))))) t16.toNat) t16.toNat (t27 + 1).toNat) ∧ True from ⟨(by omega), (by rw [show (t27 + 1).toNat = t27.toNat + 1 from by omega]; exact tb_step hin.1 hin.2 hi hj (by rw [hlb.2]; first | exact (stp_far (by first | (left; rw [hix, hjx]; omega) | (right; (try rw [if_neg (by omega)]); (try rw [if_pos (by omega)]); omega))).symm | (rw [stp_add (by rw [hix, hjx]; omega) (by first | (rw [if_neg (by omega)]; omega) | (rw [if_pos (by omega)]; decide))]; first | rw [if_neg (by omega)] | rw [if_pos (by omega)]))), trivial⟩) (by first | (show (((b.length : Int) - (t27 + 1)).toNat : Nat) < ((b.length : Int) - t27).toNat; omega) | (dsimp only; omega))
      refine x_r [(1, .dec false)] [0, 1, 2, 7, 8, 9, 10, 15, 16, 26, 27, 39] [13, 8401] [slFeat false a, slFeat false b, I band, .arr 13, I t16, I t27, I (lb3 tb' t16 t27), I (a.length : Int), I t16, I (b.length : Int), I t27, Bv false] [some (tOLI 8401 tb'), some (tFLI tb')] [¬ (t16 = 0)] ⟨h3, trivial⟩ ?_
      refine xe_then ?_
      refine x_false rfl ?_
      refine x_skip ?_
      refine xe_then ?_
      refine x_seq ?_
      by_cases h8 : band < ((t16 - t27).natAbs : Int)
      ·refine x_r [(3, .call [(true, .any)] true (I ((t16 - t27).natAbs : Int))), (5, .dec true)] [0, 1, 2, 7, 8, 9, 10, 15, 16, 26, 27, 49] [13, 8401] [slFeat false a, slFeat false b, I band, .arr 13, I t16, I t27, I (lb3 tb' t16 t27), I (a.length : Int), I t16, I (b.length : Int), I t27, Bv true] [some (tOLI 8401 tb'), some (tFLI tb')] [inR .i64 (t16 - t27), Con Tryz.prog 265 [I (t16 - t27)] true (I ((t16 - t27).natAbs : Int)) ∧ True, band < ((t16 - t27).natAbs : Int)] ⟨(inR_i64 (by omega) (by omega)), ⟨(abs_ok (t16 - t27) (by omega)), trivial⟩, h8, trivial⟩ ?_
       refine xe_then ?_
       refine x_true rfl ?_
       refine x_r [] [0, 1, 2, 7, 8, 15, 16, 26, 27] [13, 8401] [slFeat false a, slFeat false b, I band, .arr 13, I t16, I (a.length : Int), I t16, I (b.length : Int), I t27] [some (tOLI 8401 tb'), some (.fam tb'.length 1 (mLI tb') (fun q => bif Nat.beq q t16.toNat then (fun q => bif Nat.beq q t27.toNat then [I 1099511627776] else (gLI tb') t16.toNat q) else (gLI tb') q))] [(0 : Int) ≤ t16 ∧ t16 < (tb'.length : Int), t16.toNat < tb'.length, t16.toNat < tb'.length ∧ (0 : Int) ≤ t27 ∧ t27 < (((at_ tb' t16.toNat).length) : Int), t16.toNat < tb'.length ∧ t27.toNat < (at_ tb' t16.toNat).length] ⟨⟨(by omega), (by omega)⟩, (by omega), ⟨(by omega), (by omega), (by omega)⟩, ⟨(by omega), (by omega)⟩, trivial⟩ ?_
       refine xe_block 3 ?_
       refine xe_then ?_
       refine x_weak [] (T := [(0, slFeat false a), (1, slFeat false b), (2, I band), (7, .arr 13), (8, I t16), (15, I (a.length : Int)), (16, I t16), (26, I (b.length : Int)), (27, I t27)]) (O := [(13, tOLI 8401 (tb'.set t16.toNat ((at_ tb' t16.toNat).set t27.toNat 1099511627776))), (8401, tFLI (tb'.set t16.toNat ((at_ tb' t16.toNat).set t27.toNat 1099511627776)))]) rfl (⟨.inl rfl, .inl rfl, .inl rfl, .inl rfl, .inl rfl, .inl rfl, .inl rfl, .inl rfl, .inl rfl, trivial⟩) (⟨.inr ⟨rfl, rfl, (by first | rfl | (simp; done) | omega), fun i_ hi_ => .inl (osetLI 8401 t16.toNat tb' ((at_ tb' t16.toNat).set t27.toNat 1099511627776) i_)⟩, .inr (fsetLI (P := t16.toNat) (k := t27.toNat) ((by omega)) ((by omega)) (by simp only [Nat.beq_refl, cond_true]; try rfl) (by intro i hi; simp only [Nat.beq_refl, cond_true, beq_ne hi, cond_false]; try rfl) (by intro p hp; simp only [beq_ne hp, cond_false])), trivial⟩) ?_
       refine x_r [] [0, 1, 2, 7, 8, 15, 16, 26, 27] [13, 8401] [slFeat false a, slFeat false b, I band, .arr 13, I t16, I (a.length : Int), I t16, I (b.length : Int), I (t27 + 1)] [some (tOLI 8401 (tb'.set t16.toNat ((at_ tb' t16.toNat).set t27.toNat 1099511627776))), some (tFLI (tb'.set t16.toNat ((at_ tb' t16.toNat).set t27.toNat 1099511627776)))] [inR .i64 (t27 + 1)] ⟨(inR_i64 (by omega) (by omega)), trivial⟩ ?_
       exact xe_again ((t27 + 1), (tb'.set t16.toNat ((at_ tb' t16.toNat).set t27.toNat 1099511627776))) rfl (show (0 ≤ (t27 + 1) ∧ (t27 + 1) ≤ (b.length : Int)) ∧ (tbOk a b band (tb'.set t16.toNat ((at_ tb' t16.toNat).set t27.toNat 1099511627776)) t16.toNat ∧ rowOk a b band (at_ (tb'.set t16.toNat ((at_ tb' t16.toNat).set t27.toNat 1099511627776)) t16.toNat) t16.toNat (t27 + 1).toNat) ∧ True from ⟨(by omega), (by rw [show (t27 + 1).toNat = t27.toNat + 1 from by omega]; exact tb_step hin.1 hin.2 hi hj (by rw [hlb.2]; first | exact (stp_far (by first | (left; rw [hix, hjx]; omega) | (right; (try rw [if_neg (by omega)]); (try rw [if_pos (by omega)]); omega))).symm | (rw [stp_add (by rw [hix, hjx]; omega) (by first | (rw [if_neg (by omega)]; omega) | (rw [if_pos (by omega)]; decide))]; first | rw [if_neg (by omega)] | rw [if_pos (by omega)]))), trivial⟩) (by first | (show (((b.length : Int) - (t27 + 1)).toNat : Nat) < ((b.length : Int) - t27).toNat; omega) | (dsimp only; omega))
      by_cases h9 : 1099511627776 ≤ (lb3 tb' t16 t27)
      ·refine x_r [(3, .call [(true, .any)] true (I ((t16 - t27).natAbs : Int))), (5, .dec false), (8, .dec true)] [0, 1, 2, 7, 8, 9, 10, 15, 16, 26, 27, 49] [13, 8401] [slFeat false a, slFeat false b, I band, .arr 13, I t16, I t27, I (lb3 tb' t16 t27), I (a.length : Int), I t16, I (b.length : Int), I t27, Bv true] [some (tOLI 8401 tb'), some (tFLI tb')] [inR .i64 (t16 - t27), Con Tryz.prog 265 [I (t16 - t27)] true (I ((t16 - t27).natAbs : Int)) ∧ True, ¬ (band < ((t16 - t27).natAbs : Int)), 1099511627776 ≤ (lb3 tb' t16 t27)] ⟨(inR_i64 (by omega) (by omega)), ⟨(abs_ok (t16 - t27) (by omega)), trivial⟩, h8, h9, trivial⟩ ?_
       refine xe_then ?_
       refine x_true rfl ?_
       refine x_r [] [0, 1, 2, 7, 8, 15, 16, 26, 27] [13, 8401] [slFeat false a, slFeat false b, I band, .arr 13, I t16, I (a.length : Int), I t16, I (b.length : Int), I t27] [some (tOLI 8401 tb'), some (.fam tb'.length 1 (mLI tb') (fun q => bif Nat.beq q t16.toNat then (fun q => bif Nat.beq q t27.toNat then [I 1099511627776] else (gLI tb') t16.toNat q) else (gLI tb') q))] [(0 : Int) ≤ t16 ∧ t16 < (tb'.length : Int), t16.toNat < tb'.length, t16.toNat < tb'.length ∧ (0 : Int) ≤ t27 ∧ t27 < (((at_ tb' t16.toNat).length) : Int), t16.toNat < tb'.length ∧ t27.toNat < (at_ tb' t16.toNat).length] ⟨⟨(by omega), (by omega)⟩, (by omega), ⟨(by omega), (by omega), (by omega)⟩, ⟨(by omega), (by omega)⟩, trivial⟩ ?_
       refine xe_block 3 ?_
       refine xe_then ?_
       refine x_weak [] (T := [(0, slFeat false a), (1, slFeat false b), (2, I band), (7, .arr 13), (8, I t16), (15, I (a.length : Int)), (16, I t16), (26, I (b.length : Int)), (27, I t27)]) (O := [(13, tOLI 8401 (tb'.set t16.toNat ((at_ tb' t16.toNat).set t27.toNat 1099511627776))), (8401, tFLI (tb'.set t16.toNat ((at_ tb' t16.toNat).set t27.toNat 1099511627776)))]) rfl (⟨.inl rfl, .inl rfl, .inl rfl, .inl rfl, .inl rfl, .inl rfl, .inl rfl, .inl rfl, .inl rfl, trivial⟩) (⟨.inr ⟨rfl, rfl, (by first | rfl | (simp; done) | omega), fun i_ hi_ => .inl (osetLI 8401 t16.toNat tb' ((at_ tb' t16.toNat).set t27.toNat 1099511627776) i_)⟩, .inr (fsetLI (P := t16.toNat) (k := t27.toNat) ((by omega)) ((by omega)) (by simp only [Nat.beq_refl, cond_true]; try rfl) (by intro i hi; simp only [Nat.beq_refl, cond_true, beq_ne hi, cond_false]; try rfl) (by intro p hp; simp only [beq_ne hp, cond_false])), trivial⟩) ?_
       refine x_r [] [0, 1, 2, 7, 8, 15, 16, 26, 27] [13, 8401] [slFeat false a, slFeat false b, I band, .arr 13, I t16, I (a.length : Int), I t16, I (b.length : Int), I (t27 + 1)] [some (tOLI 8401 (tb'.set t16.toNat ((at_ tb' t16.toNat).set t27.toNat 1099511627776))), some (tFLI (tb'.set t16.toNat ((at_ tb' t16.toNat).set t27.toNat 1099511627776)))] [inR .i64 (t27 + 1)] ⟨(inR_i64 (by omega) (by omega)), trivial⟩ ?_
       exact xe_again ((t27 + 1), (tb'.set t16.toNat ((at_ tb' t16.toNat).set t27.toNat 1099511627776))) rfl (show (0 ≤ (t27 + 1) ∧ (t27 + 1) ≤ (b.length : Int)) ∧ (tbOk a b band (tb'.set t16.toNat ((at_ tb' t16.toNat).set t27.toNat 1099511627776)) t16.toNat ∧ rowOk a b band (at_ (tb'.set t16.toNat ((at_ tb' t16.toNat).set t27.toNat 1099511627776)) t16.toNat) t16.toNat (t27 + 1).toNat) ∧ True from ⟨(by omega), (by rw [show (t27 + 1).toNat = t27.toNat + 1 from by omega]; exact tb_step hin.1 hin.2 hi hj (by rw [hlb.2]; first | exact (stp_far (by first | (left; rw [hix, hjx]; omega) | (right; (try rw [if_neg (by omega)]); (try rw [if_pos (by omega)]); omega))).symm | (rw [stp_add (by rw [hix, hjx]; omega) (by first | (rw [if_neg (by omega)]; omega) | (rw [if_pos (by omega)]; decide))]; first | rw [if_neg (by omega)] | rw [if_pos (by omega)]))), trivial⟩) (by first | (show (((b.length : Int) - (t27 + 1)).toNat : Nat) < ((b.length : Int) - t27).toNat; omega) | (dsimp only; omega))
      refine x_r [(3, .call [(true, .any)] true (I ((t16 - t27).natAbs : Int))), (5, .dec false), (8, .dec false)] [0, 1, 2, 7, 8, 9, 10, 15, 16, 26, 27, 49] [13, 8401] [slFeat false a, slFeat false b, I band, .arr 13, I t16, I t27, I (lb3 tb' t16 t27), I (a.length : Int), I t16, I (b.length : Int), I t27, Bv false] [some (tOLI 8401 tb'), some (tFLI tb')] [inR .i64 (t16 - t27), Con Tryz.prog 265 [I (t16 - t27)] true (I ((t16 - t27).natAbs : Int)) ∧ True, ¬ (band < ((t16 - t27).natAbs : Int)), ¬ (1099511627776 ≤ (lb3 tb' t16 t27))] ⟨(inR_i64 (by omega) (by omega)), ⟨(abs_ok (t16 - t27) (by omega)), trivial⟩, h8, h9, trivial⟩ ?_
      refine xe_then ?_
      refine x_false rfl ?_
      refine x_r [(14, .call [(true, .any), (true, .any)] true (I (costF (at_ a t16.toNat) (at_ b t27.toNat))))] [0, 1, 2, 7, 8, 15, 16, 26, 27] [13, 8401] [slFeat false a, slFeat false b, I band, .arr 13, I t16, I (a.length : Int), I t16, I (b.length : Int), I t27] [some (tOLI 8401 tb'), some (.fam tb'.length 1 (mLI tb') (fun q => bif Nat.beq q t16.toNat then (fun q => bif Nat.beq q t27.toNat then [I ((lb3 tb' t16 t27) + (costF (at_ a t16.toNat) (at_ b t27.toNat)))] else (gLI tb') t16.toNat q) else (gLI tb') q))] [(0 : Int) ≤ t16 ∧ t16 < (tb'.length : Int), t16.toNat < tb'.length, (0 : Int) ≤ t16 ∧ t16 < (a.length : Int), (0 : Int) ≤ t27 ∧ t27 < (b.length : Int), Con Tryz.prog 299 [agFeat (at_ a t16.toNat), agFeat (at_ b t27.toNat)] true (I (costF (at_ a t16.toNat) (at_ b t27.toNat))) ∧ True, inR .i64 ((lb3 tb' t16 t27) + (costF (at_ a t16.toNat) (at_ b t27.toNat))), t16.toNat < tb'.length ∧ (0 : Int) ≤ t27 ∧ t27 < (((at_ tb' t16.toNat).length) : Int), t16.toNat < tb'.length ∧ t27.toNat < (at_ tb' t16.toNat).length] ⟨⟨(by omega), (by omega)⟩, (by omega), ⟨(by omega), (by omega)⟩, ⟨(by omega), (by omega)⟩, ⟨(featCost_ok (at_ a t16.toNat) (at_ b t27.toNat) (by first | exact hab.1 _ (by omega) | exact hab.2.1 _ (by omega)) (by first | exact hab.1 _ (by omega) | exact hab.2.1 _ (by omega))), trivial⟩, (inR_i64 (by omega) (by omega)), ⟨(by omega), (by omega), (by omega)⟩, ⟨(by omega), (by omega)⟩, trivial⟩ ?_
      refine xe_block 3 ?_
      refine xe_then ?_
      refine x_weak [] (T := [(0, slFeat false a), (1, slFeat false b), (2, I band), (7, .arr 13), (8, I t16), (15, I (a.length : Int)), (16, I t16), (26, I (b.length : Int)), (27, I t27)]) (O := [(13, tOLI 8401 (tb'.set t16.toNat ((at_ tb' t16.toNat).set t27.toNat ((lb3 tb' t16 t27) + (costF (at_ a t16.toNat) (at_ b t27.toNat)))))), (8401, tFLI (tb'.set t16.toNat ((at_ tb' t16.toNat).set t27.toNat ((lb3 tb' t16 t27) + (costF (at_ a t16.toNat) (at_ b t27.toNat))))))]) rfl (⟨.inl rfl, .inl rfl, .inl rfl, .inl rfl, .inl rfl, .inl rfl, .inl rfl, .inl rfl, .inl rfl, trivial⟩) (⟨.inr ⟨rfl, rfl, (by first | rfl | (simp; done) | omega), fun i_ hi_ => .inl (osetLI 8401 t16.toNat tb' ((at_ tb' t16.toNat).set t27.toNat ((lb3 tb' t16 t27) + (costF (at_ a t16.toNat) (at_ b t27.toNat)))) i_)⟩, .inr (fsetLI (P := t16.toNat) (k := t27.toNat) ((by omega)) ((by omega)) (by simp only [Nat.beq_refl, cond_true]; try rfl) (by intro i hi; simp only [Nat.beq_refl, cond_true, beq_ne hi, cond_false]; try rfl) (by intro p hp; simp only [beq_ne hp, cond_false])), trivial⟩) ?_
      refine x_r [] [0, 1, 2, 7, 8, 15, 16, 26, 27] [13, 8401] [slFeat false a, slFeat false b, I band, .arr 13, I t16, I (a.length : Int), I t16, I (b.length : Int), I (t27 + 1)] [some (tOLI 8401 (tb'.set t16.toNat ((at_ tb' t16.toNat).set t27.toNat ((lb3 tb' t16 t27) + (costF (at_ a t16.toNat) (at_ b t27.toNat)))))), some (tFLI (tb'.set t16.toNat ((at_ tb' t16.toNat).set t27.toNat ((lb3 tb' t16 t27) + (costF (at_ a t16.toNat) (at_ b t27.toNat))))))] [inR .i64 (t27 + 1)] ⟨(inR_i64 (by omega) (by omega)), trivial⟩ ?_
      exact xe_again ((t27 + 1), (tb'.set t16.toNat ((at_ tb' t16.toNat).set t27.toNat ((lb3 tb' t16 t27) + (costF (at_ a t16.toNat) (at_ b t27.toNat)))))) rfl (show (0 ≤ (t27 + 1) ∧ (t27 + 1) ≤ (b.length : Int)) ∧ (tbOk a b band (tb'.set t16.toNat ((at_ tb' t16.toNat).set t27.toNat ((lb3 tb' t16 t27) + (costF (at_ a t16.toNat) (at_ b t27.toNat))))) t16.toNat ∧ rowOk a b band (at_ (tb'.set t16.toNat ((at_ tb' t16.toNat).set t27.toNat ((lb3 tb' t16 t27) + (costF (at_ a t16.toNat) (at_ b t27.toNat))))) t16.toNat) t16.toNat (t27 + 1).toNat) ∧ True from ⟨(by omega), (by rw [show (t27 + 1).toNat = t27.toNat + 1 from by omega]; exact tb_step hin.1 hin.2 hi hj (by rw [hlb.2]; first | exact (stp_far (by first | (left; rw [hix, hjx]; omega) | (right; (try rw [if_neg (by omega)]); (try rw [if_pos (by omega)]); omega))).symm | (rw [stp_add (by rw [hix, hjx]; omega) (by first | (rw [if_neg (by omega)]; omega) | (rw [if_pos (by omega)]; decide))]; first | rw [if_neg (by omega)] | rw [if_pos (by omega)]))), trivial⟩) (by first | (show (((b.length : Int) - (t27 + 1)).toNat : Nat) < ((b.length : Int) - t27).toNat; omega) | (dsimp only; omega))
     have hje : t27.toNat = b.length := by omega
     refine x_r [(0, .dec false)] [0, 1, 2, 7, 8, 15, 16, 26, 27, 28] [13, 8401] [slFeat false a, slFeat false b, I band, .arr 13, I t16, I (a.length : Int), I t16, I (b.length : Int), I t27, Bv false] [some (tOLI 8401 tb'), some (tFLI tb')] [¬ (t27 < (b.length : Int))] ⟨h2, trivial⟩ ?_
     refine xe_then ?_
     refine x_seq ?_
     refine x_false rfl ?_
     refine x_exit ?_
     refine xe_exit_then ?_
     refine xe_loop_exit ?_
     refine xe_exit_same ?_
     refine xe_block 1 ?_
     refine xe_then ?_
     refine x_r [] [0, 1, 2, 7, 15, 16] [13, 8401] [slFeat false a, slFeat false b, I band, .arr 13, I (a.length : Int), I (t16 + 1)] [some (tOLI 8401 tb'), some (tFLI tb')] [inR .i64 (t16 + 1)] ⟨(inR_i64 (by omega) (by omega)), trivial⟩ ?_
     exact xe_again ((t16 + 1), tb') rfl (show (0 ≤ (t16 + 1) ∧ (t16 + 1) ≤ (a.length : Int)) ∧ (tbOk a b band tb' (t16 + 1).toNat) ∧ True from ⟨(by omega), (by rw [show (t16 + 1).toNat = t16.toNat + 1 from by omega]; exact tb_done hin.1 hin.2 hje), trivial⟩) (by first | (show (((a.length : Int) - (t16 + 1)).toNat : Nat) < ((a.length : Int) - t16).toNat; omega) | (dsimp only; omega))
    have hie : t16.toNat = a.length := by omega
    rw [hie] at htb
    refine x_r [(0, .dec false)] [0, 1, 2, 7, 15, 16, 17] [13, 8401] [slFeat false a, slFeat false b, I band, .arr 13, I (a.length : Int), I t16, Bv false] [some (tOLI 8401 tb), some (tFLI tb)] [¬ (t16 < (a.length : Int))] ⟨h1, trivial⟩ ?_
    refine xe_then ?_
    refine x_seq ?_
    refine x_false rfl ?_
    refine x_exit ?_
    refine xe_exit_then ?_
    refine xe_loop_exit ?_
    refine xe_exit_same ?_
    refine xe_then ?_
    refine xR [] [6] [13, 8401] [.arr 13] [some (tOLI 8401 tb), some (tFLI tb)] [] trivial ?_
    refine x_ret ?_
    refine xe_end tb (show (tbOk a b band tb a.length) ∧ (True) from ⟨(by first | assumption | exact htb), trivial⟩) (trivial) (.arr 13) (by kernel_rfl) (.inr ⟨(fun _ => rfl), rfl, rfl, oleLI _ _ rfl⟩) (fun _ => rfl) (fun _ => (tagLI true _))
  obtain ⟨v, ⟨hh0, _⟩, hc⟩ := hh
  exact ⟨v, hh0, hc⟩



abbrev farS : Int := 1000000000
def flOk (a b : List Feat) (band : Int) (out : List Int) (k : Nat) : Prop := out.length = a.length * b.length ∧ ∀ p q, p < a.length → q < b.length → p * b.length + q < k → at_ out (p * b.length + q) = cv farS a b band p q
def sb0 (i j : Int) : Int := if i = 0 ∧ j = 0 then 0 else 1000000000
def sb1 (out : List Int) (m i j : Int) : Int := if 0 < i ∧ 0 < j then min (sb0 i j) (at_ out ((i - 1) * m + j - 1).toNat) else sb0 i j
def sb2 (out : List Int) (m i j : Int) : Int := if 0 < i then min (sb1 out m i j) (at_ out ((i - 1) * m + j).toNat) else sb1 out m i j
def sb3 (out : List Int) (m i j : Int) : Int := if 0 < j then min (sb2 out m i j) (at_ out (i * m + j - 1).toNat) else sb2 out m i j

def nx (a b : List Feat) (band : Int) (i j : Nat) : Nat × Nat :=
  if (0 < i ∧ 0 < j) ∧ cv farS a b band (i - 1) (j - 1) = cv farS a b band i j - costF (at_ a i) (at_ b j) then (i - 1, j - 1)
  else if 0 < i ∧ cv farS a b band (i - 1) j = cv farS a b band i j - costF (at_ a i) (at_ b j) then (i - 1, j) else (i, j - 1)
def inBd (band : Int) (i j : Nat) : Prop := (((i : Int) - (j : Int)).natAbs : Int) ≤ band
theorem cv_fin {a b : List Feat} {band : Int} {i j : Nat} (hab : okAB a b) (hi : i < a.length) (hj : j < b.length) : (inBd band i j ∧ cv farI a b band i j = cv farS a b band i j ∧ 0 ≤ cv farS a b band i j ∧ cv farS a b band i j ≤ 87000) ∨ (¬ inBd band i j ∧ cv farI a b band i j = 1099511627776 ∧ cv farS a b band i j = 1000000000) := by
  have hl := hab.2.2
  by_cases h : inBd band i j
  · have q := cv_in (band := band) hab (f1 := farS) (f2 := farI) (by decide) (by decide) (i + j) i j rfl hi hj h
    exact .inl ⟨h, q.1.symm, q.2.1, by omega⟩
  · unfold inBd at h
    exact .inr ⟨h, cv_out (by omega), cv_out (by omega)⟩
theorem cv_add {far : Int} (hf : 1000000000 ≤ far) {a b : List Feat} {band : Int} {i j : Nat} (hab : okAB a b) (hi : i < a.length) (hj : j < b.length) (hb : inBd band i j) (h0 : ¬ (i = 0 ∧ j = 0)) :
    ∃ x, cv far a b band i j = x + costF (at_ a i) (at_ b j) ∧ x < far ∧ ((0 < i ∧ 0 < j) ∧ x = cv far a b band (i - 1) (j - 1) ∨ 0 < i ∧ x = cv far a b band (i - 1) j ∨ 0 < j ∧ x = cv far a b band i (j - 1)) ∧ (0 < i → 0 < j → x ≤ cv far a b band (i - 1) (j - 1)) ∧ (0 < i → x ≤ cv far a b band (i - 1) j) ∧ (0 < j → x ≤ cv far a b band i (j - 1)) := by
  have q := cv_in (band := band) hab hf hf (i + j) i j rfl hi hj hb
  have hl := hab.2.2
  have hc := costF_bd (hab.1 i hi) (hab.2.1 j hj)
  unfold inBd at hb
  rcases i with _ | i <;> rcases j with _ | j
  · exact absurd ⟨rfl, rfl⟩ h0
  · obtain ⟨v, e⟩ : ∃ v, v = cv far a b band 0 (j + 1) := ⟨_, rfl⟩
    rw [← e] at q ⊢
    rw [cv] at e
    unfold stp at e
    split at e
    · omega
    · refine ⟨_, e, by omega, ?_, by omega, by omega, fun _ => by simp only [Nat.add_sub_cancel]; omega⟩
      right; right; refine ⟨by omega, ?_⟩; simp only [Nat.add_sub_cancel]; omega
  · obtain ⟨v, e⟩ : ∃ v, v = cv far a b band (i + 1) 0 := ⟨_, rfl⟩
    rw [← e] at q ⊢
    rw [cv] at e
    unfold stp at e
    split at e
    · omega
    · refine ⟨_, e, by omega, ?_, by omega, fun _ => by simp only [Nat.add_sub_cancel]; omega, by omega⟩
      right; left; refine ⟨by omega, ?_⟩; simp only [Nat.add_sub_cancel]; omega
  · obtain ⟨v, e⟩ : ∃ v, v = cv far a b band (i + 1) (j + 1) := ⟨_, rfl⟩
    rw [← e] at q ⊢
    rw [cv] at e
    unfold stp at e
    split at e
    · omega
    · refine ⟨_, e, by omega, ?_, fun _ _ => by simp only [Nat.add_sub_cancel]; omega, fun _ => by simp only [Nat.add_sub_cancel]; omega, fun _ => by simp only [Nat.add_sub_cancel]; omega⟩
      simp only [Nat.add_sub_cancel]
      omega


theorem okAB_of {a b : List Feat} (ha : okFeats a 72 = true) (hb : okFeats b 72 = true) : okAB a b := ⟨fun i hi => okFeats_at ha hi, fun j hj => okFeats_at hb hj, by have := okFeats_n ha; omega, by have := okFeats_n hb; omega⟩
theorem inBd_end {band : Int} {n m : Nat} (h : inBd band n m) (hn : 1 ≤ n) (hm : 1 ≤ m) : inBd band (n - 1) (m - 1) := by unfold inBd at *; omega


def elCode (a b : List Feat) (band : Int) : Int := if okFeats a 72 = true ∧ okFeats b 72 = true then (if (inB band 0 72 && decide ((((a.length : Int) - (b.length : Int)).natAbs : Int) ≤ band)) = true then 0 else 2) else 1
def elR (a b : List Feat) (band : Int) : Int × Int := if elCode a b band = 0 then (cv farS a b band (a.length - 1) (b.length - 1), 0) else (0, elCode a b band)

theorem tb_last {a b : List Feat} {band : Int} {tb : List (List Int)} (h : tbOk a b band tb a.length) (ha : 1 ≤ a.length) (hb : 1 ≤ b.length) : (tb.length = a.length ∧ (at_ tb (a.length - 1)).length = b.length) ∧ at_ (at_ tb (a.length - 1)) (b.length - 1) = cv farI a b band (a.length - 1) (b.length - 1) :=
  ⟨⟨h.1, (h.2 _ (by omega)).1⟩, (h.2 _ (by omega)).2 _ (by omega)⟩


-- impl.elastic
theorem elastic_ok (a : List Feat) (b : List Feat) (band : Int) (hab : okAB a b) (hbd : 0 ≤ band ∧ band ≤ 1000) (h1 : 1 ≤ a.length ∧ 1 ≤ b.length) : ∃ (v : Int), (v = cv farI a b band (a.length - 1) (b.length - 1)) ∧ Con Tryz.prog 229 [slFeat false a, slFeat false b, I band] true (I v) := by
  have hla := hab.2.2
  have hh : ∃ r : Int, ((r = cv farI a b band (a.length - 1) (b.length - 1)) ∧ (True)) ∧ CallOK Tryz.prog 229 [slFeat false a, slFeat false b, I band] (lookO []) true (I r) (lookO []) := by
    refine fn_okX (Φ := fun r : Int => (r = cv farI a b band (a.length - 1) (b.length - 1)) ∧ (True)) [] (fun r => []) (fn := Tryz.f229) (nt := 21) Tryz.func229 rfl rfl (args := [slFeat false a, slFeat false b, I band]) rfl (allcons (.inl ⟨rfl, tagFeat false _⟩) (allcons (.inl ⟨rfl, tagFeat false _⟩) (allcons (.inl ⟨rfl, trivial⟩) allnil))) (res := fun r => I r) ?_
    refine xR [] [0, 1, 2] [] [slFeat false a, slFeat false b, I band] [] [] trivial ?_
    refine x_seq ?_
    obtain ⟨v_1, hx1_0, hc1⟩ := costTable_ok a b band hab (by omega)
    have htl := tb_last hx1_0 h1.1 h1.2
    have hq1 : ((a.length : Int) - 1).toNat = a.length - 1 := by omega
    have hq2 : ((b.length : Int) - 1).toNat = b.length - 1 := by omega
    rw [← hq1] at htl
    refine x_r [(3, .call [(true, .any), (true, .any), (true, .any)] true (slLI true v_1))] [6] [] [I (at_ (at_ v_1 (((a.length : Int) - 1).toNat)) (((b.length : Int) - 1).toNat))] [] [Con Tryz.prog 266 [slFeat false a, slFeat false b, I band] true (slLI true v_1) ∧ True, inR .i64 ((a.length : Int) - 1), (0 : Int) ≤ ((a.length : Int) - 1) ∧ ((a.length : Int) - 1) < (v_1.length : Int), inR .i64 ((b.length : Int) - 1), (0 : Int) ≤ ((b.length : Int) - 1) ∧ ((b.length : Int) - 1) < (((at_ v_1 (((a.length : Int) - 1).toNat)).length) : Int)] ⟨⟨hc1, trivial⟩, (inR_i64 (by omega) (by omega)), ⟨(by omega), (by omega)⟩, (inR_i64 (by omega) (by omega)), ⟨(by omega), (by omega)⟩, trivial⟩ ?_
    refine xe_then ?_
    refine x_ret ?_
    refine xe_end (at_ (at_ v_1 (((a.length : Int) - 1).toNat)) (((b.length : Int) - 1).toNat)) (show ((at_ (at_ v_1 (((a.length : Int) - 1).toNat)) (((b.length : Int) - 1).toNat)) = cv farI a b band (a.length - 1) (b.length - 1)) ∧ (True) from ⟨(by (rw [hq2, htl.2, hq1])), trivial⟩) (trivial) (I (at_ (at_ v_1 (((a.length : Int) - 1).toNat)) (((b.length : Int) - 1).toNat))) (by kernel_rfl) (.inl rfl) (fun _ => rfl) (fun _ => trivial)
  obtain ⟨v, ⟨hh0, _⟩, hc⟩ := hh
  exact ⟨v, hh0, hc⟩



def cmpI (a b : Int) : Int := if a < b then -1 else if b < a then 1 else 0
theorem cmpI_neg {a b : Int} : cmpI a b < 0 ↔ a < b := by unfold cmpI; split <;> (try split) <;> omega
theorem cmpI_zero {a b : Int} : cmpI a b = 0 ↔ a = b := by unfold cmpI; split <;> (try split) <;> omega
def shfL {α : Type} (p : List α) (x : α) (j : Nat) : List α := p.take j ++ x :: p.drop j
theorem shf_len {α : Type} {p : List α} {x : α} {j : Nat} (h : j ≤ p.length) : (shfL p x j).length = p.length + 1 := by
  simp [shfL]; omega
theorem shf_end {α : Type} (p : List α) (x : α) : shfL p x p.length = p ++ [x] := by simp [shfL]
theorem shf_at {α : Type} [Inhabited α] {p r : List α} {x : α} {j : Nat} (h : j ≤ p.length) : at_ (shfL p x j ++ r) j = x := by
  have hl : (p.take j).length = j := by simp; omega
  rw [shfL, List.append_assoc, at_right (by omega), hl, Nat.sub_self]; simp [at_]
theorem shf_below {α : Type} [Inhabited α] {p r : List α} {x : α} {j k : Nat} (h : j ≤ p.length) (hk : k < j) : at_ (shfL p x j ++ r) k = at_ p k := by
  have hl : (p.take j).length = j := by simp; omega
  rw [shfL, List.append_assoc, at_left (by omega), at_eq (by omega), at_eq (by omega), List.getElem_take]
theorem at_cons {α : Type} [Inhabited α] (x : α) (l : List α) (k : Nat) : at_ (x :: l) (k + 1) = at_ l k := by simp [at_]
theorem at_drop {α : Type} [Inhabited α] (l : List α) (j k : Nat) : at_ (l.drop j) k = at_ l (j + k) := by simp [at_, List.getElem?_drop]
theorem shf_above {α : Type} [Inhabited α] {p r : List α} {x : α} {j k : Nat} (h : j ≤ p.length) (hk : j < k) : at_ (shfL p x j ++ r) k = at_ (p ++ r) (k - 1) := by
  have hl : (p.take j).length = j := by simp; omega
  have e : k - j = (k - 1 - j) + 1 := by omega
  rw [shfL, List.append_assoc, at_right (by omega), hl, e, List.cons_append, at_cons]
  by_cases c : k - 1 < p.length
  · rw [at_left (by simp; omega), at_left c, at_drop]; congr 1; omega
  · rw [at_right (by simp; omega), at_right (by omega)]; congr 1; simp; omega
theorem shf_step {α : Type} [Inhabited α] {p r : List α} {x : α} {j : Nat} (h : j + 1 ≤ p.length) : ((shfL p x (j + 1) ++ r).set (j + 1) (at_ p j)).set j x = shfL p x j ++ r := by
  refine ext_at (by simp [shf_len h, shf_len (show j ≤ p.length by omega)]) fun k hk => ?_
  have hl : (shfL p x (j + 1) ++ r).length = p.length + 1 + r.length := by rw [List.length_append, shf_len h]
  rw [List.length_set, List.length_set, hl] at hk
  by_cases e1 : k = j
  · rw [e1, at_set_same (by rw [List.length_set, hl]; omega), shf_at (by omega)]
  · rw [at_set_oth e1]
    by_cases e2 : k = j + 1
    · rw [e2, at_set_same (by rw [hl]; omega), shf_above (by omega) (by omega), at_left (by omega)]; rfl
    · rw [at_set_oth e2]
      by_cases c : k < j
      · rw [shf_below h (by omega), shf_below (by omega) c]
      · rw [shf_above h (by omega), shf_above (by omega) (by omega)]
def posL {α : Type} [Inhabited α] (c : α → α → Int) (x : α) (p : List α) : Nat → Nat
  | 0 => 0
  | j + 1 => if c x (at_ p j) < 0 then posL c x p j else j + 1
theorem posL_le {α : Type} [Inhabited α] (c : α → α → Int) (x : α) (p : List α) : ∀ j : Nat, posL c x p j ≤ j
  | 0 => Nat.le_refl _
  | j + 1 => by unfold posL; split; exact Nat.le_succ_of_le (posL_le c x p j); exact Nat.le_refl _
def insL {α : Type} [Inhabited α] (c : α → α → Int) (p : List α) (x : α) : List α := shfL p x (posL c x p p.length)
def isoL {α : Type} [Inhabited α] (c : α → α → Int) (xs : List α) : Nat → List α
  | 0 => []
  | k + 1 => insL c (isoL c xs k) (at_ xs k)
theorem isoL_len {α : Type} [Inhabited α] (c : α → α → Int) (xs : List α) : ∀ k : Nat, (isoL c xs k).length = k
  | 0 => rfl
  | k + 1 => by unfold isoL insL; rw [shf_len (posL_le _ _ _ _), isoL_len c xs k]
theorem isoL_one {α : Type} [Inhabited α] (c : α → α → Int) (xs : List α) : isoL c xs 1 = [at_ xs 0] := rfl
theorem pos_hit {α : Type} [Inhabited α] {c : α → α → Int} {x : α} {p : List α} {j : Nat} (h : ∀ k : Nat, j ≤ k → k < p.length → c x (at_ p k) < 0) (hj : j ≤ p.length) (h2 : j = 0 ∨ ¬ c x (at_ p (j - 1)) < 0) : posL c x p p.length = j := by
  have : ∀ m : Nat, m + j ≤ p.length → posL c x p (j + m) = j := fun m => by
    induction m with
    | zero =>
      intro _
      rcases h2 with e | e
      · subst e; rfl
      · cases j with
        | zero => rfl
        | succ j => exact if_neg e
    | succ m ih => intro hm; exact (if_pos (h (j + m) (by omega) (by omega))).trans (ih (by omega))
  have := this (p.length - j) (by omega)
  rwa [show j + (p.length - j) = p.length from by omega] at this
theorem shf_perm {α : Type} (p : List α) (x : α) (j : Nat) : List.Perm (shfL p x j) (p ++ [x]) := by
  unfold shfL
  refine List.perm_middle.trans ?_
  rw [List.take_append_drop]
  exact (List.perm_append_singleton x p).symm
theorem isoL_perm {α : Type} [Inhabited α] (c : α → α → Int) (xs : List α) : ∀ k : Nat, k ≤ xs.length → List.Perm (isoL c xs k) (xs.take k)
  | 0, _ => by simp [isoL]
  | k + 1, h => by
    rw [List.take_succ_eq_append_getElem (by omega), ← at_eq (by omega)]
    exact (shf_perm _ _ _).trans ((isoL_perm c xs k (by omega)).append_right _)
def ordR {α : Type} (c : α → α → Int) (B : α → α → Prop) (x y : α) : Prop := c x y < 0 ∨ c x y = 0 ∧ B x y
structure CmpW {α : Type} (c : α → α → Int) : Prop where
  anti : ∀ x y, c x y < 0 ↔ 0 < c y x
  trans : ∀ x y z, c x y ≤ 0 → c y z < 0 → c x z < 0
theorem CmpW.refl {α : Type} {c : α → α → Int} (h : CmpW c) (x : α) : c x x = 0 := by have := h.anti x x; omega
theorem CmpW.zero {α : Type} {c : α → α → Int} (h : CmpW c) {x y : α} (e : c x y = 0) : c y x = 0 := by have h1 := h.anti x y; have h2 := h.anti y x; omega
theorem CmpW.le {α : Type} {c : α → α → Int} (h : CmpW c) {x y z : α} (h1 : c x y ≤ 0) (h2 : c y z ≤ 0) : c x z ≤ 0 := by
  rcases Int.lt_or_le 0 (c x z) with g | g
  · have q := (h.anti z x).2 g
    have q2 : c y x < 0 := h.trans y z x h2 q
    have := (h.anti y x).1 q2; omega
  · exact g
theorem pos_lo {α : Type} [Inhabited α] {c : α → α → Int} {x : α} {p : List α} : ∀ (n k : Nat), posL c x p n ≤ k → k < n → c x (at_ p k) < 0
  | 0, k, _, h => absurd h (Nat.not_lt_zero _)
  | n + 1, k, h1, h2 => by
    unfold posL at h1
    split at h1
    · rename_i g
      by_cases e : k = n
      · subst e; exact g
      · exact pos_lo n k h1 (by omega)
    · omega
theorem pos_at {α : Type} [Inhabited α] {c : α → α → Int} {x : α} {p : List α} : ∀ n : Nat, posL c x p n = 0 ∨ ¬ c x (at_ p (posL c x p n - 1)) < 0
  | 0 => .inl rfl
  | n + 1 => by
    unfold posL
    split
    · exact pos_at n
    · right; assumption
theorem isoL_ord {α : Type} [Inhabited α] {c : α → α → Int} (hc : CmpW c) {B : α → α → Prop} {xs : List α} (hB : xs.Pairwise B) : ∀ k : Nat, k ≤ xs.length → (isoL c xs k).Pairwise (ordR c B)
  | 0, _ => by simp [isoL]
  | k + 1, h => by
    have ih := isoL_ord hc hB k (by omega)
    have hp := isoL_perm c xs k (by omega)
    have hl := isoL_len c xs k
    obtain ⟨p, hpe⟩ : ∃ p, p = isoL c xs k := ⟨_, rfl⟩
    obtain ⟨x, hx⟩ : ∃ x, x = at_ xs k := ⟨_, rfl⟩
    rw [isoL, ← hpe, ← hx]
    rw [← hpe] at ih hp hl
    have hbx : ∀ y ∈ p, B y x := fun y hy => by
      have hm := hp.mem_iff.1 hy
      obtain ⟨i, hi, e⟩ := List.getElem_of_mem hm
      rw [List.length_take] at hi
      rw [List.getElem_take] at e
      rw [← e, hx, at_eq (by omega)]
      exact (List.pairwise_iff_getElem.1 hB) i k (by omega) (by omega) (by omega)
    unfold insL shfL
    have hj := posL_le c x p p.length
    have lo := fun k hk hk2 => pos_lo (c := c) (x := x) (p := p) p.length k hk hk2
    have hi := pos_at (c := c) (x := x) (p := p) p.length
    generalize posL c x p p.length = j at hj lo hi ⊢
    have hle : ∀ y ∈ p.take j, c y x ≤ 0 := fun y hy => by
      obtain ⟨i, hi2, e⟩ := List.getElem_of_mem hy
      rw [List.length_take] at hi2
      rw [List.getElem_take] at e
      rcases hi with e0 | e0
      · omega
      · have h3 : c (at_ p (j - 1)) x ≤ 0 := by
          rcases Int.lt_or_le 0 (c (at_ p (j - 1)) x) with g | g
          · exact absurd ((hc.anti _ _).2 g) e0
          · exact g
        rw [← e]
        by_cases ei : i = j - 1
        · have : p[i] = at_ p (j - 1) := by rw [at_eq (by omega)]; congr 1
          rw [this]; exact h3
        · have q := (List.pairwise_iff_getElem.1 ih) i (j - 1) (by omega) (by omega) (by omega)
          rw [← at_eq (show j - 1 < p.length by omega)] at q
          refine hc.le ?_ h3
          rcases q with q | q
          · omega
          · omega
    have hgt : ∀ y ∈ p.drop j, c x y < 0 := fun y hy => by
      obtain ⟨i, hi2, e⟩ := List.getElem_of_mem hy
      rw [List.length_drop] at hi2
      rw [List.getElem_drop] at e
      rw [← e, ← at_eq (by omega)]
      exact lo _ (by omega) (by omega)
    rw [List.pairwise_append]
    refine ⟨ih.sublist (List.take_sublist _ _), List.pairwise_cons.2 ⟨fun y hy => .inl (hgt y hy), ih.sublist (List.drop_sublist _ _)⟩, fun a ha b hb => ?_⟩
    rcases List.mem_cons.1 hb with e | e
    · subst e
      have := hle a ha
      by_cases z : c a b = 0
      · exact .inr ⟨z, hbx a (List.mem_of_mem_take ha)⟩
      · exact .inl (by omega)
    · exact .inl (hc.trans a x b (hle a ha) (hgt b e))
theorem isoL_mem {α : Type} [Inhabited α] {c : α → α → Int} {xs : List α} {x : α} : x ∈ isoL c xs xs.length ↔ x ∈ xs := by
  have := (isoL_perm c xs xs.length (Nat.le_refl _)).mem_iff (a := x)
  rwa [List.take_of_length_le (Nat.le_refl _)] at this
theorem iso_start {α : Type} [Inhabited α] (c : α → α → Int) (xs : List α) : xs = isoL c xs (min 1 xs.length) ++ xs.drop 1 := by
  cases xs with
  | nil => rfl
  | cons x r => show x :: r = isoL c (x :: r) (min 1 (r.length + 1)) ++ r; rw [show min 1 (r.length + 1) = 1 from by omega, isoL_one]; rfl
theorem iso_in {α : Type} [Inhabited α] {c : α → α → Int} {xs : List α} {i : Nat} (hi : i < xs.length) : isoL c xs i ++ xs.drop i = shfL (isoL c xs i) (at_ xs i) i ++ xs.drop (i + 1) := by
  have hl := isoL_len c xs i
  have e : shfL (isoL c xs i) (at_ xs i) i = isoL c xs i ++ [at_ xs i] := by
    have := shf_end (isoL c xs i) (at_ xs i); rwa [hl] at this
  rw [e, List.append_assoc, at_eq hi, List.singleton_append, ← List.drop_eq_getElem_cons hi]
theorem iso_out {α : Type} [Inhabited α] {c : α → α → Int} {xs : List α} {i j : Nat} (hj : j ≤ i) (h : ∀ k : Nat, j ≤ k → k < i → c (at_ xs i) (at_ (isoL c xs i) k) < 0) (h2 : j = 0 ∨ ¬ c (at_ xs i) (at_ (isoL c xs i) (j - 1)) < 0) :
    shfL (isoL c xs i) (at_ xs i) j = isoL c xs (i + 1) := by
  have hl := isoL_len c xs i
  have := pos_hit (c := c) (x := at_ xs i) (p := isoL c xs i) (j := j) (fun k h3 h4 => h k h3 (by omega)) (by omega) h2
  show _ = insL c (isoL c xs i) (at_ xs i)
  unfold insL; rw [this]


def cmpM (x y : Match) : Int := cmpI x.Cost y.Cost
theorem cmpW_of {α : Type} (f : α → Int) : CmpW (fun x y => cmpI (f x) (f y)) := ⟨fun x y => by have h1 := @cmpI_neg (f x) (f y); unfold cmpI; split <;> (try split) <;> (try split) <;> omega, fun x y z h1 h2 => by
  rw [cmpI_neg] at *
  have := @cmpI_neg (f y) (f x)
  have := @cmpI_zero (f x) (f y)
  have := @cmpI_neg (f x) (f y)
  omega⟩
theorem cmpM_ok : CmpW cmpM := cmpW_of Match.Cost


def inS (s : Store) (fs : List Feat) (j : Nat) : Bool := inB s.Band 0 72 && decide ((((fs.length : Int) - ((at_ s.Templates j).Feats.length : Int)).natAbs : Int) ≤ s.Band)
def mtM (s : Store) (fs : List Feat) (j : Nat) : Match := ⟨(j : Int), cv farS fs (at_ s.Templates j).Feats s.Band (fs.length - 1) ((at_ s.Templates j).Feats.length - 1)⟩
def mtS (s : Store) (fs : List Feat) : Nat → List Match
  | 0 => []
  | k + 1 => if inS s fs k = true then mtS s fs k ++ [mtM s fs k] else mtS s fs k
theorem mt_y {s : Store} {fs : List Feat} {k : Nat} (h : inS s fs k = true) : mtS s fs (k + 1) = mtS s fs k ++ [mtM s fs k] := if_pos h
theorem mt_n {s : Store} {fs : List Feat} {k : Nat} (h : ¬ inS s fs k = true) : mtS s fs (k + 1) = mtS s fs k := if_neg h
theorem mtS_len (s : Store) (fs : List Feat) : ∀ k : Nat, (mtS s fs k).length ≤ k
  | 0 => Nat.le_refl _
  | k + 1 => by
    have := mtS_len s fs k
    unfold mtS; split
    · rw [List.length_append]; simp; omega
    · omega
theorem mtS_mem {s : Store} {fs : List Feat} {x : Match} : ∀ {k : Nat}, x ∈ mtS s fs k → ∃ j, j < k ∧ inS s fs j = true ∧ x = mtM s fs j
  | 0, h => by simp [mtS] at h
  | k + 1, h => by
    unfold mtS at h
    split at h
    · rename_i g
      rcases List.mem_append.1 h with e | e
      · obtain ⟨j, h1, h2, h3⟩ := mtS_mem e; exact ⟨j, by omega, h2, h3⟩
      · simp only [List.mem_singleton] at e; exact ⟨k, by omega, g, e⟩
    · obtain ⟨j, h1, h2, h3⟩ := mtS_mem h; exact ⟨j, by omega, h2, h3⟩
theorem mtS_pw (s : Store) (fs : List Feat) : ∀ k : Nat, (mtS s fs k).Pairwise fun x y => x.Index < y.Index
  | 0 => by simp [mtS]
  | k + 1 => by
    have ih := mtS_pw s fs k
    unfold mtS; split
    · rw [List.pairwise_append]
      refine ⟨ih, by simp, fun a ha b hb => ?_⟩
      obtain ⟨j, h1, _, h3⟩ := mtS_mem ha
      simp only [List.mem_singleton] at hb
      subst hb h3
      show (j : Int) < (k : Int); omega
    · exact ih
theorem mt_cv {s : Store} {fs : List Feat} {j : Nat} (hf : okFeats fs 72 = true) (ht : okTm (at_ s.Templates j) = true) (h : inS s fs j = true) : (0 ≤ s.Band ∧ s.Band ≤ 72) ∧ elR fs (at_ s.Templates j).Feats s.Band = ((mtM s fs j).Cost, 0) ∧ cv farI fs (at_ s.Templates j).Feats s.Band (fs.length - 1) ((at_ s.Templates j).Feats.length - 1) = (mtM s fs j).Cost ∧ 0 ≤ (mtM s fs j).Cost ∧ (mtM s fs j).Cost ≤ 87000 := by
  have hg : okFeats (at_ s.Templates j).Feats 72 = true := by simp only [okTm, Bool.and_eq_true] at ht; exact ht.2
  have h1 := okFeats_n hf
  have h2 := okFeats_n hg
  have hq := h
  simp only [inS, Bool.and_eq_true, decide_eq_true_eq, inB] at h
  have hb : inBd s.Band fs.length (at_ s.Templates j).Feats.length := by unfold inBd; exact h.2
  have he := inBd_end hb h1.1 h2.1
  refine ⟨h.1, ?_, ?_⟩
  · unfold elR
    rw [if_pos (show elCode fs (at_ s.Templates j).Feats s.Band = 0 by unfold elCode; rw [if_pos ⟨hf, hg⟩]; unfold inS at hq; rw [if_pos hq])]; rfl
  · rcases cv_fin (band := s.Band) (i := fs.length - 1) (j := (at_ s.Templates j).Feats.length - 1) (okAB_of hf hg) (by omega) (by omega) with g | g
    · exact ⟨g.2.1, g.2.2.1, g.2.2.2⟩
    · exact absurd he g.1
def nsL (s : Store) (fs : List Feat) (k : Int) : List Match := (isoL cmpM (mtS s fs s.Templates.length) (mtS s fs s.Templates.length).length).take (min k ((mtS s fs s.Templates.length).length : Int)).toNat
theorem nsL_len {s : Store} {fs : List Feat} {k : Int} (h : 0 ≤ k) : ((nsL s fs k).length : Int) = min k ((mtS s fs s.Templates.length).length : Int) := by
  unfold nsL; rw [List.length_take, isoL_len]; omega
theorem nsL_mem {s : Store} {fs : List Feat} {k : Int} {x : Match} (h : x ∈ nsL s fs k) : ∃ j, j < s.Templates.length ∧ inS s fs j = true ∧ x = mtM s fs j := mtS_mem (isoL_mem.1 (List.mem_of_mem_take h))
theorem ns_pw (s : Store) (fs : List Feat) : (isoL cmpM (mtS s fs s.Templates.length) (mtS s fs s.Templates.length).length).Pairwise (ordR cmpM fun x y => x.Index < y.Index) := isoL_ord cmpM_ok (mtS_pw s fs _) _ (Nat.le_refl _)
theorem nsL_has {s : Store} {fs : List Feat} {k : Int} {x : Match} (hk : 1 ≤ k) (hx : x ∈ mtS s fs s.Templates.length) (hl : ((nsL s fs k).length : Int) = k) (h : x.Cost < (at_ (nsL s fs k) (k - 1).toNat).Cost) : x ∈ nsL s fs k := by
  have hm : x ∈ isoL cmpM (mtS s fs s.Templates.length) (mtS s fs s.Templates.length).length := isoL_mem.2 hx
  obtain ⟨i, hi, e⟩ := List.getElem_of_mem hm
  have hlen := nsL_len (s := s) (fs := fs) (k := k) (by omega)
  have hmin : (min k ((mtS s fs s.Templates.length).length : Int)).toNat = k.toNat := by omega
  have il := isoL_len cmpM (mtS s fs s.Templates.length) (mtS s fs s.Templates.length).length
  by_cases c : i < k.toNat
  · unfold nsL
    rw [hmin, ← e]
    exact List.mem_iff_getElem.2 ⟨i, by rw [List.length_take]; omega, by rw [List.getElem_take]⟩
  · exfalso
    have q := (List.pairwise_iff_getElem.1 (ns_pw s fs)) (k - 1).toNat i (by omega) hi (by omega)
    have e2 : at_ (nsL s fs k) (k - 1).toNat = (isoL cmpM (mtS s fs s.Templates.length) (mtS s fs s.Templates.length).length)[(k - 1).toNat]'(by omega) := by
      rw [at_eq (by omega)]; unfold nsL; rw [List.getElem_take]
    rw [← e2, e] at q
    unfold ordR cmpM at q
    rw [cmpI_neg, cmpI_zero] at q
    omega

-- impl.matchesOf
theorem matchesOf_ok (s : Store) (feats : List Feat) (hst : okStore' s = true) (okf : okFeats feats 72 = true) (h18 : s.Templates.length ≤ 18) : ∃ (ms : List Match), (ms = mtS s feats s.Templates.length) ∧ CallOK Tryz.prog 188 [agStore s, slFeat false feats] (lookO []) false (.arr 7211) (lookO [(7211, tAMatch ms)]) := by
  have hh : ∃ r : (List Match), ((r = mtS s feats s.Templates.length) ∧ (True)) ∧ CallOK Tryz.prog 188 [agStore s, slFeat false feats] (lookO []) false (.arr 7211) (lookO [(7211, tAMatch r)]) := by
    refine fn_okX (Φ := fun r : (List Match) => (r = mtS s feats s.Templates.length) ∧ (True)) [] (fun r => [(7211, tAMatch r)]) (fn := Tryz.f188) (nt := 37) Tryz.func188 rfl rfl (args := [agStore s, slFeat false feats]) rfl (allcons (.inl ⟨rfl, by simp [tagged, taggedL, tagTemplate]⟩) (allcons (.inl ⟨rfl, tagFeat false _⟩) allnil)) (res := fun r => .arr 7211) ?_
    refine xR [(0, .new 2)] [1, 2] [2] [slFeat false feats, .ref 2 0] [some (bxStore s)] [] trivial ?_
    refine xR [] [1, 2, 5] [2] [slFeat false feats, .ref 2 0, nilA] [some (bxStore s)] [] trivial ?_
    refine x_seq ?_
    refine xR [] [1, 2, 5, 9, 10, 11] [2] [slFeat false feats, .ref 2 0, nilA, slTemplate false s.Templates, I (s.Templates.length : Int), I 0] [some (bxStore s)] [] trivial ?_
    refine x_block ?_
    refine x_nil 5 705 2 (fun _ => []) (by kernel_rfl) ?_
    refine x_weak [] (T := [(1, slFeat false feats), (2, .ref 2 0), (5, .arr 705), (9, slTemplate false s.Templates), (10, I (s.Templates.length : Int)), (11, I 0)]) (O := [(2, bxStore s), (705, tAMatch ([] : List Match))]) rfl (⟨.inl rfl, .inl rfl, .inl rfl, .inl rfl, .inl rfl, .inl rfl, trivial⟩) (⟨.inl rfl, .inr ⟨rfl, (by first | rfl | (simp; done) | (simp; omega) | omega), fun i_ hi_ => absurd hi_ (Nat.not_lt_zero _)⟩, trivial⟩) ?_
    refine x_loop (X := (List Match) × Int) (fun x => mkS [(1, slFeat false feats), (2, .ref 2 0), (5, .arr 705), (9, slTemplate false s.Templates), (10, I (s.Templates.length : Int)), (11, I x.2)] [(2, bxStore s), (705, tAMatch x.1)]) (fun x => (0 ≤ x.2 ∧ x.2 ≤ (s.Templates.length : Int)) ∧ (x.1 = mtS s feats x.2.toNat) ∧ True) (fun x => ((s.Templates.length : Int) - x.2).toNat) (([] : List Match), 0) rfl (show (0 ≤ (0 : Int) ∧ (0 : Int) ≤ (s.Templates.length : Int)) ∧ (([] : List Match) = mtS s feats (0 : Int).toNat) ∧ True from ⟨(by omega), (by rfl), trivial⟩) (fun x hI => ?_)
    obtain ⟨ls, t11⟩ := x
    obtain ⟨hi0, hls, _⟩ : (0 ≤ t11 ∧ t11 ≤ (s.Templates.length : Int)) ∧ (ls = mtS s feats t11.toNat) ∧ True := hI
    show XW _ _ _ _ (mkS [(1, slFeat false feats), (2, .ref 2 0), (5, .arr 705), (9, slTemplate false s.Templates), (10, I (s.Templates.length : Int)), (11, I t11)] [(2, bxStore s), (705, tAMatch ls)]) _ _
    refine x_seq ?_
    by_cases h1 : t11 < (s.Templates.length : Int)
    ·have hi : t11.toNat < s.Templates.length := by omega
     have hix : ((t11.toNat : Nat) : Int) = t11 := by omega
     have htm := (okStore_iff.1 hst).2.2 _ hi
     have hts : okFeats (at_ s.Templates t11.toNat).Feats 72 = true := by simp only [okTm, Bool.and_eq_true] at htm; exact htm.2
     have htn := okFeats_n hts
     have hfn := okFeats_n okf
     have hml : ls.length ≤ t11.toNat := by rw [hls]; exact mtS_len s feats _
     have hnx : (t11 + 1).toNat = t11.toNat + 1 := by omega
     refine x_r [(0, .dec true)] [1, 2, 5, 9, 10, 11, 12] [2, 705] [slFeat false feats, .ref 2 0, .arr 705, slTemplate false s.Templates, I (s.Templates.length : Int), I t11, Bv true] [some (bxStore s), some (tAMatch ls)] [t11 < (s.Templates.length : Int)] ⟨h1, trivial⟩ ?_
     refine xe_then ?_
     refine x_seq ?_
     refine x_true rfl ?_
     refine x_skip ?_
     refine xe_then ?_
     refine x_seq ?_
     refine x_block ?_
     refine xR [(3, .new 7)] [1, 2, 5, 6, 7, 9, 10, 11] [2, 7, 705] [slFeat false feats, .ref 2 0, .arr 705, I t11, .ref 7 0, slTemplate false s.Templates, I (s.Templates.length : Int), I t11] [some (bxStore s), some (bxTemplate (at_ s.Templates t11.toNat)), some (tAMatch ls)] [(0 : Int) ≤ t11 ∧ t11 < (s.Templates.length : Int)] ⟨⟨(by omega), (by omega)⟩, trivial⟩ ?_
     refine x_seq ?_
     rcases Bool.eq_false_or_eq_true (inB s.Band 0 72 && decide ((((feats.length : Int) - ((((at_ s.Templates t11.toNat).Feats).length) : Int)).natAbs : Int) ≤ s.Band)) with h2 | h2
     ·have hin : inS s feats t11.toNat = true := h2
      have hcv := mt_cv okf htm hin
      have hms := mt_y hin
      refine x_r [(7, .call [(true, .any), (true, .any), (true, .any)] true (Bv true))] [1, 2, 5, 6, 7, 9, 10, 11, 23] [2, 7, 705] [slFeat false feats, .ref 2 0, .arr 705, I t11, .ref 7 0, slTemplate false s.Templates, I (s.Templates.length : Int), I t11, Bv true] [some (bxStore s), some (bxTemplate (at_ s.Templates t11.toNat)), some (tAMatch ls)] [Con Tryz.prog 228 [I s.Band, I (feats.length : Int), I ((((at_ s.Templates t11.toNat).Feats).length) : Int)] true (Bv true) ∧ True] ⟨⟨(con_bool h2 (isBand_ok s.Band (feats.length : Int) ((((at_ s.Templates t11.toNat).Feats).length) : Int) (by omega) (by omega))), trivial⟩, trivial⟩ ?_
      refine xe_then ?_
      refine x_true rfl ?_
      obtain ⟨v_1, hx1_0, hc1⟩ := elastic_ok feats ((at_ s.Templates t11.toNat).Feats) s.Band (okAB_of okf hts) (by omega) (by omega)
      have hel : v_1 = (mtM s feats t11.toNat).Cost := hx1_0.trans hcv.2.2.1
      refine x_r [(7, .call [(true, .any), (true, .any), (true, .any)] true (I v_1)), (9, .new 33), (10, .new 34)] [1, 2, 5, 9, 10, 11] [2, 34] [slFeat false feats, .ref 2 0, .arr 34, slTemplate false s.Templates, I (s.Templates.length : Int), I t11] [some (bxStore s), some (.arr 2 (ls.length + 1) (catF ls.length (fMatch ls) (litF [I t11, I v_1] 2)))] [Con Tryz.prog 229 [slFeat false feats, slFeat false ((at_ s.Templates t11.toNat).Feats), I s.Band] true (I v_1) ∧ True, (ls.length + 1) * 16 ≤ 140737488355328] ⟨⟨hc1, trivial⟩, (by omega), trivial⟩ ?_
      refine xe_block 1 ?_
      refine xe_then ?_
      refine x_r [] [1, 2, 5, 9, 10, 11] [2, 34] [slFeat false feats, .ref 2 0, .arr 34, slTemplate false s.Templates, I (s.Templates.length : Int), I (t11 + 1)] [some (bxStore s), some (.arr 2 (ls.length + 1) (catF ls.length (fMatch ls) (litF [I t11, I v_1] 2)))] [inR .i64 (t11 + 1)] ⟨(inR_i64 (by omega) (by omega)), trivial⟩ ?_
      refine xe_weak [(705, 34)] (T := [(1, slFeat false feats), (2, .ref 2 0), (5, .arr 705), (9, slTemplate false s.Templates), (10, I (s.Templates.length : Int)), (11, I (t11 + 1))]) (O := [(2, bxStore s), (705, tAMatch (ls ++ [(Match.mk t11 v_1)]))]) rfl (⟨.inl rfl, .inl rfl, .inl rfl, .inl rfl, .inl rfl, .inl rfl, trivial⟩) (⟨.inl rfl, .inr ⟨rfl, (by first | rfl | (simp; done) | (simp; omega) | omega), fun i_ hi_ => .inl (cat_snoc (enc := cMatch) (xs := ls) rfl i_ hi_)⟩, trivial⟩) (xe_again ((ls ++ [(Match.mk t11 v_1)]), (t11 + 1)) rfl (show (0 ≤ (t11 + 1) ∧ (t11 + 1) ≤ (s.Templates.length : Int)) ∧ ((ls ++ [(Match.mk t11 v_1)]) = mtS s feats (t11 + 1).toNat) ∧ True from ⟨(by omega), (by (rw [hnx, hls, hms]; first | done | rfl | (rw [hel]; unfold mtM; rw [hix]))), trivial⟩) (by first | (show (((s.Templates.length : Int) - (t11 + 1)).toNat : Nat) < ((s.Templates.length : Int) - t11).toNat; omega) | (dsimp only; omega)))
     have hin : ¬ inS s feats t11.toNat = true := by unfold inS; rw [h2]; decide
     have hms := mt_n hin
     refine x_r [(7, .call [(true, .any), (true, .any), (true, .any)] true (Bv false))] [1, 2, 5, 6, 7, 9, 10, 11, 23] [2, 7, 705] [slFeat false feats, .ref 2 0, .arr 705, I t11, .ref 7 0, slTemplate false s.Templates, I (s.Templates.length : Int), I t11, Bv false] [some (bxStore s), some (bxTemplate (at_ s.Templates t11.toNat)), some (tAMatch ls)] [Con Tryz.prog 228 [I s.Band, I (feats.length : Int), I ((((at_ s.Templates t11.toNat).Feats).length) : Int)] true (Bv false) ∧ True] ⟨⟨(con_bool h2 (isBand_ok s.Band (feats.length : Int) ((((at_ s.Templates t11.toNat).Feats).length) : Int) (by omega) (by omega))), trivial⟩, trivial⟩ ?_
     refine xe_then ?_
     refine x_false rfl ?_
     refine x_skip ?_
     refine xe_block 1 ?_
     refine xe_then ?_
     refine x_r [] [1, 2, 5, 9, 10, 11] [2, 705] [slFeat false feats, .ref 2 0, .arr 705, slTemplate false s.Templates, I (s.Templates.length : Int), I (t11 + 1)] [some (bxStore s), some (tAMatch ls)] [inR .i64 (t11 + 1)] ⟨(inR_i64 (by omega) (by omega)), trivial⟩ ?_
     exact xe_again (ls, (t11 + 1)) rfl (show (0 ≤ (t11 + 1) ∧ (t11 + 1) ≤ (s.Templates.length : Int)) ∧ (ls = mtS s feats (t11 + 1).toNat) ∧ True from ⟨(by omega), (by (rw [hnx, hls, hms]; first | done | rfl | (rw [hel]; unfold mtM; rw [hix]))), trivial⟩) (by first | (show (((s.Templates.length : Int) - (t11 + 1)).toNat : Nat) < ((s.Templates.length : Int) - t11).toNat; omega) | (dsimp only; omega))
    have hie : t11.toNat = s.Templates.length := by omega
    refine x_r [(0, .dec false)] [1, 2, 5, 9, 10, 11, 12] [2, 705] [slFeat false feats, .ref 2 0, .arr 705, slTemplate false s.Templates, I (s.Templates.length : Int), I t11, Bv false] [some (bxStore s), some (tAMatch ls)] [¬ (t11 < (s.Templates.length : Int))] ⟨h1, trivial⟩ ?_
    refine xe_then ?_
    refine x_seq ?_
    refine x_false rfl ?_
    refine x_exit ?_
    refine xe_exit_then ?_
    refine xe_loop_exit ?_
    refine xe_exit_same ?_
    refine xe_then ?_
    refine xR [] [4] [705] [.arr 705] [some (tAMatch ls)] [] trivial ?_
    refine x_ret ?_
    refine xe_weak [(7211, 705)] (T := [(4, .arr 7211)]) (O := [(7211, tAMatch ls)]) rfl (⟨.inl rfl, trivial⟩) (⟨.inl rfl, trivial⟩) ?_
    refine xe_end ls (show (ls = mtS s feats s.Templates.length) ∧ (True) from ⟨(by (rw [hls, hie])), trivial⟩) (⟨.inl rfl, trivial⟩) (.arr 7211) (by kernel_rfl) (.inl rfl) (fun h => by cases h) (fun h => by cases h)
  obtain ⟨ms, ⟨hh0, _⟩, hc⟩ := hh
  exact ⟨ms, hh0, hc⟩



-- cmp.isNaN[int64]
theorem isNaNI_ok (x : Int) : Con Tryz.prog 231 [I x] true (Bv false) := by
  refine fn_ok (fn := Tryz.f231) (nt := 6) Tryz.func231 rfl rfl rfl rfl (by simp [taggedL, tagged]) fun B hB => ?_
  refine aR [] [0] [] [I x] [] [] hB trivial ?_
  refine aR [(2, .dec false)] [2] [] [Bv false] [] [¬ (x ≠ x)] hB ⟨(fun hq => hq rfl), trivial⟩ ?_
  refine aw_ret ?_
  refine ae_ret hB (Bv false) (by kernel_rfl) (.inl rfl) rfl (fun _ => trivial)



-- cmp.Compare[int64]
theorem CompareI_ok (x : Int) (y : Int) : Con Tryz.prog 191 [I x, I y] true (I (cmpI x y)) := by
  refine fn_ok (fn := Tryz.f191) (nt := 20) Tryz.func191 rfl rfl rfl rfl (by simp [taggedL, tagged]) fun B hB => ?_
  refine aR [] [0, 1] [] [I x, I y] [] [] hB trivial ?_
  refine aR [(1, .call [(true, .any)] true (Bv false))] [0, 1, 5] [] [I x, I y, Bv false] [] [Con Tryz.prog 231 [I x] true (Bv false) ∧ True] hB ⟨⟨(isNaNI_ok x), trivial⟩, trivial⟩ ?_
  refine aR [(1, .call [(true, .any)] true (Bv false))] [0, 1, 5, 6] [] [I x, I y, Bv false, Bv false] [] [Con Tryz.prog 231 [I y] true (Bv false) ∧ True] hB ⟨⟨(isNaNI_ok y), trivial⟩, trivial⟩ ?_
  refine aw_seq ?_
  refine aR [] [0, 1, 6, 11] [] [I x, I y, Bv false, Bv false] [] [] hB trivial ?_
  refine aw_false rfl ?_
  refine aw_skip ?_
  refine ae_then ?_
  refine aw_seq ?_
  refine aR [] [0, 1, 13] [] [I x, I y, Bv false] [] [] hB trivial ?_
  refine aw_false rfl ?_
  refine aw_skip ?_
  refine ae_then ?_
  refine aw_seq ?_
  refine aw_seq ?_
  by_cases h1 : x < y
  ·refine aw_r [(2, .dec true)] [0, 1, 16] [] [I x, I y, Bv true] [] [x < y] hB ⟨h1, trivial⟩ ?_
   refine ae_then ?_
   refine aw_true rfl ?_
   refine aR [] [4] [] [I (-1)] [] [] hB trivial ?_
   refine aw_ret ?_
   refine ae_ret_then ?_
   refine ae_ret hB (I (-1)) (by kernel_rfl) (.inl (by refine congrArg I ?_; unfold cmpI; first | (rw [if_pos (by omega)]; done) | (rw [if_neg (by omega), if_pos (by omega)]; done) | (rw [if_neg (by omega), if_neg (by omega)]; done))) rfl (fun _ => trivial)
  refine aw_r [(2, .dec false)] [0, 1, 16] [] [I x, I y, Bv false] [] [¬ (x < y)] hB ⟨h1, trivial⟩ ?_
  refine ae_then ?_
  refine aw_false rfl ?_
  refine aw_skip ?_
  refine ae_then ?_
  refine aw_seq ?_
  refine aw_seq ?_
  by_cases h2 : y < x
  ·refine aw_r [(2, .dec true)] [19] [] [Bv true] [] [y < x] hB ⟨h2, trivial⟩ ?_
   refine ae_then ?_
   refine aw_true rfl ?_
   refine aR [] [4] [] [I 1] [] [] hB trivial ?_
   refine aw_ret ?_
   refine ae_ret_then ?_
   refine ae_ret hB (I 1) (by kernel_rfl) (.inl (by refine congrArg I ?_; unfold cmpI; first | (rw [if_pos (by omega)]; done) | (rw [if_neg (by omega), if_pos (by omega)]; done) | (rw [if_neg (by omega), if_neg (by omega)]; done))) rfl (fun _ => trivial)
  refine aw_r [(2, .dec false)] [19] [] [Bv false] [] [¬ (y < x)] hB ⟨h2, trivial⟩ ?_
  refine ae_then ?_
  refine aw_false rfl ?_
  refine aw_skip ?_
  refine ae_then ?_
  refine aR [] [4] [] [I 0] [] [] hB trivial ?_
  refine aw_ret ?_
  refine ae_ret hB (I 0) (by kernel_rfl) (.inl (by refine congrArg I ?_; unfold cmpI; first | (rw [if_pos (by omega)]; done) | (rw [if_neg (by omega), if_pos (by omega)]; done) | (rw [if_neg (by omega), if_neg (by omega)]; done))) rfl (fun _ => trivial)



-- impl.nearest$1
theorem nearest1_ok (a : Match) (b : Match) : Con Tryz.prog 190 [agMatch a, agMatch b] true (I (cmpM a b)) := by
  refine fn_ok (fn := Tryz.f190) (nt := 10) Tryz.func190 rfl rfl rfl rfl (by simp [taggedL, tagged]) fun B hB => ?_
  refine aR [(0, .new 2), (1, .new 3)] [2, 3] [2, 3] [.ref 2 0, .ref 3 0] [some (bxMatch a), some (bxMatch b)] [] hB trivial ?_
  refine aR [(4, .call [(true, .any), (true, .any)] true (I (cmpI a.Cost b.Cost)))] [4] [] [I (cmpI a.Cost b.Cost)] [] [Con Tryz.prog 191 [I a.Cost, I b.Cost] true (I (cmpI a.Cost b.Cost)) ∧ True] hB ⟨⟨(CompareI_ok a.Cost b.Cost), trivial⟩, trivial⟩ ?_
  refine aw_ret ?_
  refine ae_ret hB (I (cmpI a.Cost b.Cost)) (by kernel_rfl) (.inl (by first | rfl | (refine congrArg Bv ?_; simp [*]; done) | (refine congrArg Bv ?_; simp [*]; omega) | (refine congrArg Bv ?_; simp_all []; done) | (refine congrArg Bv ?_; simp_all []; omega))) rfl (fun _ => trivial)



-- impl.nearest
theorem stMins_ok (data : List Match) (a : Int) (b : Int) (hb : a = 0 ∧ b = (data.length : Int)) (hl : data.length < 20) : ∃ (data' : List Match), (data' = isoL cmpM data data.length) ∧ CallOK Tryz.prog 267 [.arr 7211, I a, I b, .fn 190 []] (lookO [(7211, tAMatch data)]) true (.tup []) (lookO [(7211, tAMatch data')]) := by
  have hh : ∃ r : (List Match), ((r = isoL cmpM data data.length) ∧ (True)) ∧ CallOK Tryz.prog 267 [.arr 7211, I a, I b, .fn 190 []] (lookO [(7211, tAMatch data)]) true (.tup []) (lookO [(7211, tAMatch r)]) := by
    refine fn_okX (Φ := fun r : (List Match) => (r = isoL cmpM data data.length) ∧ (True)) [(7211, tAMatch data)] (fun r => [(7211, tAMatch r)]) (fn := Tryz.f267) (nt := 53) Tryz.func267 rfl rfl (args := [.arr 7211, I a, I b, .fn 190 []]) rfl (allcons (.inr trivial) (allcons (.inl ⟨rfl, trivial⟩) (allcons (.inl ⟨rfl, trivial⟩) (allcons (.inl ⟨rfl, trivial⟩) allnil)))) (res := fun r => .tup []) ?_
    refine xR [] [0, 1, 2, 3, 8] [7211] [.arr 7211, I a, I b, .fn 190 [], I (a + 1)] [some (tAMatch data)] [inR .i64 (a + 1)] ⟨(inR_i64 (by omega) (by omega)), trivial⟩ ?_
    refine x_block ?_
    refine x_loop (X := Int × (List Match)) (fun x => mkS [(0, .arr 7211), (1, I a), (2, I b), (3, .fn 190 []), (8, I x.1)] [(7211, tAMatch x.2)]) (fun x => (1 ≤ x.1 ∧ (x.1 ≤ (data.length : Int) ∨ x.1 = 1)) ∧ (x.2 = isoL cmpM data (min x.1.toNat data.length) ++ data.drop x.1.toNat) ∧ True) (fun x => ((data.length : Int) - x.1).toNat) ((a + 1), data) rfl (show (1 ≤ (a + 1) ∧ ((a + 1) ≤ (data.length : Int) ∨ (a + 1) = 1)) ∧ (data = isoL cmpM data (min (a + 1).toNat data.length) ++ data.drop (a + 1).toNat) ∧ True from ⟨(by omega), (by first | exact iso_start _ _ | (rw [show (a + 1).toNat = 1 from by omega]; exact iso_start _ _)), trivial⟩) (fun x hI => ?_)
    obtain ⟨i, ys⟩ := x
    obtain ⟨hi0, hys, _⟩ : (1 ≤ i ∧ (i ≤ (data.length : Int) ∨ i = 1)) ∧ (ys = isoL cmpM data (min i.toNat data.length) ++ data.drop i.toNat) ∧ True := hI
    show XW _ _ _ _ (mkS [(0, .arr 7211), (1, I a), (2, I b), (3, .fn 190 []), (8, I i)] [(7211, tAMatch ys)]) _ _
    refine x_seq ?_
    refine x_seq ?_
    by_cases h1 : i < b
    ·have hi : i.toNat < data.length := by omega
     have hmi : min i.toNat data.length = i.toNat := by omega
     rw [hmi, iso_in hi] at hys
     have hpl := isoL_len cmpM data i.toNat
     have hyl : ys.length = data.length := by rw [hys, List.length_append, shf_len (by omega), List.length_drop, hpl]; omega
     refine x_r [(2, .dec true)] [0, 1, 2, 3, 8, 14] [7211] [.arr 7211, I a, I b, .fn 190 [], I i, Bv true] [some (tAMatch ys)] [i < b] ⟨h1, trivial⟩ ?_
     refine xe_then ?_
     refine x_true rfl ?_
     refine x_skip ?_
     refine xe_then ?_
     refine x_seq ?_
     refine x_block ?_
     refine xR [] [0, 1, 2, 3, 8, 9] [7211] [.arr 7211, I a, I b, .fn 190 [], I i, I i] [some (tAMatch ys)] [] trivial ?_
     refine x_block ?_
     refine x_loop (X := Int × (List Match)) (fun x => mkS [(0, .arr 7211), (1, I a), (2, I b), (3, .fn 190 []), (8, I i), (9, I x.1)] [(7211, tAMatch x.2)]) (fun x => (0 ≤ x.1 ∧ x.1 ≤ i) ∧ (x.2 = shfL (isoL cmpM data i.toNat) (at_ data i.toNat) x.1.toNat ++ data.drop (i.toNat + 1)) ∧ (∀ k : Nat, x.1 ≤ (k : Int) → (k : Int) < i → cmpM (at_ data i.toNat) (at_ (isoL cmpM data i.toNat) k) < 0) ∧ True) (fun x => x.1.toNat) (i, ys) rfl (show (0 ≤ i ∧ i ≤ i) ∧ (ys = shfL (isoL cmpM data i.toNat) (at_ data i.toNat) i.toNat ++ data.drop (i.toNat + 1)) ∧ (∀ k : Nat, i ≤ (k : Int) → (k : Int) < i → cmpM (at_ data i.toNat) (at_ (isoL cmpM data i.toNat) k) < 0) ∧ True from ⟨(by omega), (by first | exact hys | (rw [hys]; done)), (by intro k h1 h2; omega), trivial⟩) (fun x hI => ?_)
     obtain ⟨j, ys'⟩ := x
     obtain ⟨hj0, hin, hgt, _⟩ : (0 ≤ j ∧ j ≤ i) ∧ (ys' = shfL (isoL cmpM data i.toNat) (at_ data i.toNat) j.toNat ++ data.drop (i.toNat + 1)) ∧ (∀ k : Nat, j ≤ (k : Int) → (k : Int) < i → cmpM (at_ data i.toNat) (at_ (isoL cmpM data i.toNat) k) < 0) ∧ True := hI
     show XW _ _ _ _ (mkS [(0, .arr 7211), (1, I a), (2, I b), (3, .fn 190 []), (8, I i), (9, I j)] [(7211, tAMatch ys')]) _ _
     refine x_seq ?_
     refine x_seq ?_
     by_cases h2 : a < j
     ·have hyl' : ys'.length = data.length := by rw [hin, List.length_append, shf_len (by omega), List.length_drop, hpl]; omega
      have e1 : at_ ys' j.toNat = (at_ data i.toNat) := by rw [hin]; exact shf_at (by omega)
      have e2 : at_ ys' (j - 1).toNat = at_ (isoL cmpM data i.toNat) (j.toNat - 1) := by rw [hin, shf_below (by omega) (by omega)]; congr 1; omega
      by_cases h3 : (cmpM (at_ ys' j.toNat) (at_ ys' ((j - 1).toNat))) < 0
      ·have hq := h3
       rw [e1, e2] at hq
       have hst : (ys'.set j.toNat (at_ ys' (j - 1).toNat)).set (j - 1).toNat (at_ ys' j.toNat) = shfL (isoL cmpM data i.toNat) (at_ data i.toNat) (j - 1).toNat ++ data.drop (i.toNat + 1) := by have q := shf_step (p := (isoL cmpM data i.toNat)) (x := (at_ data i.toNat)) (r := data.drop (i.toNat + 1)) (j := (j - 1).toNat) (by omega); rw [show (j - 1).toNat + 1 = j.toNat from by omega] at q; rw [e1, e2, hin, ← q, show j.toNat - 1 = (j - 1).toNat from by omega]
       have hgn : ∀ k : Nat, j - 1 ≤ (k : Int) → (k : Int) < i → cmpM (at_ data i.toNat) (at_ (isoL cmpM data i.toNat) k) < 0 := fun k h1 h2 => by by_cases e : (k : Int) = j - 1; (rw [show k = j.toNat - 1 from by omega]; exact hq); exact hgt k (by omega) h2
       refine x_r [(2, .dec true), (14, .call [(true, .any), (true, .any)] true (I (cmpM (at_ ys' j.toNat) (at_ ys' ((j - 1).toNat))))), (15, .dec true)] [0, 1, 2, 3, 8, 9, 34] [7211] [.arr 7211, I a, I b, .fn 190 [], I i, I j, Bv true] [some (tAMatch ys')] [a < j, (0 : Int) ≤ j ∧ j < (ys'.length : Int), j.toNat < ys'.length, inR .i64 (j - 1), (0 : Int) ≤ (j - 1) ∧ (j - 1) < (ys'.length : Int), (j - 1).toNat < ys'.length, Con Tryz.prog 190 [agMatch (at_ ys' j.toNat), agMatch (at_ ys' ((j - 1).toNat))] true (I (cmpM (at_ ys' j.toNat) (at_ ys' ((j - 1).toNat)))) ∧ True, (cmpM (at_ ys' j.toNat) (at_ ys' ((j - 1).toNat))) < 0] ⟨h2, ⟨(by omega), (by omega)⟩, (by omega), (inR_i64 (by omega) (by omega)), ⟨(by omega), (by omega)⟩, (by omega), ⟨(nearest1_ok (at_ ys' j.toNat) (at_ ys' ((j - 1).toNat))), trivial⟩, h3, trivial⟩ ?_
       refine xe_then ?_
       refine x_true rfl ?_
       refine x_skip ?_
       refine xe_then ?_
       refine x_seq ?_
       refine x_block ?_
       refine x_r [] [0, 1, 2, 3, 8, 9] [7211] [.arr 7211, I a, I b, .fn 190 [], I i, I j] [some (.arr 2 ys'.length (fun q => bif Nat.beq q ((j - 1).toNat) then spl ((fun q => bif Nat.beq q j.toNat then [I ((at_ ys' ((j - 1).toNat)).Index), I ((at_ ys' ((j - 1).toNat)).Cost)] else (fMatch ys') q) ((j - 1).toNat)) 0 [I ((at_ ys' j.toNat).Index), I ((at_ ys' j.toNat).Cost)] else (fun q => bif Nat.beq q j.toNat then [I ((at_ ys' ((j - 1).toNat)).Index), I ((at_ ys' ((j - 1).toNat)).Cost)] else (fMatch ys') q) q))] [inR .i64 (j - 1), inR .i64 (j - 1), (0 : Int) ≤ (j - 1) ∧ (j - 1) < (ys'.length : Int), (j - 1).toNat < ys'.length, (0 : Int) ≤ j ∧ j < (ys'.length : Int), j.toNat < ys'.length, (0 : Int) ≤ j ∧ j < (ys'.length : Int), j.toNat < ys'.length, (0 : Int) ≤ (j - 1) ∧ (j - 1) < (ys'.length : Int), (j - 1).toNat < ys'.length] ⟨(inR_i64 (by omega) (by omega)), (inR_i64 (by omega) (by omega)), ⟨(by omega), (by omega)⟩, (by omega), ⟨(by omega), (by omega)⟩, (by omega), ⟨(by omega), (by omega)⟩, (by omega), ⟨(by omega), (by omega)⟩, (by omega), trivial⟩ ?_
       refine xe_block 3 ?_
       refine xe_then ?_
       refine x_r [] [0, 1, 2, 3, 8, 9] [7211] [.arr 7211, I a, I b, .fn 190 [], I i, I (j - 1)] [some (.arr 2 ys'.length (fun q => bif Nat.beq q ((j - 1).toNat) then spl ((fun q => bif Nat.beq q j.toNat then [I ((at_ ys' ((j - 1).toNat)).Index), I ((at_ ys' ((j - 1).toNat)).Cost)] else (fMatch ys') q) ((j - 1).toNat)) 0 [I ((at_ ys' j.toNat).Index), I ((at_ ys' j.toNat).Cost)] else (fun q => bif Nat.beq q j.toNat then [I ((at_ ys' ((j - 1).toNat)).Index), I ((at_ ys' ((j - 1).toNat)).Cost)] else (fMatch ys') q) q))] [inR .i64 (j - 1)] ⟨(inR_i64 (by omega) (by omega)), trivial⟩ ?_
       refine xe_weak [] (T := [(0, .arr 7211), (1, I a), (2, I b), (3, .fn 190 []), (8, I i), (9, I (j - 1))]) (O := [(7211, tAMatch ((ys'.set j.toNat (at_ ys' ((j - 1).toNat))).set ((j - 1).toNat) (at_ ys' j.toNat)))]) rfl (⟨.inl rfl, .inl rfl, .inl rfl, .inl rfl, .inl rfl, .inl rfl, trivial⟩) (⟨.inr ⟨rfl, (by first | rfl | (simp; done) | (simp; omega) | omega), fun i_ hi_ => .inl (upd_spl (enc := cMatch) (fun i_ hi_ => (upd_enc (enc := cMatch) rfl i_ hi_)) ((by first | omega | (simp only [List.length_set]; omega))) rfl i_ hi_)⟩, trivial⟩) (xe_again ((j - 1), ((ys'.set j.toNat (at_ ys' ((j - 1).toNat))).set ((j - 1).toNat) (at_ ys' j.toNat))) rfl (show (0 ≤ (j - 1) ∧ (j - 1) ≤ i) ∧ (((ys'.set j.toNat (at_ ys' ((j - 1).toNat))).set ((j - 1).toNat) (at_ ys' j.toNat)) = shfL (isoL cmpM data i.toNat) (at_ data i.toNat) (j - 1).toNat ++ data.drop (i.toNat + 1)) ∧ (∀ k : Nat, (j - 1) ≤ (k : Int) → (k : Int) < i → cmpM (at_ data i.toNat) (at_ (isoL cmpM data i.toNat) k) < 0) ∧ True from ⟨(by omega), (by exact hst), (by exact hgn), trivial⟩) (by first | (show ((j - 1).toNat : Nat) < j.toNat; omega) | (dsimp only; omega)))
      have hq := h3
      rw [e1, e2] at hq
      have hio := iso_out (c := cmpM) (xs := data) (i := i.toNat) (j := j.toNat) (by omega) (fun k h1 h2 => hgt k (by omega) (by omega)) (Or.inr hq)
      rw [hio] at hin
      refine x_r [(2, .dec true), (14, .call [(true, .any), (true, .any)] true (I (cmpM (at_ ys' j.toNat) (at_ ys' ((j - 1).toNat))))), (15, .dec false)] [0, 1, 2, 3, 8, 9, 34] [7211] [.arr 7211, I a, I b, .fn 190 [], I i, I j, Bv false] [some (tAMatch ys')] [a < j, (0 : Int) ≤ j ∧ j < (ys'.length : Int), j.toNat < ys'.length, inR .i64 (j - 1), (0 : Int) ≤ (j - 1) ∧ (j - 1) < (ys'.length : Int), (j - 1).toNat < ys'.length, Con Tryz.prog 190 [agMatch (at_ ys' j.toNat), agMatch (at_ ys' ((j - 1).toNat))] true (I (cmpM (at_ ys' j.toNat) (at_ ys' ((j - 1).toNat)))) ∧ True, ¬ ((cmpM (at_ ys' j.toNat) (at_ ys' ((j - 1).toNat))) < 0)] ⟨h2, ⟨(by omega), (by omega)⟩, (by omega), (inR_i64 (by omega) (by omega)), ⟨(by omega), (by omega)⟩, (by omega), ⟨(nearest1_ok (at_ ys' j.toNat) (at_ ys' ((j - 1).toNat))), trivial⟩, h3, trivial⟩ ?_
      refine xe_then ?_
      refine x_false rfl ?_
      refine x_exit ?_
      refine xe_exit_then ?_
      refine xe_loop_exit ?_
      refine xe_exit_same ?_
      refine xe_block 1 ?_
      refine xe_then ?_
      refine x_r [] [0, 1, 2, 3, 8] [7211] [.arr 7211, I a, I b, .fn 190 [], I (i + 1)] [some (tAMatch ys')] [inR .i64 (i + 1)] ⟨(inR_i64 (by omega) (by omega)), trivial⟩ ?_
      exact xe_again ((i + 1), ys') rfl (show (1 ≤ (i + 1) ∧ ((i + 1) ≤ (data.length : Int) ∨ (i + 1) = 1)) ∧ (ys' = isoL cmpM data (min (i + 1).toNat data.length) ++ data.drop (i + 1).toNat) ∧ True from ⟨(by omega), (by rw [hin, show (i + 1).toNat = i.toNat + 1 from by omega, show min (i.toNat + 1) data.length = i.toNat + 1 from by omega]), trivial⟩) (by first | (show (((data.length : Int) - (i + 1)).toNat : Nat) < ((data.length : Int) - i).toNat; omega) | (dsimp only; omega))
     have hio := iso_out (c := cmpM) (xs := data) (i := i.toNat) (j := j.toNat) (by omega) (fun k h1 h2 => hgt k (by omega) (by omega)) (Or.inl (by omega))
     rw [hio] at hin
     refine x_r [(2, .dec false)] [0, 1, 2, 3, 8, 9, 34] [7211] [.arr 7211, I a, I b, .fn 190 [], I i, I j, Bv false] [some (tAMatch ys')] [¬ (a < j)] ⟨h2, trivial⟩ ?_
     refine xe_then ?_
     refine x_false rfl ?_
     refine x_exit ?_
     refine xe_exit_then ?_
     refine xe_loop_exit ?_
     refine xe_exit_same ?_
     refine xe_block 1 ?_
     refine xe_then ?_
     refine x_r [] [0, 1, 2, 3, 8] [7211] [.arr 7211, I a, I b, .fn 190 [], I (i + 1)] [some (tAMatch ys')] [inR .i64 (i + 1)] ⟨(inR_i64 (by omega) (by omega)), trivial⟩ ?_
     exact xe_again ((i + 1), ys') rfl (show (1 ≤ (i + 1) ∧ ((i + 1) ≤ (data.length : Int) ∨ (i + 1) = 1)) ∧ (ys' = isoL cmpM data (min (i + 1).toNat data.length) ++ data.drop (i + 1).toNat) ∧ True from ⟨(by omega), (by rw [hin, show (i + 1).toNat = i.toNat + 1 from by omega, show min (i.toNat + 1) data.length = i.toNat + 1 from by omega]), trivial⟩) (by first | (show (((data.length : Int) - (i + 1)).toNat : Nat) < ((data.length : Int) - i).toNat; omega) | (dsimp only; omega))
    have hyf : ys = isoL cmpM data data.length := by rw [hys, show min i.toNat data.length = data.length from by omega, List.drop_eq_nil_of_le (by omega), List.append_nil]
    refine x_r [(2, .dec false)] [0, 1, 2, 3, 8, 14] [7211] [.arr 7211, I a, I b, .fn 190 [], I i, Bv false] [some (tAMatch ys)] [¬ (i < b)] ⟨h1, trivial⟩ ?_
    refine xe_then ?_
    refine x_false rfl ?_
    refine x_exit ?_
    refine xe_exit_then ?_
    refine xe_loop_exit ?_
    refine xe_exit_same ?_
    refine xe_norm ys (show (ys = isoL cmpM data data.length) ∧ (True) from ⟨(by exact hyf), trivial⟩) (⟨.inl rfl, trivial⟩) (.tup []) (by kernel_rfl) (.inl rfl) (fun _ => rfl) (fun _ => (by simp [tagged, taggedL]))
  obtain ⟨data', ⟨hh0, _⟩, hc⟩ := hh
  exact ⟨data', hh0, hc⟩

theorem stMstb_ok (data : List Match) (n : Int) (hb : n = (data.length : Int)) (hl : data.length < 20) : ∃ (data' : List Match), (data' = isoL cmpM data data.length) ∧ CallOK Tryz.prog 230 [.arr 7211, I n, .fn 190 []] (lookO [(7211, tAMatch data)]) true (.tup []) (lookO [(7211, tAMatch data')]) := by
  have hh : ∃ r : (List Match), ((r = isoL cmpM data data.length) ∧ (True)) ∧ CallOK Tryz.prog 230 [.arr 7211, I n, .fn 190 []] (lookO [(7211, tAMatch data)]) true (.tup []) (lookO [(7211, tAMatch r)]) := by
    refine fn_okX (Φ := fun r : (List Match) => (r = isoL cmpM data data.length) ∧ (True)) [(7211, tAMatch data)] (fun r => [(7211, tAMatch r)]) (fn := Tryz.f230) (nt := 63) Tryz.func230 rfl rfl (args := [.arr 7211, I n, .fn 190 []]) rfl (allcons (.inr trivial) (allcons (.inl ⟨rfl, trivial⟩) (allcons (.inl ⟨rfl, trivial⟩) allnil))) (res := fun r => .tup []) ?_
    refine xR [] [0, 1, 2, 6] [7211] [.arr 7211, I n, .fn 190 [], I 20] [some (tAMatch data)] [] trivial ?_
    refine xR [] [0, 1, 2, 6, 7, 8] [7211] [.arr 7211, I n, .fn 190 [], I 20, I 0, I 20] [some (tAMatch data)] [] trivial ?_
    refine x_seq ?_
    refine x_block ?_
    refine x_loop (X := Int × Int × (List Match)) (fun x => mkS [(0, .arr 7211), (1, I n), (2, .fn 190 []), (6, I 20), (7, I x.1), (8, I x.2.1)] [(7211, tAMatch x.2.2)]) (fun x => (x.1 = 0 ∧ x.2.1 = 20) ∧ (x.2.2 = data) ∧ True) (fun x => (0 : Nat)) (0, 20, data) rfl (show ((0 : Int) = 0 ∧ (20 : Int) = 20) ∧ (data = data) ∧ True from ⟨(by omega), (by rfl), trivial⟩) (fun x hI => ?_)
    obtain ⟨a, b, ys⟩ := x
    obtain ⟨hab, hyd, _⟩ : (a = 0 ∧ b = 20) ∧ (ys = data) ∧ True := hI
    show XW _ _ _ _ (mkS [(0, .arr 7211), (1, I n), (2, .fn 190 []), (6, I 20), (7, I a), (8, I b)] [(7211, tAMatch ys)]) _ _
    refine x_seq ?_
    refine xR [(2, .dec false)] [0, 1, 2, 6, 7, 8, 13] [7211] [.arr 7211, I n, .fn 190 [], I 20, I a, I b, Bv false] [some (tAMatch ys)] [¬ (b ≤ n)] ⟨(by omega), trivial⟩ ?_
    refine x_false rfl ?_
    refine x_exit ?_
    refine xe_exit_then ?_
    refine xe_loop_exit ?_
    refine xe_exit_same ?_
    refine xe_then ?_
    refine x_seq ?_
    obtain ⟨data'_1, hx1_0, hc1⟩ := stMins_ok ys a n (by first | omega | (subst_vars; omega)) (by first | omega | (subst_vars; omega))
    refine x_r [(4, .lend [(7211, tAMatch ys, tAMatch data'_1)] [] [(true, .any), (true, .any), (true, .any), (true, .any)] true (.tup []))] [0, 1, 2, 6] [7211] [.arr 7211, I n, .fn 190 [], I 20] [some (tAMatch data'_1)] [CallOK Tryz.prog 267 [.arr 7211, I a, I n, .fn 190 []] (lookO [(7211, tAMatch ys)]) true (.tup []) (lookO [(7211, tAMatch data'_1)]) ∧ (((tAMatch ys : Ob) = tAMatch ys ∨ obLe noOb true (tAMatch ys) (tAMatch ys)) ∧ taggedO false (tAMatch ys)) ∧ True] ⟨⟨hc1, ⟨.inl rfl, fun _ _ => tagcMatch false _⟩, trivial⟩, trivial⟩ ?_
    refine xe_then ?_
    refine x_block ?_
    refine x_loop (X := Int) (fun x => mkS [(0, .arr 7211), (1, I n), (2, .fn 190 []), (6, I x)] [(7211, tAMatch data'_1)]) (fun x => (x = 20) ∧ True) (fun x => (0 : Nat)) 20 rfl (show ((20 : Int) = 20) ∧ True from ⟨(by first | rfl | omega), trivial⟩) (fun x hI => ?_)
    obtain ⟨blockSize, hxx⟩ : ∃ blockSize : Int, blockSize = x := ⟨x, rfl⟩
    subst hxx
    obtain ⟨hbs, _⟩ : (blockSize = 20) ∧ True := hI
    show XW _ _ _ _ (mkS [(0, .arr 7211), (1, I n), (2, .fn 190 []), (6, I blockSize)] [(7211, tAMatch data'_1)]) _ _
    refine x_seq ?_
    refine xR [(2, .dec false)] [0, 1, 2, 6, 30] [7211] [.arr 7211, I n, .fn 190 [], I blockSize, Bv false] [some (tAMatch data'_1)] [¬ (blockSize < n)] ⟨(by omega), trivial⟩ ?_
    refine x_false rfl ?_
    refine x_exit ?_
    refine xe_exit_then ?_
    refine xe_loop_exit ?_
    refine xe_exit_same ?_
    refine xe_norm data'_1 (show (data'_1 = isoL cmpM data data.length) ∧ (True) from ⟨(by first | assumption | (rw [hx1_0, hyd])), trivial⟩) (⟨.inl rfl, trivial⟩) (.tup []) (by kernel_rfl) (.inl rfl) (fun _ => rfl) (fun _ => (by simp [tagged, taggedL]))
  obtain ⟨data', ⟨hh0, _⟩, hc⟩ := hh
  exact ⟨data', hh0, hc⟩

theorem stMsort_ok (data : List Match) (hl : data.length < 20) : ∃ (data' : List Match), (data' = isoL cmpM data data.length) ∧ CallOK Tryz.prog 189 [.arr 7211, .fn 190 []] (lookO [(7211, tAMatch data)]) true (.tup []) (lookO [(7211, tAMatch data')]) := by
  have hh : ∃ r : (List Match), ((r = isoL cmpM data data.length) ∧ (True)) ∧ CallOK Tryz.prog 189 [.arr 7211, .fn 190 []] (lookO [(7211, tAMatch data)]) true (.tup []) (lookO [(7211, tAMatch r)]) := by
    refine fn_okX (Φ := fun r : (List Match) => (r = isoL cmpM data data.length) ∧ (True)) [(7211, tAMatch data)] (fun r => [(7211, tAMatch r)]) (fn := Tryz.f189) (nt := 9) Tryz.func189 rfl rfl (args := [.arr 7211, .fn 190 []]) rfl (allcons (.inr trivial) (allcons (.inl ⟨rfl, trivial⟩) allnil)) (res := fun r => .tup []) ?_
    obtain ⟨data'_1, hx1_0, hc1⟩ := stMstb_ok data (data.length : Int) (by first | rfl | omega) (by omega)
    refine x_r [(4, .lend [(7211, tAMatch data, tAMatch data'_1)] [] [(true, .any), (true, .any), (true, .any)] true (.tup []))] [] [7211] [] [some (tAMatch data'_1)] [CallOK Tryz.prog 230 [.arr 7211, I (data.length : Int), .fn 190 []] (lookO [(7211, tAMatch data)]) true (.tup []) (lookO [(7211, tAMatch data'_1)]) ∧ (((tAMatch data : Ob) = tAMatch data ∨ obLe noOb true (tAMatch data) (tAMatch data)) ∧ taggedO false (tAMatch data)) ∧ True] ⟨⟨hc1, ⟨.inl rfl, fun _ _ => tagcMatch false _⟩, trivial⟩, trivial⟩ ?_
    refine xe_norm data'_1 (show (data'_1 = isoL cmpM data data.length) ∧ (True) from ⟨(by first | assumption | omega), trivial⟩) (⟨.inl rfl, trivial⟩) (.tup []) (by kernel_rfl) (.inl rfl) (fun _ => rfl) (fun _ => (by simp [tagged, taggedL]))
  obtain ⟨data', ⟨hh0, _⟩, hc⟩ := hh
  exact ⟨data', hh0, hc⟩

theorem nearest_ok (s : Store) (feats : List Feat) (k : Int) (hst : okStore' s = true) (okf : okFeats feats 72 = true) (h18 : s.Templates.length ≤ 18) (hk : 1 ≤ k ∧ k ≤ 40) : ∃ (v : List Match), (v = nsL s feats k) ∧ Con Tryz.prog 117 [agStore s, slFeat false feats, I k] true (slMatch true v) := by
  have hh : ∃ r : (List Match), ((r = nsL s feats k) ∧ (True)) ∧ CallOK Tryz.prog 117 [agStore s, slFeat false feats, I k] (lookO []) true (slMatch true r) (lookO []) := by
    refine fn_okX (Φ := fun r : (List Match) => (r = nsL s feats k) ∧ (True)) [] (fun r => []) (fn := Tryz.f117) (nt := 19) Tryz.func117 rfl rfl (args := [agStore s, slFeat false feats, I k]) rfl (allcons (.inl ⟨rfl, by simp [tagged, taggedL, tagTemplate]⟩) (allcons (.inl ⟨rfl, tagFeat false _⟩) (allcons (.inl ⟨rfl, trivial⟩) allnil))) (res := fun r => slMatch true r) ?_
    refine xR [(0, .new 3)] [1, 2, 3] [3] [slFeat false feats, I k, .ref 3 0] [some (bxStore s)] [] trivial ?_
    refine x_seq ?_
    obtain ⟨ms_1, hx1_0, hc1⟩ := matchesOf_ok s feats hst okf h18
    have hml := mtS_len s feats s.Templates.length
    rw [← hx1_0] at hml
    have hms0 := hx1_0
    refine x_r [(2, .lend [] [(7211, tAMatch ms_1)] [(true, .any), (true, .any)] false (.arr 7211))] [2, 7] [7211] [I k, .arr 7211] [some (tAMatch ms_1)] [CallOK Tryz.prog 188 [agStore s, slFeat false feats] (lookO []) false (.arr 7211) (lookO [(7211, tAMatch ms_1)]) ∧ True] ⟨⟨hc1, trivial⟩, trivial⟩ ?_
    refine xe_then ?_
    refine x_seq ?_
    obtain ⟨data'_2, hx2_0, hc2⟩ := stMsort_ok ms_1 (by omega)
    have hsl : data'_2.length = ms_1.length := by rw [hx2_0, isoL_len]
    refine x_r [(1, .lend [(7211, tAMatch ms_1, tAMatch data'_2)] [] [(true, .any), (true, .any)] true (.tup []))] [2, 7] [7211] [I k, .arr 7211] [some (tAMatch data'_2)] [CallOK Tryz.prog 189 [.arr 7211, .fn 190 []] (lookO [(7211, tAMatch ms_1)]) true (.tup []) (lookO [(7211, tAMatch data'_2)]) ∧ (((tAMatch ms_1 : Ob) = tAMatch ms_1 ∨ obLe noOb true (tAMatch ms_1) (tAMatch ms_1)) ∧ taggedO false (tAMatch ms_1)) ∧ True] ⟨⟨hc2, ⟨.inl rfl, fun _ _ => tagcMatch false _⟩, trivial⟩, trivial⟩ ?_
    refine xe_then ?_
    refine xR [] [6] [] [.sl true 2 ((min k (data'_2.length : Int)).toNat - 0) (cutF 0 (fMatch data'_2))] [] [(0 : Int) ≤ 0 ∧ (0 : Int) ≤ (min k (data'_2.length : Int)) ∧ (min k (data'_2.length : Int)) ≤ (data'_2.length : Int)] ⟨⟨(by omega), (by omega), (by omega)⟩, trivial⟩ ?_
    refine x_ret ?_
    refine xe_end (data'_2.take ((min k (data'_2.length : Int)).toNat)) (show ((data'_2.take ((min k (data'_2.length : Int)).toNat)) = nsL s feats k) ∧ (True) from ⟨(by (unfold nsL; simp only [← hms0]; rw [hx2_0, isoL_len])), trivial⟩) (trivial) (.sl true 2 ((min k (data'_2.length : Int)).toNat - 0) (cutF 0 (fMatch data'_2))) (by kernel_rfl) (.inr ⟨(fun _ => rfl), rfl, (by first | rfl | (simp; done) | (simp; omega) | omega), fun i_ hi_ => .inl (cut_take (enc := cMatch) hi_)⟩) (fun _ => rfl) (fun _ => (tagMatch true _))
  obtain ⟨v, ⟨hh0, _⟩, hc⟩ := hh
  exact ⟨v, hh0, hc⟩



-- impl.Nearest
theorem Nearest_ok (s : Store) (feats : List Feat) (k : Int) (hst : okStore' s = true) (okf : okFeats feats 72 = true) (h18 : s.Templates.length ≤ 18) (hk : 1 ≤ k ∧ k ≤ 40) (oks_ : okStore s) : ∃ (v : List Match) (c : Int), (v = nsL s feats k) ∧ (c = 0) ∧ Con Tryz.prog 49 [agStore s, slFeat false feats, I k] true (.tup [slMatch true v, I c]) := by
  have hh : ∃ r : (List Match) × Int, ((r.1 = nsL s feats k) ∧ (r.2 = 0) ∧ (True)) ∧ CallOK Tryz.prog 49 [agStore s, slFeat false feats, I k] (lookO []) true (.tup [slMatch true r.1, I r.2]) (lookO []) := by
    refine fn_okX (Φ := fun r : (List Match) × Int => (r.1 = nsL s feats k) ∧ (r.2 = 0) ∧ (True)) [] (fun r => []) (fn := Tryz.f49) (nt := 23) Tryz.func49 rfl rfl (args := [agStore s, slFeat false feats, I k]) rfl (allcons (.inl ⟨rfl, by simp [tagged, taggedL, tagTemplate]⟩) (allcons (.inl ⟨rfl, tagFeat false _⟩) (allcons (.inl ⟨rfl, trivial⟩) allnil))) (res := fun r => .tup [slMatch true r.1, I r.2]) ?_
    refine xR [(0, .new 3)] [1, 2, 3] [3] [slFeat false feats, I k, .ref 3 0] [some (bxStore s)] [] trivial ?_
    refine x_seq ?_
    refine xR [(1, .call [(true, .any)] true (Bv true)), (5, .call [(true, .any)] true (Bv true))] [1, 2, 3, 15] [3] [slFeat false feats, I k, .ref 3 0, Bv false] [some (bxStore s)] [Con Tryz.prog 112 [agStore s] true (Bv true) ∧ True, Con Tryz.prog 116 [slFeat false feats] true (Bv true) ∧ True] ⟨⟨(con_bool hst (ValidStore_ok s oks_)), trivial⟩, ⟨(con_bool okf (ValidSeq_ok feats)), trivial⟩, trivial⟩ ?_
    refine x_false rfl ?_
    refine x_skip ?_
    refine xe_then ?_
    refine x_seq ?_
    refine xR [(1, .call [(true, .any), (true, .any), (true, .any)] true (Bv true))] [1, 2, 3, 18] [3] [slFeat false feats, I k, .ref 3 0, Bv false] [some (bxStore s)] [Con Tryz.prog 80 [I k, I 1, I 40] true (Bv true) ∧ True] ⟨⟨(con_bool (inB_iff.2 (by omega)) (within_ok k 1 40)), trivial⟩, trivial⟩ ?_
    refine x_false rfl ?_
    refine x_skip ?_
    refine xe_then ?_
    refine x_seq ?_
    obtain ⟨v_1, hx1_0, hc1⟩ := nearest_ok s feats k hst okf h18 (by omega)
    refine x_r [(3, .call [(true, .any), (true, .any), (true, .any)] true (slMatch true v_1))] [6, 7] [] [slMatch true v_1, I 0] [] [Con Tryz.prog 117 [agStore s, slFeat false feats, I k] true (slMatch true v_1) ∧ True] ⟨⟨hc1, trivial⟩, trivial⟩ ?_
    refine xe_then ?_
    refine x_ret ?_
    refine xe_end (v_1, 0) (show (v_1 = nsL s feats k) ∧ (0 = 0) ∧ (True) from ⟨(by first | assumption | rfl), (by first | assumption | rfl), trivial⟩) (trivial) (.tup [slMatch true v_1, I 0]) (by kernel_rfl) (.inl rfl) (fun _ => rfl) (fun _ => (by simp [tagged, taggedL, tagMatch]))
  obtain ⟨⟨v, c⟩, ⟨hh0, hh1, _⟩, hc⟩ := hh
  exact ⟨v, c, hh0, hh1, hc⟩



-- impl.isTemplate
theorem isTemplate_ok (s : Store) (index : Int) : Con Tryz.prog 118 [agStore s, I index] true (Bv (inB index 0 ((s.Templates.length : Int) - 1))) := by
  refine fn_ok (fn := Tryz.f118) (nt := 11) Tryz.func118 rfl rfl rfl rfl (by simp [taggedL, tagged, tagTemplate]) fun B hB => ?_
  refine aw_lens (x := agStore s) 0 rfl (fun len_s => ?_)
  simp [LenOK, LenL, cFeat, cTemplate, fFeat, fTemplate, slFeat, slTemplate] at len_s
  refine aR [(0, .new 2)] [1, 2] [2] [I index, .ref 2 0] [some (bxStore s)] [] hB trivial ?_
  refine aR [(5, .call [(true, .any), (true, .any), (true, .any)] true (Bv (inB index 0 ((s.Templates.length : Int) - 1))))] [4] [] [Bv (inB index 0 ((s.Templates.length : Int) - 1))] [] [inR .i64 ((s.Templates.length : Int) - 1), Con Tryz.prog 80 [I index, I 0, I ((s.Templates.length : Int) - 1)] true (Bv (inB index 0 ((s.Templates.length : Int) - 1))) ∧ True] hB ⟨(inR_i64 (by omega) (by omega)), ⟨(within_ok index 0 ((s.Templates.length : Int) - 1)), trivial⟩, trivial⟩ ?_
  refine aw_ret ?_
  refine ae_ret hB (Bv (inB index 0 ((s.Templates.length : Int) - 1))) (by kernel_rfl) (.inl rfl) rfl (fun _ => trivial)



-- impl.Template]
set_option maxHeartbeats 2000000 in
set_option maxRecDepth 100000 in
theorem delT_calls (n : Nat) (h1 : 1 ≤ n) (k c : Nat) (cur : Array Value) (e : TypeId) (w : World) (hw : w.heap[k]? = some (.cells cur e (0, 0))) (hnc : n ≤ c) (hcc : c * 2 ≤ cur.size) (hcm : c ≤ maxLen) :
    Calls Tryz.prog 192 #[.slice (some ⟨k, 0, none⟩) n c, .int .i64 ((n : Int) - 1), .int .i64 (n : Int)] w fun e w' => e = .returned (.slice (some ⟨k, 0, none⟩) (n - 1) c) ∧ ∃ q, w' = (w.drewN q).setCells k ((n - 1) * 2) [.string ⟨#[]⟩, .slice none 0 0] := by
  obtain ⟨m, hmn⟩ : ∃ m, m + 1 = n := ⟨n - 1, by omega⟩
  have em : ((n : Int) - 1) = (m : Int) := by omega
  have em2 : n - 1 = m := by omega
  rw [em, em2]
  have hcm' : c ≤ 9223372036854775807 := by unfold maxLen at hcm; omega
  obtain ⟨i0, hi0, hz0⟩ := Option.map_eq_some_iff.1 (show (Tryz.prog.info? 86).map (fun i => i.size) = some 2 from by kernel_rfl)
  obtain ⟨A, hA⟩ : ∃ A : Addr, (if c = n then (some (⟨k, 0, none⟩ : Addr)) else some ⟨k, 0 + n * 2, none⟩) = some A := by
    by_cases h : c = n
    · exact ⟨_, by rw [if_pos h]⟩
    · exact ⟨_, by rw [if_neg h]⟩
  have hnm : n - m = 1 := by omega
  have hcl : ∀ ty cc, (Builtin.clear_ #[79] ty #[.slice (some ⟨k, m * 2, none⟩) 1 cc]).run Tryz.prog (w.drew.setCells k (m * 2) []) = .ok (.tuple #[]) (w.drew.setCells k (m * 2) [.string ⟨#[]⟩, .slice none 0 0]) := fun ty cc =>
    run_clear_one w.drew _ _ ty (.agg #[.string ⟨#[]⟩, .slice none 0 0]) Tryz.underlying79 Tryz.zeroValue86 (by simp [Value.cells, Value.oneCell']) k (m * 2) _ (fun j hj => by
      have hj : j < 2 := hj
      have hs : m * 2 + j < cur.size := by omega
      show (w.cell? _).isSome = true
      rw [Lib.cell_of_heap hw]
      simp [hs]) (fun j hj => Lib.frozen_of_heap hw _)
  have mixed : Tryz.prog.follows .mixedOrders = true := by kernel_rfl
  have hic : m ≤ c := by omega
  have hjc : n ≤ c := hnc
  have hij : m ≤ n := by omega
  have hne : ¬ m = n := by omega
  go_enter Tryz.func192, Tryz.ntmps192
  go_wp2_with fail
  go_region_law_o (refine step_append_room rfl (.tmp 22) (.tmp 25) 79 rfl 86 i0 2 Tryz.underlying79 hi0 hz0 k 0 m c (by simp [Act.eval, Act.put]) A 0 (c - n) [] (by simp [Act.eval, Act.put]; simpa using hA) rfl (fun j u hu => by simp at hu) (fun u hu => by simp at hu) (by omega) (fun t ht => by simp at ht) ?_)
  go_wp2
  all_goals (go_ret; exact ⟨rfl, 1, rfl⟩)

theorem delT_ok {xs : List Template} {a b : Int} (ha : a = (xs.length : Int) - 1) (hb : b = xs.length) (h1 : 1 ≤ xs.length) : MvcOK Tryz.prog 192 2 xs.length (xs.take (xs.length - 1)).length (fTemplate true xs) (fTemplate true (xs.take (xs.length - 1))) [.int .i64 a, .int .i64 b] := by
  have e : (xs.take (xs.length - 1)).length = xs.length - 1 := by rw [List.length_take]; omega
  rw [e]
  refine cut_mvc (zs := [.string ⟨#[]⟩, .slice none 0 0]) rfl xs.length h1 (fun k c cur e w hw q1 q2 q3 => delT_calls xs.length h1 k c cur e w hw q1 q2 q3) ha hb (fun i hi => rfl) (fun i hi => ?_)
  show fTemplate true _ i = _
  unfold fTemplate
  rw [show at_ (xs.take (xs.length - 1)) i = at_ xs i from by unfold at_; rw [List.getD_eq_getElem?_getD, List.getD_eq_getElem?_getD, List.getElem?_take, if_pos hi]]



-- impl.without
theorem without_ok (s : Store) (index : Int) (hst : okStore' s = true) (hi : index = (s.Templates.length : Int) - 1) (h0 : 0 ≤ index) : ∃ (v : Store), (v = (⟨s.Band, s.Templates.take (s.Templates.length - 1)⟩ : Store)) ∧ Con Tryz.prog 119 [agStore s, I index] true (agStoreT v) := by
  have h40 := (okStore_iff.1 hst).2.1
  have hh : ∃ r : Store, ((r = (⟨s.Band, s.Templates.take (s.Templates.length - 1)⟩ : Store)) ∧ (True)) ∧ CallOK Tryz.prog 119 [agStore s, I index] (lookO []) true (agStoreT r) (lookO []) := by
    refine fn_okX (Φ := fun r : Store => (r = (⟨s.Band, s.Templates.take (s.Templates.length - 1)⟩ : Store)) ∧ (True)) [] (fun r => []) (fn := Tryz.f119) (nt := 16) Tryz.func119 rfl rfl (args := [agStore s, I index]) rfl (allcons (.inl ⟨rfl, by simp [tagged, taggedL, tagTemplate]⟩) (allcons (.inl ⟨rfl, trivial⟩) allnil)) (res := fun r => agStoreT r) ?_
    refine xR [(0, .new 2), (1, .new 4)] [1, 2, 4] [2, 4] [I index, .ref 2 0, .ref 4 0] [some (bxStore s), some (.box [I 0, nilA])] [] trivial ?_
    refine x_seq ?_
    obtain ⟨ts_1, hx1_0, hc1⟩ := copyStore_ok s (fun t_ ht_ => tm_len (okStM hst t_ ht_)) (by omega)
    have hts := hx1_0
    have htsl : ts_1.length = s.Templates.length := by rw [hts]
    refine x_r [(1, .lend [] [(9601, tATemplate true ts_1)] [(true, .any)] false (.agg [I s.Band, .arr 9601])), (2, .new 5)] [1, 4, 5] [4, 5, 9601] [I index, .ref 4 0, .ref 5 0] [some (.box [I 0, nilA]), some (.box [I s.Band, .arr 9601]), some (tATemplate true ts_1)] [CallOK Tryz.prog 114 [agStore s] (lookO []) false (.agg [I s.Band, .arr 9601]) (lookO [(9601, tATemplate true ts_1)]) ∧ True] ⟨⟨hc1, trivial⟩, trivial⟩ ?_
    refine xe_then ?_
    refine xR [(5, .movc 9601 8412 2 ts_1.length ((ts_1.take (ts_1.length - 1)).length) (fTemplate true ts_1) (fTemplate true (ts_1.take (ts_1.length - 1))) [.int .i64 index, .int .i64 (index + 1)])] [4, 5] [4, 5, 8412] [.ref 4 0, .ref 5 0] [some (.box [I 0, nilA]), some (.box [I s.Band, .arr 8412]), some (tATemplate true (ts_1.take (ts_1.length - 1)))] [inR .i64 (index + 1), (([.arr 9601, I index, I (index + 1)] : List AV) = [.arr 9601, I index, I (index + 1)]) ∧ ((tATemplate true ts_1 : Ob) = .arr 2 ts_1.length (fTemplate true ts_1)) ∧ MvcOK Tryz.prog 192 2 ts_1.length ((ts_1.take (ts_1.length - 1)).length) (fTemplate true ts_1) (fTemplate true (ts_1.take (ts_1.length - 1))) [.int .i64 index, .int .i64 (index + 1)]] ⟨(inR_i64 (by omega) (by omega)), ⟨rfl, rfl, delT_ok (by (try rw [htsl]); omega) (by (try rw [htsl]); omega) (by (try rw [htsl]); omega)⟩, trivial⟩ ?_
    refine xR [] [4] [4, 8412] [.ref 4 0] [some (.box [I s.Band, .arr 8412]), some (tATemplate true (ts_1.take (ts_1.length - 1)))] [] trivial ?_
    refine x_ret ?_
    refine xe_end (Store.mk s.Band (ts_1.take (ts_1.length - 1))) (show ((Store.mk s.Band (ts_1.take (ts_1.length - 1))) = (⟨s.Band, s.Templates.take (s.Templates.length - 1)⟩ : Store)) ∧ (True) from ⟨(by first | rfl | (rw [hts]; done) | (simp only [*]; done) | (simp_all; done)), trivial⟩) (trivial) (.agg [I s.Band, .arr 8412]) (by kernel_rfl) (.inr ⟨rfl, ⟨⟨(fun _ => rfl), rfl, rfl, fun i _ => .inl rfl⟩, rfl⟩⟩) (fun _ => rfl) (fun _ => (by simp [tagged, taggedL, tagTemplate]))
  obtain ⟨v, ⟨hh0, _⟩, hc⟩ := hh
  exact ⟨v, hh0, hc⟩



-- impl.RemoveTemplate
theorem RemoveTemplate_ok (s : Store) (index : Int) (hst : okStore' s = true) (hi : index = (s.Templates.length : Int) - 1) (h0 : 0 ≤ index) : ∃ (v : Store) (c : Int), (v = (⟨s.Band, s.Templates.take (s.Templates.length - 1)⟩ : Store)) ∧ (c = 0) ∧ Con Tryz.prog 50 [agStore s, I index] true (.tup [agStoreT v, I c]) := by
  have hsz := okSt_sz hst
  have h40 := (okStore_iff.1 hst).2.1
  have hin : inB index 0 ((s.Templates.length : Int) - 1) = true := inB_iff.2 (by omega)
  have hh : ∃ r : Store × Int, ((r.1 = (⟨s.Band, s.Templates.take (s.Templates.length - 1)⟩ : Store)) ∧ (r.2 = 0) ∧ (True)) ∧ CallOK Tryz.prog 50 [agStore s, I index] (lookO []) true (.tup [agStoreT r.1, I r.2]) (lookO []) := by
    refine fn_okX (Φ := fun r : Store × Int => (r.1 = (⟨s.Band, s.Templates.take (s.Templates.length - 1)⟩ : Store)) ∧ (r.2 = 0) ∧ (True)) [] (fun r => []) (fn := Tryz.f50) (nt := 18) Tryz.func50 rfl rfl (args := [agStore s, I index]) rfl (allcons (.inl ⟨rfl, by simp [tagged, taggedL, tagTemplate]⟩) (allcons (.inl ⟨rfl, trivial⟩) allnil)) (res := fun r => .tup [agStoreT r.1, I r.2]) ?_
    refine xR [(0, .new 2), (1, .new 4)] [1, 2, 4] [2, 4] [I index, .ref 2 0, .ref 4 0] [some (bxStore s), some (.box [I 0, nilA])] [] trivial ?_
    refine x_seq ?_
    refine xR [(1, .call [(true, .any)] true (Bv true))] [1, 2, 4, 8] [2, 4] [I index, .ref 2 0, .ref 4 0, Bv false] [some (bxStore s), some (.box [I 0, nilA])] [Con Tryz.prog 112 [agStore s] true (Bv true) ∧ True] ⟨⟨(con_bool hst (ValidStore_ok s hsz)), trivial⟩, trivial⟩ ?_
    refine x_false rfl ?_
    refine x_skip ?_
    refine xe_then ?_
    refine x_seq ?_
    refine xR [(2, .call [(true, .any), (true, .any)] true (Bv true))] [1, 2, 4, 13] [2, 4] [I index, .ref 2 0, .ref 4 0, Bv false] [some (bxStore s), some (.box [I 0, nilA])] [Con Tryz.prog 118 [agStore s, I index] true (Bv true) ∧ True] ⟨⟨(con_bool hin (isTemplate_ok s index)), trivial⟩, trivial⟩ ?_
    refine x_false rfl ?_
    refine x_skip ?_
    refine xe_then ?_
    refine x_seq ?_
    obtain ⟨v_1, hx1_0, hc1⟩ := without_ok s index hst hi h0
    refine x_r [(2, .call [(true, .any), (true, .any)] true (agStoreT v_1))] [4, 5] [4] [.ref 4 0, I 0] [some (bxStoreT v_1)] [Con Tryz.prog 119 [agStore s, I index] true (agStoreT v_1) ∧ True] ⟨⟨hc1, trivial⟩, trivial⟩ ?_
    refine xe_then ?_
    refine x_ret ?_
    refine xe_end (v_1, 0) (show (v_1 = (⟨s.Band, s.Templates.take (s.Templates.length - 1)⟩ : Store)) ∧ (0 = 0) ∧ (True) from ⟨(by first | rfl | assumption | (simp only [*]; done)), (by first | rfl | assumption | (simp only [*]; done)), trivial⟩) (trivial) (.tup [agStoreT v_1, I 0]) (by kernel_rfl) (.inl rfl) (fun _ => rfl) (fun _ => (by simp [tagged, taggedL, tagTemplate]))
  obtain ⟨⟨v, c⟩, ⟨hh0, hh1, _⟩, hc⟩ := hh
  exact ⟨v, c, hh0, hh1, hc⟩



-- strconv.FormatInt
theorem formatInt_ok (n base : Int) (h : -9223372036854775808 ≤ n ∧ n ≤ 9223372036854775807) (hb : base = 10) : Con Tryz.prog 173 [I n, I base] true (Sv (decB n)) := by
  subst hb
  refine con_of_calls (vals := [.int .i64 n, .int .i64 10]) fun w hw => ?_
  refine (Tryz.strconv_FormatInt_10 n h.1 h.2 w (WX_tab hw)).mono ?_
  rintro e w' ⟨rfl, k, os, rfl⟩
  exact ⟨rfl, Lib.below_grow _ _ (Nat.le_refl _) k os⟩



-- impl.Decimal
theorem implDecimal_ok (n : Int) (hn : -9223372036854775808 ≤ n ∧ n ≤ 9223372036854775807) : Con Tryz.prog 95 [I n] true (Sv (decB n)) := by
  refine fn_ok (fn := Tryz.f95) (nt := 5) Tryz.func95 rfl rfl rfl rfl (by simp [taggedL, tagged]) fun B hB => ?_
  refine aR [] [0] [] [I n] [] [] hB trivial ?_
  refine aR [(1, .call [(true, .any), (true, .any)] true (Sv (decB n)))] [2] [] [Sv (decB n)] [] [Con Tryz.prog 173 [I n, I 10] true (Sv (decB n)) ∧ True] hB ⟨⟨(formatInt_ok n 10 (by omega) rfl), trivial⟩, trivial⟩ ?_
  refine aw_ret ?_
  refine ae_ret hB (Sv (decB n)) (by kernel_rfl) (.inl rfl) rfl (fun _ => trivial)



-- strings.Join
theorem join_ok (xs : List ByteArray) (sep : ByteArray) (ok : jok sep xs) : Con Tryz.prog 74 [slS false xs, Sv sep] true (Sv (jnB sep xs)) := by
  refine fn_ok (fn := Tryz.f74) (nt := 75) Tryz.func74 rfl rfl rfl rfl (by simp [taggedL, tagged, tagS]) fun B hB => ?_
  refine aw_lens (x := slS false xs) 0 rfl (fun len_xs => ?_)
  simp [LenOK, LenL, cS, fS, slS] at len_xs
  refine aR [] [0, 1] [] [slS false xs, Sv sep] [] [] hB trivial ?_
  refine aw_seq ?_
  refine aR [] [0, 1, 12] [] [slS false xs, Sv sep, I (xs.length : Int)] [] [] hB trivial ?_
  refine aw_block ?_
  refine aw_seq ?_
  by_cases h1 : (xs.length : Int) = 0
  ·have he : xs = [] := List.length_eq_zero_iff.1 (by omega)
   refine aw_r [(0, .dec true)] [0, 1, 12, 13] [] [slS false xs, Sv sep, I (xs.length : Int), Bv true] [] [(xs.length : Int) = 0] hB ⟨h1, trivial⟩ ?_
   refine ae_then ?_
   refine aw_true rfl ?_
   refine aR [] [4] [] [Sv (⟨#[]⟩ : ByteArray)] [] [] hB trivial ?_
   refine aw_ret ?_
   refine ae_ret_block (ae_ret_then ?_)
   refine ae_ret hB (Sv (⟨#[]⟩ : ByteArray)) (by kernel_rfl) (.inl (by first | rfl | (rw [jnB_one _ he]; done) | (rw [htx]; done) | (rw [he]; rfl))) rfl (fun _ => trivial)
  refine aw_r [(0, .dec false)] [0, 1, 12, 13] [] [slS false xs, Sv sep, I (xs.length : Int), Bv false] [] [¬ ((xs.length : Int) = 0)] hB ⟨h1, trivial⟩ ?_
  refine ae_then ?_
  refine aw_false rfl ?_
  refine aw_seq ?_
  by_cases h2 : (xs.length : Int) = 1
  ·have he : xs.length = 1 := by omega
   refine aw_r [(0, .dec true)] [0, 1, 15] [] [slS false xs, Sv sep, Bv true] [] [(xs.length : Int) = 1] hB ⟨h2, trivial⟩ ?_
   refine ae_then ?_
   refine aw_true rfl ?_
   refine aR [] [4] [] [Sv (at_ xs 0)] [] [(0 : Int) ≤ 0 ∧ 0 < (xs.length : Int)] hB ⟨⟨(by omega), (by omega)⟩, trivial⟩ ?_
   refine aw_ret ?_
   refine ae_ret_block (ae_ret_then ?_)
   refine ae_ret hB (Sv (at_ xs 0)) (by kernel_rfl) (.inl (by first | rfl | (rw [jnB_one _ he]; done) | (rw [htx]; done) | (rw [he]; rfl))) rfl (fun _ => trivial)
  have ok3 := ok.2.2 (List.ne_nil_of_length_pos (by omega))
  have okl := ok.2.1
  have oks := ok.1
  obtain ⟨M, hM⟩ : ∃ M : Nat, sep.size * (xs.length - 1) = M := ⟨_, rfl⟩
  rw [hM] at ok3
  have hMi : (sep.size : Int) * ((xs.length : Int) - 1) = (M : Int) := by rw [← hM, Int.natCast_mul, Int.natCast_sub (by omega)]; rfl
  refine aw_r [(0, .dec false)] [0, 1, 15] [] [slS false xs, Sv sep, Bv false] [] [¬ ((xs.length : Int) = 1)] hB ⟨h2, trivial⟩ ?_
  refine ae_then ?_
  refine aw_false rfl ?_
  refine aw_skip ?_
  refine ae_block 0 ?_
  refine ae_then ?_
  refine aR [] [0, 1, 5] [] [slS false xs, Sv sep, I 0] [] [] hB trivial ?_
  refine aw_seq ?_
  refine aw_seq ?_
  by_cases h3 : 0 < (sep.size : Int)
  ·refine aw_r [(2, .dec true)] [0, 1, 5, 22] [] [slS false xs, Sv sep, I 0, Bv true] [] [0 < (sep.size : Int)] hB ⟨h3, trivial⟩ ?_
   refine ae_then ?_
   refine aw_true rfl ?_
   refine aw_seq ?_
   refine aR [(5, .nn), (6, .dec false)] [0, 1, 5, 29] [] [slS false xs, Sv sep, I 0, Bv false] [] [inR .i64 ((xs.length : Int) - 1), (0 : Int) ≤ 9223372036854775807 ∧ (0 : Int) < ((xs.length : Int) - 1) ∧ inR .i64 9223372036854775807, ¬ ((9223372036854775807 / ((xs.length : Int) - 1)) ≤ (sep.size : Int))] hB ⟨(inR_i64 (by omega) (by omega)), ⟨(by omega), (by omega), (inR_i64 (by omega) (by omega))⟩, (by have q := jok_room (s := sep.size) (n := xs.length - 1) ok.1 (by have := ok.2.1; omega); have e : ((xs.length - 1 : Nat) : Int) = (xs.length : Int) - 1 := (by omega); rw [e] at q; omega), trivial⟩ ?_
   refine aw_false rfl ?_
   refine aw_skip ?_
   refine ae_then ?_
   refine aw_r [] [0, 1, 5] [] [slS false xs, Sv sep, I (0 + ((sep.size : Int) * ((xs.length : Int) - 1)))] [] [inR .i64 ((xs.length : Int) - 1), inR .i64 ((sep.size : Int) * ((xs.length : Int) - 1)), inR .i64 (0 + ((sep.size : Int) * ((xs.length : Int) - 1)))] hB ⟨(inR_i64 (by omega) (by omega)), (inR_i64 (by omega) (by omega)), (inR_i64 (by omega) (by omega)), trivial⟩ ?_
   refine ae_then ?_
   refine aw_seq ?_
   refine aR [] [0, 1, 5, 39, 40, 41] [] [slS false xs, Sv sep, I (0 + ((sep.size : Int) * ((xs.length : Int) - 1))), slS false xs, I (xs.length : Int), I 0] [] [] hB trivial ?_
   refine aw_block ?_
   refine aw_loop (fun gn gσ => ∃ (n : Int) (k : Int), gn = ((xs.length : Int) - k).toNat ∧ (0 ≤ k ∧ k ≤ (xs.length : Int)) ∧ (n = (M : Int) + (jnZ xs k.toNat : Int)) ∧ gσ = mkS [(0, slS false xs), (1, Sv sep), (5, I n), (39, slS false xs), (40, I (xs.length : Int)), (41, I k)] []) (((xs.length : Int) - 0).toNat) ⟨(0 + ((sep.size : Int) * ((xs.length : Int) - 1))), 0, rfl, (by omega), (by show _ = (M : Int) + ((0 : Nat) : Int); omega), rfl⟩ (fun gn gσ hI => ?_)
   obtain ⟨n, k, rfl, hk, hn, rfl⟩ := hI
   refine aw_seq ?_
   by_cases h4 : k < (xs.length : Int)
   ·have hi : k.toNat < xs.length := by omega
    have hsm := jnZ_at xs (k := k.toNat)
    have hmo := jnZ_mono xs (show k.toNat + 1 ≤ xs.length from hi)
    have hks : (k + 1).toNat = k.toNat + 1 := by omega
    refine aw_r [(0, .dec true)] [0, 1, 5, 39, 40, 41, 42] [] [slS false xs, Sv sep, I n, slS false xs, I (xs.length : Int), I k, Bv true] [] [k < (xs.length : Int)] hB ⟨h4, trivial⟩ ?_
    refine ae_then ?_
    refine aw_seq ?_
    refine aw_true rfl ?_
    refine aw_skip ?_
    refine ae_then ?_
    refine aw_seq ?_
    refine aw_block ?_
    refine aR [] [0, 1, 5, 7, 39, 40, 41] [] [slS false xs, Sv sep, I n, Sv (at_ xs k.toNat), slS false xs, I (xs.length : Int), I k] [] [(0 : Int) ≤ k ∧ k < (xs.length : Int)] hB ⟨⟨(by omega), (by omega)⟩, trivial⟩ ?_
    refine aw_seq ?_
    refine aR [(4, .dec false)] [0, 1, 5, 7, 39, 40, 41, 49] [] [slS false xs, Sv sep, I n, Sv (at_ xs k.toNat), slS false xs, I (xs.length : Int), I k, Bv false] [] [inR .i64 (9223372036854775807 - n), ¬ ((9223372036854775807 - n) < ((at_ xs k.toNat).size : Int))] hB ⟨(inR_i64 (by omega) (by omega)), (by omega), trivial⟩ ?_
    refine aw_false rfl ?_
    refine aw_skip ?_
    refine ae_then ?_
    refine aw_r [] [0, 1, 5, 39, 40, 41] [] [slS false xs, Sv sep, I (n + ((at_ xs k.toNat).size : Int)), slS false xs, I (xs.length : Int), I k] [] [inR .i64 (n + ((at_ xs k.toNat).size : Int))] hB ⟨(inR_i64 (by omega) (by omega)), trivial⟩ ?_
    refine ae_block 2 ?_
    refine ae_then ?_
    refine aw_r [] [0, 1, 5, 39, 40, 41] [] [slS false xs, Sv sep, I (n + ((at_ xs k.toNat).size : Int)), slS false xs, I (xs.length : Int), I (k + 1)] [] [inR .i64 (k + 1)] hB ⟨(inR_i64 (by omega) (by omega)), trivial⟩ ?_
    exact ae_again _ (by omega) ⟨(n + ((at_ xs k.toNat).size : Int)), (k + 1), rfl, (by omega), (by rw [hks]; omega), rfl⟩
   have hke : k.toNat = xs.length := by omega
   rw [hke] at hn
   have hj1 := jnB_take1 (sep := sep) (xs := xs) (by omega)
   have hs1 := jnZ_mono xs (show 1 ≤ xs.length from by omega)
   have hz0 : (⟨#[]⟩ : ByteArray).size = 0 := rfl
   have hs0 : jnZ xs 1 = (at_ xs 0).size := by simp [jnZ]
   refine aw_r [(0, .dec false)] [0, 1, 5, 39, 40, 41, 42] [] [slS false xs, Sv sep, I n, slS false xs, I (xs.length : Int), I k, Bv false] [] [¬ (k < (xs.length : Int))] hB ⟨h4, trivial⟩ ?_
   refine ae_then ?_
   refine aw_seq ?_
   refine aw_false rfl ?_
   refine aw_exit ?_
   refine ae_exit_then ?_
   refine ae_exit_then ?_
   refine ae_exit_same ?_
   refine ae_then ?_
   refine aR [(0, .newb 8 60016 5)] [0, 1, 5, 8] [8, 60016] [slS false xs, Sv sep, I n, .ref 8 0] [some (.bld 134 60016), some (.buf 5 false (⟨#[]⟩ : ByteArray))] [] hB trivial ?_
   refine aR [(1, .bw 8 60016 60017 (.int .i64 n) true (⟨#[]⟩ : ByteArray))] [0, 1, 8] [8, 60017] [slS false xs, Sv sep, .ref 8 0] [some (.bld 134 60017), some (.buf 5 true ((⟨#[]⟩ : ByteArray) ++ (⟨#[]⟩ : ByteArray)))] [([.ref 8 0, I n] : List AV) = [.ref 8 0, I n] ∧ BwOK Tryz.prog 152 134 5 (.int .i64 n) false (⟨#[]⟩ : ByteArray) true (⟨#[]⟩ : ByteArray)] hB ⟨⟨rfl, bg_ok (by omega) (by omega)⟩, trivial⟩ ?_
   refine aR [(3, .bw 8 60017 60016 (.string (at_ xs 0)) true (at_ xs 0))] [0, 1, 8] [8, 60016] [slS false xs, Sv sep, .ref 8 0] [some (.bld 134 60016), some (.buf 5 true (((⟨#[]⟩ : ByteArray) ++ (⟨#[]⟩ : ByteArray)) ++ (at_ xs 0)))] [(0 : Int) ≤ 0 ∧ 0 < (xs.length : Int), ([.ref 8 0, Sv (at_ xs 0)] : List AV) = [.ref 8 0, Sv (at_ xs 0)] ∧ BwOK Tryz.prog 73 134 5 (.string (at_ xs 0)) true ((⟨#[]⟩ : ByteArray) ++ (⟨#[]⟩ : ByteArray)) true (at_ xs 0)] hB ⟨⟨(by omega), (by omega)⟩, ⟨rfl, bw_ok (by first | omega | (simp only [ByteArray.size_append]; omega) | (simp only [ByteArray.size_append, hat]; omega))⟩, trivial⟩ ?_
   refine aw_seq ?_
   refine aR [] [1, 8, 63, 64, 65] [8, 60016] [Sv sep, .ref 8 0, .sl false 1 ((xs.length : Int).toNat - 1) (cutF 1 (fS xs)), I (((xs.length : Int).toNat - 1 : Nat) : Int), I 0] [some (.bld 134 60016), some (.buf 5 true (((⟨#[]⟩ : ByteArray) ++ (⟨#[]⟩ : ByteArray)) ++ (at_ xs 0)))] [(0 : Int) ≤ 1 ∧ (1 : Int) ≤ (xs.length : Int) ∧ (xs.length : Int) ≤ (xs.length : Int)] hB ⟨⟨(by omega), (by omega), (by omega)⟩, trivial⟩ ?_
   refine aw_block ?_
   refine aw_loop (fun gn gσ => ∃ (j : Int) (tx : ByteArray), gn = ((xs.length : Int) - j).toNat ∧ (0 ≤ j ∧ j + 1 ≤ (xs.length : Int)) ∧ (tx = jnB sep (xs.take (j.toNat + 1))) ∧ (tx.size ≤ jnZ xs (j.toNat + 1) + 8 * j.toNat) ∧ gσ = mkS [(1, Sv sep), (8, .ref 8 0), (63, .sl false 1 ((xs.length : Int).toNat - 1) (cutF 1 (fS xs))), (64, I (((xs.length : Int).toNat - 1 : Nat) : Int)), (65, I j)] [(8, .bld 134 60016), (60016, .buf 5 true tx)]) (((xs.length : Int) - 0).toNat) ⟨0, (((⟨#[]⟩ : ByteArray) ++ (⟨#[]⟩ : ByteArray)) ++ (at_ xs 0)), rfl, (by omega), (by show _ = jnB sep (xs.take 1); rw [hj1, nil_ba, nil_ba]), (by show _ ≤ jnZ xs 1 + _; simp only [ByteArray.size_append]; omega), rfl⟩ (fun gn gσ hI => ?_)
   obtain ⟨j, tx, rfl, hj0, htx, hts, rfl⟩ := hI
   refine aw_seq ?_
   by_cases h5 : j < (((xs.length : Int).toNat - 1 : Nat) : Int)
   ·have hj : j.toNat + 1 < xs.length := by omega
    have hsj := jnZ_at xs (k := j.toNat + 1)
    have hmj := jnZ_mono xs (show j.toNat + 1 + 1 ≤ xs.length from by omega)
    have hmj2 := jnZ_mono xs (show j.toNat + 1 ≤ xs.length from by omega)
    have hjs : (j + 1).toNat = j.toNat + 1 := by omega
    have hjt := jnB_take (sep := sep) hj
    have hat : at_ xs (1 + j.toNat) = at_ xs (j.toNat + 1) := by rw [Nat.add_comm]
    refine aw_r [(0, .dec true)] [1, 8, 63, 64, 65, 66] [8, 60016] [Sv sep, .ref 8 0, .sl false 1 ((xs.length : Int).toNat - 1) (cutF 1 (fS xs)), I (((xs.length : Int).toNat - 1 : Nat) : Int), I j, Bv true] [some (.bld 134 60016), some (.buf 5 true tx)] [j < (((xs.length : Int).toNat - 1 : Nat) : Int)] hB ⟨h5, trivial⟩ ?_
    refine ae_then ?_
    refine aw_seq ?_
    refine aw_true rfl ?_
    refine aw_skip ?_
    refine ae_then ?_
    refine aw_seq ?_
    refine aw_block ?_
    refine aR [] [1, 8, 10, 63, 64, 65] [8, 60016] [Sv sep, .ref 8 0, Sv (at_ xs (1 + j.toNat)), .sl false 1 ((xs.length : Int).toNat - 1) (cutF 1 (fS xs)), I (((xs.length : Int).toNat - 1 : Nat) : Int), I j] [some (.bld 134 60016), some (.buf 5 true tx)] [(0 : Int) ≤ j ∧ j < (((xs.length : Int).toNat - 1 : Nat) : Int)] hB ⟨⟨(by omega), (by omega)⟩, trivial⟩ ?_
    refine aR [(1, .bw 8 60016 60017 (.string sep) true sep)] [1, 8, 10, 63, 64, 65] [8, 60017] [Sv sep, .ref 8 0, Sv (at_ xs (1 + j.toNat)), .sl false 1 ((xs.length : Int).toNat - 1) (cutF 1 (fS xs)), I (((xs.length : Int).toNat - 1 : Nat) : Int), I j] [some (.bld 134 60017), some (.buf 5 true (tx ++ sep))] [([.ref 8 0, Sv sep] : List AV) = [.ref 8 0, Sv sep] ∧ BwOK Tryz.prog 73 134 5 (.string sep) true tx true sep] hB ⟨⟨rfl, bw_ok (by first | omega | (simp only [ByteArray.size_append]; omega) | (simp only [ByteArray.size_append, hat]; omega))⟩, trivial⟩ ?_
    refine aw_r [(1, .bw 8 60017 60016 (.string (at_ xs (1 + j.toNat))) true (at_ xs (1 + j.toNat)))] [1, 8, 63, 64, 65] [8, 60016] [Sv sep, .ref 8 0, .sl false 1 ((xs.length : Int).toNat - 1) (cutF 1 (fS xs)), I (((xs.length : Int).toNat - 1 : Nat) : Int), I j] [some (.bld 134 60016), some (.buf 5 true ((tx ++ sep) ++ (at_ xs (1 + j.toNat))))] [([.ref 8 0, Sv (at_ xs (1 + j.toNat))] : List AV) = [.ref 8 0, Sv (at_ xs (1 + j.toNat))] ∧ BwOK Tryz.prog 73 134 5 (.string (at_ xs (1 + j.toNat))) true (tx ++ sep) true (at_ xs (1 + j.toNat))] hB ⟨⟨rfl, bw_ok (by first | omega | (simp only [ByteArray.size_append]; omega) | (simp only [ByteArray.size_append, hat]; omega))⟩, trivial⟩ ?_
    refine ae_block 4 ?_
    refine ae_then ?_
    refine aw_r [] [1, 8, 63, 64, 65] [8, 60016] [Sv sep, .ref 8 0, .sl false 1 ((xs.length : Int).toNat - 1) (cutF 1 (fS xs)), I (((xs.length : Int).toNat - 1 : Nat) : Int), I (j + 1)] [some (.bld 134 60016), some (.buf 5 true ((tx ++ sep) ++ (at_ xs (1 + j.toNat))))] [inR .i64 (j + 1)] hB ⟨(inR_i64 (by omega) (by omega)), trivial⟩ ?_
    exact ae_again _ (by omega) ⟨(j + 1), ((tx ++ sep) ++ (at_ xs (1 + j.toNat))), rfl, (by omega), (by rw [hjs, hjt, ← htx, hat]), (by rw [hjs, hsj]; simp only [ByteArray.size_append, hat]; omega), rfl⟩
   have hje : j.toNat + 1 = xs.length := by omega
   rw [hje, List.take_length] at htx
   refine aw_r [(0, .dec false)] [1, 8, 63, 64, 65, 66] [8, 60016] [Sv sep, .ref 8 0, .sl false 1 ((xs.length : Int).toNat - 1) (cutF 1 (fS xs)), I (((xs.length : Int).toNat - 1 : Nat) : Int), I j, Bv false] [some (.bld 134 60016), some (.buf 5 true tx)] [¬ (j < (((xs.length : Int).toNat - 1 : Nat) : Int))] hB ⟨h5, trivial⟩ ?_
   refine ae_then ?_
   refine aw_seq ?_
   refine aw_false rfl ?_
   refine aw_exit ?_
   refine ae_exit_then ?_
   refine ae_exit_then ?_
   refine ae_exit_same ?_
   refine ae_then ?_
   refine aR [(0, .bs 8 60016)] [4] [] [Sv tx] [] [([.ref 8 0] : List AV) = [.ref 8 0] ∧ BsOK Tryz.prog 75 134 5] hB ⟨⟨rfl, bs_ok⟩, trivial⟩ ?_
   refine aw_ret ?_
   refine ae_ret hB (Sv tx) (by kernel_rfl) (.inl (by first | rfl | (rw [jnB_one _ he]; done) | (rw [htx]; done) | (rw [he]; rfl))) rfl (fun _ => trivial)
  have hM0 : M = 0 := by rw [← hM, show sep.size = 0 from by omega, Nat.zero_mul]
  refine aw_r [(2, .dec false)] [0, 1, 5, 22] [] [slS false xs, Sv sep, I 0, Bv false] [] [¬ (0 < (sep.size : Int))] hB ⟨h3, trivial⟩ ?_
  refine ae_then ?_
  refine aw_false rfl ?_
  refine aw_skip ?_
  refine ae_then ?_
  refine aw_seq ?_
  refine aR [] [0, 1, 5, 39, 40, 41] [] [slS false xs, Sv sep, I 0, slS false xs, I (xs.length : Int), I 0] [] [] hB trivial ?_
  refine aw_block ?_
  refine aw_loop (fun gn gσ => ∃ (n : Int) (k : Int), gn = ((xs.length : Int) - k).toNat ∧ (0 ≤ k ∧ k ≤ (xs.length : Int)) ∧ (n = (M : Int) + (jnZ xs k.toNat : Int)) ∧ gσ = mkS [(0, slS false xs), (1, Sv sep), (5, I n), (39, slS false xs), (40, I (xs.length : Int)), (41, I k)] []) (((xs.length : Int) - 0).toNat) ⟨0, 0, rfl, (by omega), (by show _ = (M : Int) + ((0 : Nat) : Int); omega), rfl⟩ (fun gn gσ hI => ?_)
  obtain ⟨n, k, rfl, hk, hn, rfl⟩ := hI
  refine aw_seq ?_
  by_cases h6 : k < (xs.length : Int)
  ·have hi : k.toNat < xs.length := by omega
   have hsm := jnZ_at xs (k := k.toNat)
   have hmo := jnZ_mono xs (show k.toNat + 1 ≤ xs.length from hi)
   have hks : (k + 1).toNat = k.toNat + 1 := by omega
   refine aw_r [(0, .dec true)] [0, 1, 5, 39, 40, 41, 42] [] [slS false xs, Sv sep, I n, slS false xs, I (xs.length : Int), I k, Bv true] [] [k < (xs.length : Int)] hB ⟨h6, trivial⟩ ?_
   refine ae_then ?_
   refine aw_seq ?_
   refine aw_true rfl ?_
   refine aw_skip ?_
   refine ae_then ?_
   refine aw_seq ?_
   refine aw_block ?_
   refine aR [] [0, 1, 5, 7, 39, 40, 41] [] [slS false xs, Sv sep, I n, Sv (at_ xs k.toNat), slS false xs, I (xs.length : Int), I k] [] [(0 : Int) ≤ k ∧ k < (xs.length : Int)] hB ⟨⟨(by omega), (by omega)⟩, trivial⟩ ?_
   refine aw_seq ?_
   refine aR [(4, .dec false)] [0, 1, 5, 7, 39, 40, 41, 49] [] [slS false xs, Sv sep, I n, Sv (at_ xs k.toNat), slS false xs, I (xs.length : Int), I k, Bv false] [] [inR .i64 (9223372036854775807 - n), ¬ ((9223372036854775807 - n) < ((at_ xs k.toNat).size : Int))] hB ⟨(inR_i64 (by omega) (by omega)), (by omega), trivial⟩ ?_
   refine aw_false rfl ?_
   refine aw_skip ?_
   refine ae_then ?_
   refine aw_r [] [0, 1, 5, 39, 40, 41] [] [slS false xs, Sv sep, I (n + ((at_ xs k.toNat).size : Int)), slS false xs, I (xs.length : Int), I k] [] [inR .i64 (n + ((at_ xs k.toNat).size : Int))] hB ⟨(inR_i64 (by omega) (by omega)), trivial⟩ ?_
   refine ae_block 2 ?_
   refine ae_then ?_
   refine aw_r [] [0, 1, 5, 39, 40, 41] [] [slS false xs, Sv sep, I (n + ((at_ xs k.toNat).size : Int)), slS false xs, I (xs.length : Int), I (k + 1)] [] [inR .i64 (k + 1)] hB ⟨(inR_i64 (by omega) (by omega)), trivial⟩ ?_
   exact ae_again _ (by omega) ⟨(n + ((at_ xs k.toNat).size : Int)), (k + 1), rfl, (by omega), (by rw [hks]; omega), rfl⟩
  have hke : k.toNat = xs.length := by omega
  rw [hke] at hn
  have hj1 := jnB_take1 (sep := sep) (xs := xs) (by omega)
  have hs1 := jnZ_mono xs (show 1 ≤ xs.length from by omega)
  have hz0 : (⟨#[]⟩ : ByteArray).size = 0 := rfl
  have hs0 : jnZ xs 1 = (at_ xs 0).size := by simp [jnZ]
  refine aw_r [(0, .dec false)] [0, 1, 5, 39, 40, 41, 42] [] [slS false xs, Sv sep, I n, slS false xs, I (xs.length : Int), I k, Bv false] [] [¬ (k < (xs.length : Int))] hB ⟨h6, trivial⟩ ?_
  refine ae_then ?_
  refine aw_seq ?_
  refine aw_false rfl ?_
  refine aw_exit ?_
  refine ae_exit_then ?_
  refine ae_exit_then ?_
  refine ae_exit_same ?_
  refine ae_then ?_
  refine aR [(0, .newb 8 60016 5)] [0, 1, 5, 8] [8, 60016] [slS false xs, Sv sep, I n, .ref 8 0] [some (.bld 134 60016), some (.buf 5 false (⟨#[]⟩ : ByteArray))] [] hB trivial ?_
  refine aR [(1, .bw 8 60016 60017 (.int .i64 n) true (⟨#[]⟩ : ByteArray))] [0, 1, 8] [8, 60017] [slS false xs, Sv sep, .ref 8 0] [some (.bld 134 60017), some (.buf 5 true ((⟨#[]⟩ : ByteArray) ++ (⟨#[]⟩ : ByteArray)))] [([.ref 8 0, I n] : List AV) = [.ref 8 0, I n] ∧ BwOK Tryz.prog 152 134 5 (.int .i64 n) false (⟨#[]⟩ : ByteArray) true (⟨#[]⟩ : ByteArray)] hB ⟨⟨rfl, bg_ok (by omega) (by omega)⟩, trivial⟩ ?_
  refine aR [(3, .bw 8 60017 60016 (.string (at_ xs 0)) true (at_ xs 0))] [0, 1, 8] [8, 60016] [slS false xs, Sv sep, .ref 8 0] [some (.bld 134 60016), some (.buf 5 true (((⟨#[]⟩ : ByteArray) ++ (⟨#[]⟩ : ByteArray)) ++ (at_ xs 0)))] [(0 : Int) ≤ 0 ∧ 0 < (xs.length : Int), ([.ref 8 0, Sv (at_ xs 0)] : List AV) = [.ref 8 0, Sv (at_ xs 0)] ∧ BwOK Tryz.prog 73 134 5 (.string (at_ xs 0)) true ((⟨#[]⟩ : ByteArray) ++ (⟨#[]⟩ : ByteArray)) true (at_ xs 0)] hB ⟨⟨(by omega), (by omega)⟩, ⟨rfl, bw_ok (by first | omega | (simp only [ByteArray.size_append]; omega) | (simp only [ByteArray.size_append, hat]; omega))⟩, trivial⟩ ?_
  refine aw_seq ?_
  refine aR [] [1, 8, 63, 64, 65] [8, 60016] [Sv sep, .ref 8 0, .sl false 1 ((xs.length : Int).toNat - 1) (cutF 1 (fS xs)), I (((xs.length : Int).toNat - 1 : Nat) : Int), I 0] [some (.bld 134 60016), some (.buf 5 true (((⟨#[]⟩ : ByteArray) ++ (⟨#[]⟩ : ByteArray)) ++ (at_ xs 0)))] [(0 : Int) ≤ 1 ∧ (1 : Int) ≤ (xs.length : Int) ∧ (xs.length : Int) ≤ (xs.length : Int)] hB ⟨⟨(by omega), (by omega), (by omega)⟩, trivial⟩ ?_
  refine aw_block ?_
  refine aw_loop (fun gn gσ => ∃ (j : Int) (tx : ByteArray), gn = ((xs.length : Int) - j).toNat ∧ (0 ≤ j ∧ j + 1 ≤ (xs.length : Int)) ∧ (tx = jnB sep (xs.take (j.toNat + 1))) ∧ (tx.size ≤ jnZ xs (j.toNat + 1) + 8 * j.toNat) ∧ gσ = mkS [(1, Sv sep), (8, .ref 8 0), (63, .sl false 1 ((xs.length : Int).toNat - 1) (cutF 1 (fS xs))), (64, I (((xs.length : Int).toNat - 1 : Nat) : Int)), (65, I j)] [(8, .bld 134 60016), (60016, .buf 5 true tx)]) (((xs.length : Int) - 0).toNat) ⟨0, (((⟨#[]⟩ : ByteArray) ++ (⟨#[]⟩ : ByteArray)) ++ (at_ xs 0)), rfl, (by omega), (by show _ = jnB sep (xs.take 1); rw [hj1, nil_ba, nil_ba]), (by show _ ≤ jnZ xs 1 + _; simp only [ByteArray.size_append]; omega), rfl⟩ (fun gn gσ hI => ?_)
  obtain ⟨j, tx, rfl, hj0, htx, hts, rfl⟩ := hI
  refine aw_seq ?_
  by_cases h7 : j < (((xs.length : Int).toNat - 1 : Nat) : Int)
  ·have hj : j.toNat + 1 < xs.length := by omega
   have hsj := jnZ_at xs (k := j.toNat + 1)
   have hmj := jnZ_mono xs (show j.toNat + 1 + 1 ≤ xs.length from by omega)
   have hmj2 := jnZ_mono xs (show j.toNat + 1 ≤ xs.length from by omega)
   have hjs : (j + 1).toNat = j.toNat + 1 := by omega
   have hjt := jnB_take (sep := sep) hj
   have hat : at_ xs (1 + j.toNat) = at_ xs (j.toNat + 1) := by rw [Nat.add_comm]
   refine aw_r [(0, .dec true)] [1, 8, 63, 64, 65, 66] [8, 60016] [Sv sep, .ref 8 0, .sl false 1 ((xs.length : Int).toNat - 1) (cutF 1 (fS xs)), I (((xs.length : Int).toNat - 1 : Nat) : Int), I j, Bv true] [some (.bld 134 60016), some (.buf 5 true tx)] [j < (((xs.length : Int).toNat - 1 : Nat) : Int)] hB ⟨h7, trivial⟩ ?_
   refine ae_then ?_
   refine aw_seq ?_
   refine aw_true rfl ?_
   refine aw_skip ?_
   refine ae_then ?_
   refine aw_seq ?_
   refine aw_block ?_
   refine aR [] [1, 8, 10, 63, 64, 65] [8, 60016] [Sv sep, .ref 8 0, Sv (at_ xs (1 + j.toNat)), .sl false 1 ((xs.length : Int).toNat - 1) (cutF 1 (fS xs)), I (((xs.length : Int).toNat - 1 : Nat) : Int), I j] [some (.bld 134 60016), some (.buf 5 true tx)] [(0 : Int) ≤ j ∧ j < (((xs.length : Int).toNat - 1 : Nat) : Int)] hB ⟨⟨(by omega), (by omega)⟩, trivial⟩ ?_
   refine aR [(1, .bw 8 60016 60017 (.string sep) true sep)] [1, 8, 10, 63, 64, 65] [8, 60017] [Sv sep, .ref 8 0, Sv (at_ xs (1 + j.toNat)), .sl false 1 ((xs.length : Int).toNat - 1) (cutF 1 (fS xs)), I (((xs.length : Int).toNat - 1 : Nat) : Int), I j] [some (.bld 134 60017), some (.buf 5 true (tx ++ sep))] [([.ref 8 0, Sv sep] : List AV) = [.ref 8 0, Sv sep] ∧ BwOK Tryz.prog 73 134 5 (.string sep) true tx true sep] hB ⟨⟨rfl, bw_ok (by first | omega | (simp only [ByteArray.size_append]; omega) | (simp only [ByteArray.size_append, hat]; omega))⟩, trivial⟩ ?_
   refine aw_r [(1, .bw 8 60017 60016 (.string (at_ xs (1 + j.toNat))) true (at_ xs (1 + j.toNat)))] [1, 8, 63, 64, 65] [8, 60016] [Sv sep, .ref 8 0, .sl false 1 ((xs.length : Int).toNat - 1) (cutF 1 (fS xs)), I (((xs.length : Int).toNat - 1 : Nat) : Int), I j] [some (.bld 134 60016), some (.buf 5 true ((tx ++ sep) ++ (at_ xs (1 + j.toNat))))] [([.ref 8 0, Sv (at_ xs (1 + j.toNat))] : List AV) = [.ref 8 0, Sv (at_ xs (1 + j.toNat))] ∧ BwOK Tryz.prog 73 134 5 (.string (at_ xs (1 + j.toNat))) true (tx ++ sep) true (at_ xs (1 + j.toNat))] hB ⟨⟨rfl, bw_ok (by first | omega | (simp only [ByteArray.size_append]; omega) | (simp only [ByteArray.size_append, hat]; omega))⟩, trivial⟩ ?_
   refine ae_block 4 ?_
   refine ae_then ?_
   refine aw_r [] [1, 8, 63, 64, 65] [8, 60016] [Sv sep, .ref 8 0, .sl false 1 ((xs.length : Int).toNat - 1) (cutF 1 (fS xs)), I (((xs.length : Int).toNat - 1 : Nat) : Int), I (j + 1)] [some (.bld 134 60016), some (.buf 5 true ((tx ++ sep) ++ (at_ xs (1 + j.toNat))))] [inR .i64 (j + 1)] hB ⟨(inR_i64 (by omega) (by omega)), trivial⟩ ?_
   exact ae_again _ (by omega) ⟨(j + 1), ((tx ++ sep) ++ (at_ xs (1 + j.toNat))), rfl, (by omega), (by rw [hjs, hjt, ← htx, hat]), (by rw [hjs, hsj]; simp only [ByteArray.size_append, hat]; omega), rfl⟩
  have hje : j.toNat + 1 = xs.length := by omega
  rw [hje, List.take_length] at htx
  refine aw_r [(0, .dec false)] [1, 8, 63, 64, 65, 66] [8, 60016] [Sv sep, .ref 8 0, .sl false 1 ((xs.length : Int).toNat - 1) (cutF 1 (fS xs)), I (((xs.length : Int).toNat - 1 : Nat) : Int), I j, Bv false] [some (.bld 134 60016), some (.buf 5 true tx)] [¬ (j < (((xs.length : Int).toNat - 1 : Nat) : Int))] hB ⟨h7, trivial⟩ ?_
  refine ae_then ?_
  refine aw_seq ?_
  refine aw_false rfl ?_
  refine aw_exit ?_
  refine ae_exit_then ?_
  refine ae_exit_then ?_
  refine ae_exit_same ?_
  refine ae_then ?_
  refine aR [(0, .bs 8 60016)] [4] [] [Sv tx] [] [([.ref 8 0] : List AV) = [.ref 8 0] ∧ BsOK Tryz.prog 75 134 5] hB ⟨⟨rfl, bs_ok⟩, trivial⟩ ?_
  refine aw_ret ?_
  refine ae_ret hB (Sv tx) (by kernel_rfl) (.inl (by first | rfl | (rw [jnB_one _ he]; done) | (rw [htx]; done) | (rw [he]; rfl))) rfl (fun _ => trivial)



-- impl.commasOf
theorem commasOf_ok (xs : List Int) (ok : bndI xs) : Con Tryz.prog 72 [slI false xs] true (Sv (comB xs)) := by
  refine fn_ok (fn := Tryz.f72) (nt := 20) Tryz.func72 rfl rfl rfl rfl (by simp [taggedL, tagged, tagI]) fun B hB => ?_
  refine aw_lens (x := slI false xs) 0 rfl (fun len_xs => ?_)
  simp [LenOK, LenL, cI, fI, slI] at len_xs
  refine aR [] [0] [] [slI false xs] [] [] hB trivial ?_
  refine aR [] [0, 3] [] [slI false xs, nilA] [] [] hB trivial ?_
  refine aw_seq ?_
  refine aR [] [3, 6, 7, 8] [] [nilA, slI false xs, I (xs.length : Int), I 0] [] [] hB trivial ?_
  refine aw_block ?_
  refine aw_nil hB 3 703 1 (fun _ => []) (by kernel_rfl) ?_
  refine aw_weak hB [] (T := [(3, .arr 703), (6, slI false xs), (7, I (xs.length : Int)), (8, I 0)]) (O := [(703, tAS ([] : List ByteArray))]) rfl (⟨.inl rfl, .inl rfl, .inl rfl, .inl rfl, trivial⟩) (⟨.inr ⟨rfl, (by first | rfl | (simp; done) | (simp; omega) | omega), fun i_ hi_ => absurd hi_ (Nat.not_lt_zero _)⟩, trivial⟩) ?_
  refine aw_loop (fun gn gσ => ∃ (words : List ByteArray) (k : Int), gn = ((xs.length : Int) - k).toNat ∧ (0 ≤ k ∧ k ≤ (xs.length : Int)) ∧ (words = (xs.take k.toNat).map decB) ∧ gσ = mkS [(3, .arr 703), (6, slI false xs), (7, I (xs.length : Int)), (8, I k)] [(703, tAS words)]) (((xs.length : Int) - 0).toNat) ⟨([] : List ByteArray), 0, rfl, (by omega), (by rfl), rfl⟩ (fun gn gσ hI => ?_)
  obtain ⟨words, k, rfl, hi0, hws, rfl⟩ := hI
  refine aw_seq ?_
  by_cases h1 : k < (xs.length : Int)
  ·have hi : k.toNat < xs.length := by omega
   have hob := ok.2 _ (at_mem hi)
   have okl := ok.1
   have hwl : words.length = k.toNat := by rw [hws]; simp; omega
   refine aw_r [(0, .dec true)] [3, 6, 7, 8, 9] [703] [.arr 703, slI false xs, I (xs.length : Int), I k, Bv true] [some (tAS words)] [k < (xs.length : Int)] hB ⟨h1, trivial⟩ ?_
   refine ae_then ?_
   refine aw_seq ?_
   refine aw_true rfl ?_
   refine aw_skip ?_
   refine ae_then ?_
   refine aw_seq ?_
   refine aw_block ?_
   refine aR [] [3, 5, 6, 7, 8] [703] [.arr 703, I (at_ xs k.toNat), slI false xs, I (xs.length : Int), I k] [some (tAS words)] [(0 : Int) ≤ k ∧ k < (xs.length : Int)] hB ⟨⟨(by omega), (by omega)⟩, trivial⟩ ?_
   refine aw_r [(2, .call [(true, .any)] true (Sv (decB (at_ xs k.toNat)))), (3, .new 15), (4, .new 16)] [3, 6, 7, 8] [16] [.arr 16, slI false xs, I (xs.length : Int), I k] [some (.arr 1 (words.length + 1) (catF words.length (fS words) (litF [Sv (decB (at_ xs k.toNat))] 1)))] [Con Tryz.prog 95 [I (at_ xs k.toNat)] true (Sv (decB (at_ xs k.toNat))) ∧ True, (words.length + 1) * 16 ≤ 140737488355328] hB ⟨⟨(implDecimal_ok (at_ xs k.toNat) (by omega)), trivial⟩, (by omega), trivial⟩ ?_
   refine ae_block 1 ?_
   refine ae_then ?_
   refine aw_r [] [3, 6, 7, 8] [16] [.arr 16, slI false xs, I (xs.length : Int), I (k + 1)] [some (.arr 1 (words.length + 1) (catF words.length (fS words) (litF [Sv (decB (at_ xs k.toNat))] 1)))] [inR .i64 (k + 1)] hB ⟨(inR_i64 (by omega) (by omega)), trivial⟩ ?_
   refine ae_weak hB [(703, 16)] (T := [(3, .arr 703), (6, slI false xs), (7, I (xs.length : Int)), (8, I (k + 1))]) (O := [(703, tAS (words ++ [(decB (at_ xs k.toNat))]))]) rfl (⟨.inl rfl, .inl rfl, .inl rfl, .inl rfl, trivial⟩) (⟨.inr ⟨rfl, (by first | rfl | (simp; done) | (simp; omega) | omega), fun i_ hi_ => .inl (cat_snoc (enc := cS) (xs := words) rfl i_ hi_)⟩, trivial⟩) (ae_again _ (by omega) ⟨(words ++ [(decB (at_ xs k.toNat))]), (k + 1), rfl, (by omega), (by rw [hws]; exact (mapTake_succ (by omega) hi rfl).symm), rfl⟩)
  have hfin : words = xs.map decB := by rw [hws]; exact map_all (by omega)
  refine aw_r [(0, .dec false)] [3, 6, 7, 8, 9] [703] [.arr 703, slI false xs, I (xs.length : Int), I k, Bv false] [some (tAS words)] [¬ (k < (xs.length : Int))] hB ⟨h1, trivial⟩ ?_
  refine ae_then ?_
  refine aw_seq ?_
  refine aw_false rfl ?_
  refine aw_exit ?_
  refine ae_exit_then ?_
  refine ae_exit_then ?_
  refine ae_exit_same ?_
  refine ae_then ?_
  refine aR [(1, .call [(false, slS false words), (true, .any)] true (Sv (jnB (⟨#[44]⟩ : ByteArray) words)))] [2] [] [Sv (jnB (⟨#[44]⟩ : ByteArray) words)] [] [Con Tryz.prog 74 [slS false words, Sv (⟨#[44]⟩ : ByteArray)] true (Sv (jnB (⟨#[44]⟩ : ByteArray) words)) ∧ ((false = true → true = true) ∧ 1 = 1 ∧ words.length = words.length ∧ ∀ i_, i_ < words.length → (fS words) i_ = (fS words) i_ ∨ (AV.idsL ((fS words) i_) = [] ∧ leL (fun _ => none) false ((fS words) i_) ((fS words) i_))) ∧ True] hB ⟨⟨(join_ok words (⟨#[44]⟩ : ByteArray) (by rw [hfin]; exact com_jok ok)), ⟨(fun h => by cases h), rfl, rfl, fun i _ => .inl rfl⟩, trivial⟩, trivial⟩ ?_
  refine aw_ret ?_
  refine ae_ret hB (Sv (jnB (⟨#[44]⟩ : ByteArray) words)) (by kernel_rfl) (.inl (by rw [hfin]; rfl)) rfl (fun _ => trivial)



def ftTx (f : Feat) : ByteArray := comB [f.X, f.Y, f.D]
theorem ft_bnd {f : Feat} (h : okF f = true) : bndI [f.X, f.Y, f.D] := by
  have := okF_iff.1 h
  refine ⟨show 3 ≤ 1000 by decide, fun x hx => ?_⟩
  simp only [List.mem_cons, List.not_mem_nil, or_false] at hx
  rcases hx with rfl | rfl | rfl <;> omega
theorem ftTx_size {f : Feat} (h : okF f = true) : (ftTx f).size ≤ 63 := com_size (ft_bnd h).2
theorem fts_size {l : List Feat} (h : ∀ f ∈ l, okF f = true) : ∀ y ∈ l.map ftTx, y.size ≤ 63 := fun y hy => by
  obtain ⟨f, hf, rfl⟩ := List.mem_map.1 hy
  exact ftTx_size (h f hf)
theorem fts_jok {l : List Feat} (h : ∀ f ∈ l, okF f = true) (hl : l.length ≤ 400) : jok ⟨#[32]⟩ (l.map ftTx) := jok_of (B := 63) (n := 400) rfl (by rw [List.length_map]; exact hl) (fts_size h) (by decide) (by decide)
theorem okFeats_mem {l : List Feat} {m : Int} (h : okFeats l m = true) : ∀ f ∈ l, okF f = true := fun f hf => by
  obtain ⟨j, hj, e⟩ := List.getElem_of_mem hf
  have := okFeats_at h hj
  rw [at_eq hj, e] at this
  exact this
def ftsTx (l : List Feat) : ByteArray := if okFeats l 384 = true then jnB ⟨#[32]⟩ (l.map ftTx) else ⟨#[]⟩

def mpS (f : Point → Point) (s : Stroke) : Stroke := ⟨s.Points.map (f)⟩
def mpI (f : Point → Point) (x : Ink) : Ink := ⟨x.Strokes.map (mpS f)⟩
def mpTo (f : Point → Point) (k : Nat) (s : Stroke) : Stroke := ⟨(s.Points.take k).map (f) ++ s.Points.drop k⟩
def mpFst (f : Point → Point) (i : Nat) (xs : List Stroke) : List Stroke := (xs.take i).map (mpS f) ++ xs.drop i
def mpIn (f : Point → Point) (i k : Nat) (xs : List Stroke) : List Stroke := (mpFst f i xs).set i (mpTo f k (at_ xs i))
section
variable {f : Point → Point} {i k : Int} {xs ys : List Stroke}
end


-- impl.featWords
theorem featWords_ok (list : List Feat) (hb : ∀ f ∈ list, okF f = true) (hl : list.length ≤ 400) : ∃ (v : List ByteArray), (v = list.map ftTx) ∧ Con Tryz.prog 102 [slFeat false list] true (slS true v) := by
  have hh : ∃ r : (List ByteArray), ((r = list.map ftTx) ∧ (True)) ∧ CallOK Tryz.prog 102 [slFeat false list] (lookO []) true (slS true r) (lookO []) := by
    refine fn_okX (Φ := fun r : (List ByteArray) => (r = list.map ftTx) ∧ (True)) [] (fun r => []) (fn := Tryz.f102) (nt := 25) Tryz.func102 rfl rfl (args := [slFeat false list]) rfl (allcons (.inl ⟨rfl, tagFeat false _⟩) allnil) (res := fun r => slS true r) ?_
    refine xR [] [0] [] [slFeat false list] [] [] trivial ?_
    refine xR [] [0, 3] [] [slFeat false list, nilA] [] [] trivial ?_
    refine x_seq ?_
    refine xR [] [3, 6, 7, 8] [] [nilA, slFeat false list, I (list.length : Int), I 0] [] [] trivial ?_
    refine x_block ?_
    refine x_nil 3 703 1 (fun _ => []) (by kernel_rfl) ?_
    refine x_weak [] (T := [(3, .arr 703), (6, slFeat false list), (7, I (list.length : Int)), (8, I 0)]) (O := [(703, tAS ([] : List ByteArray))]) rfl (⟨.inl rfl, .inl rfl, .inl rfl, .inl rfl, trivial⟩) (⟨.inr ⟨rfl, (by first | rfl | (simp; done) | (simp; omega) | omega), fun i_ hi_ => absurd hi_ (Nat.not_lt_zero _)⟩, trivial⟩) ?_
    refine x_loop (X := (List ByteArray) × Int) (fun x => mkS [(3, .arr 703), (6, slFeat false list), (7, I (list.length : Int)), (8, I x.2)] [(703, tAS x.1)]) (fun x => (0 ≤ x.2 ∧ x.2 ≤ (list.length : Int)) ∧ (x.1 = (list.take x.2.toNat).map ftTx) ∧ True) (fun x => ((list.length : Int) - x.2).toNat) (([] : List ByteArray), 0) rfl (show (0 ≤ (0 : Int) ∧ (0 : Int) ≤ (list.length : Int)) ∧ (([] : List ByteArray) = (list.take (0 : Int).toNat).map ftTx) ∧ True from ⟨(by omega), (by rfl), trivial⟩) (fun x hI => ?_)
    obtain ⟨words, t8⟩ := x
    obtain ⟨hi0, hs0, _⟩ : (0 ≤ t8 ∧ t8 ≤ (list.length : Int)) ∧ (words = (list.take t8.toNat).map ftTx) ∧ True := hI
    show XW _ _ _ _ (mkS [(3, .arr 703), (6, slFeat false list), (7, I (list.length : Int)), (8, I t8)] [(703, tAS words)]) _ _
    refine x_seq ?_
    by_cases h1 : t8 < (list.length : Int)
    ·have hi : t8.toNat < list.length := by omega
     have hof := hb _ (at_mem hi)
     have hwl : words.length = t8.toNat := by rw [hs0]; simp; omega
     refine x_r [(0, .dec true)] [3, 6, 7, 8, 9] [703] [.arr 703, slFeat false list, I (list.length : Int), I t8, Bv true] [some (tAS words)] [t8 < (list.length : Int)] ⟨h1, trivial⟩ ?_
     refine xe_then ?_
     refine x_seq ?_
     refine x_true rfl ?_
     refine x_skip ?_
     refine xe_then ?_
     refine x_seq ?_
     refine x_block ?_
     refine xR [(2, .new 5)] [3, 5, 6, 7, 8] [5, 703] [.arr 703, .ref 5 0, slFeat false list, I (list.length : Int), I t8] [some (bxFeat (at_ list t8.toNat)), some (tAS words)] [(0 : Int) ≤ t8 ∧ t8 < (list.length : Int)] ⟨⟨(by omega), (by omega)⟩, trivial⟩ ?_
     refine x_r [(7, .new 19), (8, .call [(false, slI false ([(at_ list t8.toNat).X, (at_ list t8.toNat).Y, (at_ list t8.toNat).D]))] true (Sv (comB ([(at_ list t8.toNat).X, (at_ list t8.toNat).Y, (at_ list t8.toNat).D])))), (9, .new 21), (10, .new 22)] [3, 6, 7, 8] [22] [.arr 22, slFeat false list, I (list.length : Int), I t8] [some (.arr 1 (words.length + 1) (catF words.length (fS words) (litF [Sv (comB ([(at_ list t8.toNat).X, (at_ list t8.toNat).Y, (at_ list t8.toNat).D]))] 1)))] [Con Tryz.prog 72 [slI false ([(at_ list t8.toNat).X, (at_ list t8.toNat).Y, (at_ list t8.toNat).D])] true (Sv (comB ([(at_ list t8.toNat).X, (at_ list t8.toNat).Y, (at_ list t8.toNat).D]))) ∧ ((false = true → true = true) ∧ 1 = 1 ∧ 3 = (([(at_ list t8.toNat).X, (at_ list t8.toNat).Y, (at_ list t8.toNat).D]).length) ∧ ∀ i_, i_ < (([(at_ list t8.toNat).X, (at_ list t8.toNat).Y, (at_ list t8.toNat).D]).length) → (litF [I ((at_ list t8.toNat).X), I ((at_ list t8.toNat).Y), I ((at_ list t8.toNat).D)] 1) i_ = (fI ([(at_ list t8.toNat).X, (at_ list t8.toNat).Y, (at_ list t8.toNat).D])) i_ ∨ (AV.idsL ((fI ([(at_ list t8.toNat).X, (at_ list t8.toNat).Y, (at_ list t8.toNat).D])) i_) = [] ∧ leL (fun _ => none) false ((litF [I ((at_ list t8.toNat).X), I ((at_ list t8.toNat).Y), I ((at_ list t8.toNat).D)] 1) i_) ((fI ([(at_ list t8.toNat).X, (at_ list t8.toNat).Y, (at_ list t8.toNat).D])) i_))) ∧ True, (words.length + 1) * 16 ≤ 140737488355328] ⟨⟨(commasOf_ok ([(at_ list t8.toNat).X, (at_ list t8.toNat).Y, (at_ list t8.toNat).D]) (ft_bnd hof)), ⟨(fun h => by cases h), rfl, (by first | rfl | (simp; done) | (simp; omega) | omega), fun i_ hi_ => .inl (match i_, hi_ with | 0, _ => rfl | 1, _ => rfl | 2, _ => rfl | (i + 3), h => absurd h (by simp))⟩, trivial⟩, (by omega), trivial⟩ ?_
     refine xe_block 1 ?_
     refine xe_then ?_
     refine x_r [] [3, 6, 7, 8] [22] [.arr 22, slFeat false list, I (list.length : Int), I (t8 + 1)] [some (.arr 1 (words.length + 1) (catF words.length (fS words) (litF [Sv (comB ([(at_ list t8.toNat).X, (at_ list t8.toNat).Y, (at_ list t8.toNat).D]))] 1)))] [inR .i64 (t8 + 1)] ⟨(inR_i64 (by omega) (by omega)), trivial⟩ ?_
     refine xe_weak [(703, 22)] (T := [(3, .arr 703), (6, slFeat false list), (7, I (list.length : Int)), (8, I (t8 + 1))]) (O := [(703, tAS (words ++ [(comB ([(at_ list t8.toNat).X, (at_ list t8.toNat).Y, (at_ list t8.toNat).D]))]))]) rfl (⟨.inl rfl, .inl rfl, .inl rfl, .inl rfl, trivial⟩) (⟨.inr ⟨rfl, (by first | rfl | (simp; done) | (simp; omega) | omega), fun i_ hi_ => .inl (cat_snoc (enc := cS) (xs := words) rfl i_ hi_)⟩, trivial⟩) (xe_again ((words ++ [(comB ([(at_ list t8.toNat).X, (at_ list t8.toNat).Y, (at_ list t8.toNat).D]))]), (t8 + 1)) rfl (show (0 ≤ (t8 + 1) ∧ (t8 + 1) ≤ (list.length : Int)) ∧ ((words ++ [(comB ([(at_ list t8.toNat).X, (at_ list t8.toNat).Y, (at_ list t8.toNat).D]))]) = (list.take (t8 + 1).toNat).map ftTx) ∧ True from ⟨(by omega), (by rw [hs0]; exact (mapTake_succ (by omega) hi rfl).symm), trivial⟩) (by first | (show (((list.length : Int) - (t8 + 1)).toNat : Nat) < ((list.length : Int) - t8).toNat; omega) | (dsimp only; omega)))
    have hfin : words = list.map ftTx := by rw [hs0]; exact map_all (by omega)
    refine x_r [(0, .dec false)] [3, 6, 7, 8, 9] [703] [.arr 703, slFeat false list, I (list.length : Int), I t8, Bv false] [some (tAS words)] [¬ (t8 < (list.length : Int))] ⟨h1, trivial⟩ ?_
    refine xe_then ?_
    refine x_seq ?_
    refine x_false rfl ?_
    refine x_exit ?_
    refine xe_exit_then ?_
    refine xe_loop_exit ?_
    refine xe_exit_same ?_
    refine xe_then ?_
    refine xR [] [2] [703] [.arr 703] [some (tAS words)] [] trivial ?_
    refine x_ret ?_
    refine xe_end words (show (words = list.map ftTx) ∧ (True) from ⟨(by exact hfin), trivial⟩) (trivial) (.arr 703) (by kernel_rfl) (.inr ⟨(fun _ => rfl), rfl, rfl, fun i _ => .inl rfl⟩) (fun _ => rfl) (fun _ => (tagS true _))
  obtain ⟨v, ⟨hh0, _⟩, hc⟩ := hh
  exact ⟨v, hh0, hc⟩



def hdS : ByteArray := ⟨#[115, 116, 111, 114, 101, 32]⟩
def hdT : ByteArray := ⟨#[116, 101, 109, 112, 108, 97, 116, 101, 32]⟩
def tmLn (t : Template) : ByteArray := (((hdT ++ t.Label) ++ ⟨#[32]⟩) ++ jnB ⟨#[32]⟩ (t.Feats.map ftTx))
def stLns (s : Store) : List ByteArray := (hdS ++ decB s.Band) :: s.Templates.map tmLn
def stTx (s : Store) : ByteArray := if okStore' s = true then linesX (stLns s) (s.Templates.length + 1) else ⟨#[]⟩
theorem stLns_at {s : Store} {k : Nat} (h : k < s.Templates.length) : at_ (stLns s) (k + 1) = tmLn (at_ s.Templates k) := by
  have : at_ (stLns s) (k + 1) = at_ (s.Templates.map tmLn) k := by simp [stLns, at_]
  rw [this, at_mapB h]
theorem tmLn_size {t : Template} (h : okTm t = true) : (tmLn t).size ≤ 5000 := by
  have q := okTm_iff'.1 h
  have q2 := q.1
  simp only [okLabel, Bool.and_eq_true, decide_eq_true_eq] at q2
  have hn := okFeats_n q.2
  have h1 := jnB_le (sep := ⟨#[32]⟩) rfl (fts_size (l := t.Feats) (okFeats_mem q.2))
  rw [List.length_map] at h1
  have e1 : hdT.size = 9 := rfl
  have e2 : (⟨#[32]⟩ : ByteArray).size = 1 := rfl
  unfold tmLn
  simp only [ByteArray.size_append]
  omega
theorem stLns_size {s : Store} (h : okStore' s = true) : ∀ y ∈ stLns s, y.size ≤ 5000 := fun y hy => by
  rcases List.mem_cons.1 hy with rfl | hy
  · have hb := (okStore_iff.1 h).1
    have := decB_size (n := s.Band) (by omega)
    have e1 : hdS.size = 6 := rfl
    rw [ByteArray.size_append]; omega
  · obtain ⟨t, ht, rfl⟩ := List.mem_map.1 hy
    exact tmLn_size (okStM h t ht)
theorem stL_size {s : Store} (h : okStore' s = true) {k : Nat} (hk : k ≤ s.Templates.length + 1) : (linesX (stLns s) k).size ≤ 210000 := by
  have h1 := linesX_size (stLns_size h) k (by simp [stLns]; exact hk)
  have := (okStore_iff.1 h).2.1
  omega


-- impl.StoreText
theorem StoreText_ok (s : Store) (ok : okStore s) : Con Tryz.prog 52 [agStore s] true (Sv (stTx s)) := by
  refine fn_ok (fn := Tryz.f52) (nt := 35) Tryz.func52 rfl rfl rfl rfl (by simp [taggedL, tagged, tagTemplate]) fun B hB => ?_
  refine aw_lens (x := agStore s) 0 rfl (fun len_s => ?_)
  simp [LenOK, LenL, cFeat, cTemplate, fFeat, fTemplate, slFeat, slTemplate] at len_s
  refine aR [(0, .new 1)] [1] [1] [.ref 1 0] [some (bxStore s)] [] hB trivial ?_
  refine aw_seq ?_
  refine aw_seq ?_
  rcases Bool.eq_false_or_eq_true (okStore' s) with h1 | h1
  ·have hok := h1
   have hb := (okStore_iff.1 hok).1
   have hn40 := (okStore_iff.1 hok).2.1
   have hdz := decB_size (n := s.Band) (by omega)
   have h00 : (⟨#[]⟩ : ByteArray).size = 0 := rfl
   have h10 : (⟨#[10]⟩ : ByteArray).size = 1 := rfl
   have h32 : (⟨#[32]⟩ : ByteArray).size = 1 := rfl
   have hh1 : hdS.size = 6 := rfl
   have hh2 : hdT.size = 9 := rfl
   have hq1 : (⟨#[115, 116, 111, 114, 101, 32]⟩ : ByteArray).size = 6 := rfl
   have hq2 : (⟨#[116, 101, 109, 112, 108, 97, 116, 101, 32]⟩ : ByteArray).size = 9 := rfl
   refine aw_r [(1, .call [(true, .any)] true (Bv true))] [1, 8] [1] [.ref 1 0, Bv false] [some (bxStore s)] [Con Tryz.prog 112 [agStore s] true (Bv true) ∧ True] hB ⟨⟨(con_bool h1 (ValidStore_ok s ok)), trivial⟩, trivial⟩ ?_
   refine ae_then ?_
   refine aw_false rfl ?_
   refine aw_skip ?_
   refine ae_then ?_
   refine aR [(0, .newb 3 60006 5)] [1, 3] [1, 3, 60006] [.ref 1 0, .ref 3 0] [some (bxStore s), some (.bld 134 60006), some (.buf 5 false (⟨#[]⟩ : ByteArray))] [] hB trivial ?_
   refine aR [(2, .call [(true, .any)] true (Sv (decB s.Band))), (5, .bw 3 60006 60007 (.string (((⟨#[115, 116, 111, 114, 101, 32]⟩ : ByteArray) ++ (decB s.Band)) ++ (⟨#[10]⟩ : ByteArray))) false (((⟨#[115, 116, 111, 114, 101, 32]⟩ : ByteArray) ++ (decB s.Band)) ++ (⟨#[10]⟩ : ByteArray)))] [1, 3] [1, 3, 60007] [.ref 1 0, .ref 3 0] [some (bxStore s), some (.bld 134 60007), some (.buf 5 false ((⟨#[]⟩ : ByteArray) ++ (((⟨#[115, 116, 111, 114, 101, 32]⟩ : ByteArray) ++ (decB s.Band)) ++ (⟨#[10]⟩ : ByteArray))))] [Con Tryz.prog 95 [I s.Band] true (Sv (decB s.Band)) ∧ True, (⟨#[115, 116, 111, 114, 101, 32]⟩ : ByteArray).size + (decB s.Band).size ≤ 9223372036854775807, ((⟨#[115, 116, 111, 114, 101, 32]⟩ : ByteArray) ++ (decB s.Band)).size + (⟨#[10]⟩ : ByteArray).size ≤ 9223372036854775807, ([.ref 3 0, Sv (((⟨#[115, 116, 111, 114, 101, 32]⟩ : ByteArray) ++ (decB s.Band)) ++ (⟨#[10]⟩ : ByteArray))] : List AV) = [.ref 3 0, Sv (((⟨#[115, 116, 111, 114, 101, 32]⟩ : ByteArray) ++ (decB s.Band)) ++ (⟨#[10]⟩ : ByteArray))] ∧ BwOK Tryz.prog 73 134 5 (.string (((⟨#[115, 116, 111, 114, 101, 32]⟩ : ByteArray) ++ (decB s.Band)) ++ (⟨#[10]⟩ : ByteArray))) false (⟨#[]⟩ : ByteArray) false (((⟨#[115, 116, 111, 114, 101, 32]⟩ : ByteArray) ++ (decB s.Band)) ++ (⟨#[10]⟩ : ByteArray))] hB ⟨⟨(implDecimal_ok s.Band (by omega)), trivial⟩, (by (try rw [hfw]); (try simp only [ByteArray.size_append]); omega), (by (try rw [hfw]); (try simp only [ByteArray.size_append]); omega), ⟨rfl, bw_ok (by (try rw [hfw]); (try simp only [ByteArray.size_append]); omega)⟩, trivial⟩ ?_
   refine aw_seq ?_
   refine aR [] [3, 16, 17, 18] [3, 60007] [.ref 3 0, slTemplate false s.Templates, I (s.Templates.length : Int), I 0] [some (.bld 134 60007), some (.buf 5 false ((⟨#[]⟩ : ByteArray) ++ (((⟨#[115, 116, 111, 114, 101, 32]⟩ : ByteArray) ++ (decB s.Band)) ++ (⟨#[10]⟩ : ByteArray))))] [] hB trivial ?_
   refine aw_block ?_
   refine aw_loop (fun gn gσ => ∃ (k : Int) (tx : ByteArray), gn = ((s.Templates.length : Int) - k).toNat ∧ (0 ≤ k ∧ k ≤ (s.Templates.length : Int)) ∧ (tx = linesX (stLns s) (k.toNat + 1)) ∧ gσ = mkS [(3, .ref 3 0), (16, slTemplate false s.Templates), (17, I (s.Templates.length : Int)), (18, I k)] [(3, .bld 134 60007), (60007, .buf 5 false tx)]) (((s.Templates.length : Int) - 0).toNat) ⟨0, ((⟨#[]⟩ : ByteArray) ++ (((⟨#[115, 116, 111, 114, 101, 32]⟩ : ByteArray) ++ (decB s.Band)) ++ (⟨#[10]⟩ : ByteArray))), rfl, (by omega), (by (show _ = linesX (stLns s) (0 + 1); simp only [linesX, nil_ba]; rfl)), rfl⟩ (fun gn gσ hI => ?_)
   obtain ⟨k, tx, rfl, hi0, htx, rfl⟩ := hI
   refine aw_seq ?_
   by_cases h2 : k < (s.Templates.length : Int)
   ·have hi : k.toNat < s.Templates.length := by omega
    have htm := (okStore_iff.1 hok).2.2 _ hi
    have htq := okTm_iff'.1 htm
    have hfn := okFeats_n htq.2
    have hfm := okFeats_mem htq.2
    have hlz := tmLn_size htm
    have hzl := stL_size hok (k := k.toNat + 1) (by omega)
    rw [← htx] at hzl
    have hks : (k + 1).toNat = k.toNat + 1 := by omega
    have hl1 : (at_ s.Templates k.toNat).Label.size = 1 := by have q2 := htq.1; simp only [okLabel, Bool.and_eq_true, decide_eq_true_eq] at q2; exact q2.1
    have hjz : (jnB ⟨#[32]⟩ ((at_ s.Templates k.toNat).Feats.map ftTx)).size ≤ 5000 := by have q := hlz; unfold tmLn at q; simp only [ByteArray.size_append] at q; omega
    refine aw_r [(0, .dec true)] [3, 16, 17, 18, 19] [3, 60007] [.ref 3 0, slTemplate false s.Templates, I (s.Templates.length : Int), I k, Bv true] [some (.bld 134 60007), some (.buf 5 false tx)] [k < (s.Templates.length : Int)] hB ⟨h2, trivial⟩ ?_
    refine ae_then ?_
    refine aw_seq ?_
    refine aw_true rfl ?_
    refine aw_skip ?_
    refine ae_then ?_
    refine aw_seq ?_
    refine aw_block ?_
    refine aR [(2, .new 5)] [3, 5, 16, 17, 18] [3, 5, 60007] [.ref 3 0, .ref 5 0, slTemplate false s.Templates, I (s.Templates.length : Int), I k] [some (.bld 134 60007), some (bxTemplate (at_ s.Templates k.toNat)), some (.buf 5 false tx)] [(0 : Int) ≤ k ∧ k < (s.Templates.length : Int)] hB ⟨⟨(by omega), (by omega)⟩, trivial⟩ ?_
    obtain ⟨v_1, hx1_0, hc1⟩ := featWords_ok ((at_ s.Templates k.toNat).Feats) hfm (by omega)
    have hfw := hx1_0
    refine aw_r [(6, .call [(true, .any)] true (slS true v_1)), (7, .call [(false, slS false v_1), (true, .any)] true (Sv (jnB (⟨#[32]⟩ : ByteArray) v_1))), (10, .bw 3 60007 60006 (.string (((((⟨#[116, 101, 109, 112, 108, 97, 116, 101, 32]⟩ : ByteArray) ++ ((at_ s.Templates k.toNat).Label)) ++ (⟨#[32]⟩ : ByteArray)) ++ (jnB (⟨#[32]⟩ : ByteArray) v_1)) ++ (⟨#[10]⟩ : ByteArray))) false (((((⟨#[116, 101, 109, 112, 108, 97, 116, 101, 32]⟩ : ByteArray) ++ ((at_ s.Templates k.toNat).Label)) ++ (⟨#[32]⟩ : ByteArray)) ++ (jnB (⟨#[32]⟩ : ByteArray) v_1)) ++ (⟨#[10]⟩ : ByteArray)))] [3, 16, 17, 18] [3, 60006] [.ref 3 0, slTemplate false s.Templates, I (s.Templates.length : Int), I k] [some (.bld 134 60006), some (.buf 5 false (tx ++ (((((⟨#[116, 101, 109, 112, 108, 97, 116, 101, 32]⟩ : ByteArray) ++ ((at_ s.Templates k.toNat).Label)) ++ (⟨#[32]⟩ : ByteArray)) ++ (jnB (⟨#[32]⟩ : ByteArray) v_1)) ++ (⟨#[10]⟩ : ByteArray))))] [(⟨#[116, 101, 109, 112, 108, 97, 116, 101, 32]⟩ : ByteArray).size + ((at_ s.Templates k.toNat).Label).size ≤ 9223372036854775807, ((⟨#[116, 101, 109, 112, 108, 97, 116, 101, 32]⟩ : ByteArray) ++ ((at_ s.Templates k.toNat).Label)).size + (⟨#[32]⟩ : ByteArray).size ≤ 9223372036854775807, Con Tryz.prog 102 [slFeat false ((at_ s.Templates k.toNat).Feats)] true (slS true v_1) ∧ True, Con Tryz.prog 74 [slS false v_1, Sv (⟨#[32]⟩ : ByteArray)] true (Sv (jnB (⟨#[32]⟩ : ByteArray) v_1)) ∧ ((false = true → true = true) ∧ 1 = 1 ∧ v_1.length = v_1.length ∧ ∀ i_, i_ < v_1.length → (fS v_1) i_ = (fS v_1) i_ ∨ (AV.idsL ((fS v_1) i_) = [] ∧ leL (fun _ => none) false ((fS v_1) i_) ((fS v_1) i_))) ∧ True, (((⟨#[116, 101, 109, 112, 108, 97, 116, 101, 32]⟩ : ByteArray) ++ ((at_ s.Templates k.toNat).Label)) ++ (⟨#[32]⟩ : ByteArray)).size + (jnB (⟨#[32]⟩ : ByteArray) v_1).size ≤ 9223372036854775807, ((((⟨#[116, 101, 109, 112, 108, 97, 116, 101, 32]⟩ : ByteArray) ++ ((at_ s.Templates k.toNat).Label)) ++ (⟨#[32]⟩ : ByteArray)) ++ (jnB (⟨#[32]⟩ : ByteArray) v_1)).size + (⟨#[10]⟩ : ByteArray).size ≤ 9223372036854775807, ([.ref 3 0, Sv (((((⟨#[116, 101, 109, 112, 108, 97, 116, 101, 32]⟩ : ByteArray) ++ ((at_ s.Templates k.toNat).Label)) ++ (⟨#[32]⟩ : ByteArray)) ++ (jnB (⟨#[32]⟩ : ByteArray) v_1)) ++ (⟨#[10]⟩ : ByteArray))] : List AV) = [.ref 3 0, Sv (((((⟨#[116, 101, 109, 112, 108, 97, 116, 101, 32]⟩ : ByteArray) ++ ((at_ s.Templates k.toNat).Label)) ++ (⟨#[32]⟩ : ByteArray)) ++ (jnB (⟨#[32]⟩ : ByteArray) v_1)) ++ (⟨#[10]⟩ : ByteArray))] ∧ BwOK Tryz.prog 73 134 5 (.string (((((⟨#[116, 101, 109, 112, 108, 97, 116, 101, 32]⟩ : ByteArray) ++ ((at_ s.Templates k.toNat).Label)) ++ (⟨#[32]⟩ : ByteArray)) ++ (jnB (⟨#[32]⟩ : ByteArray) v_1)) ++ (⟨#[10]⟩ : ByteArray))) false tx false (((((⟨#[116, 101, 109, 112, 108, 97, 116, 101, 32]⟩ : ByteArray) ++ ((at_ s.Templates k.toNat).Label)) ++ (⟨#[32]⟩ : ByteArray)) ++ (jnB (⟨#[32]⟩ : ByteArray) v_1)) ++ (⟨#[10]⟩ : ByteArray))] hB ⟨(by (try rw [hfw]); (try simp only [ByteArray.size_append]); omega), (by (try rw [hfw]); (try simp only [ByteArray.size_append]); omega), ⟨hc1, trivial⟩, ⟨(join_ok v_1 (⟨#[32]⟩ : ByteArray) (by rw [hfw]; exact fts_jok hfm (by omega))), ⟨(fun h => by cases h), rfl, rfl, fun i _ => .inl rfl⟩, trivial⟩, (by (try rw [hfw]); (try simp only [ByteArray.size_append]); omega), (by (try rw [hfw]); (try simp only [ByteArray.size_append]); omega), ⟨rfl, bw_ok (by (try rw [hfw]); (try simp only [ByteArray.size_append]); omega)⟩, trivial⟩ ?_
    refine ae_block 1 ?_
    refine ae_then ?_
    refine aw_r [] [3, 16, 17, 18] [3, 60006] [.ref 3 0, slTemplate false s.Templates, I (s.Templates.length : Int), I (k + 1)] [some (.bld 134 60006), some (.buf 5 false (tx ++ (((((⟨#[116, 101, 109, 112, 108, 97, 116, 101, 32]⟩ : ByteArray) ++ ((at_ s.Templates k.toNat).Label)) ++ (⟨#[32]⟩ : ByteArray)) ++ (jnB (⟨#[32]⟩ : ByteArray) v_1)) ++ (⟨#[10]⟩ : ByteArray))))] [inR .i64 (k + 1)] hB ⟨(inR_i64 (by omega) (by omega)), trivial⟩ ?_
    refine ae_weak hB [(60007, 60006)] (T := [(3, .ref 3 0), (16, slTemplate false s.Templates), (17, I (s.Templates.length : Int)), (18, I (k + 1))]) (O := [(3, .bld 134 60007), (60007, .buf 5 false (tx ++ (((((⟨#[116, 101, 109, 112, 108, 97, 116, 101, 32]⟩ : ByteArray) ++ ((at_ s.Templates k.toNat).Label)) ++ (⟨#[32]⟩ : ByteArray)) ++ (jnB (⟨#[32]⟩ : ByteArray) v_1)) ++ (⟨#[10]⟩ : ByteArray))))]) rfl (⟨.inl rfl, .inl rfl, .inl rfl, .inl rfl, trivial⟩) (⟨.inl rfl, .inl rfl, trivial⟩) (ae_again _ (by omega) ⟨(k + 1), (tx ++ (((((⟨#[116, 101, 109, 112, 108, 97, 116, 101, 32]⟩ : ByteArray) ++ ((at_ s.Templates k.toNat).Label)) ++ (⟨#[32]⟩ : ByteArray)) ++ (jnB (⟨#[32]⟩ : ByteArray) v_1)) ++ (⟨#[10]⟩ : ByteArray))), rfl, (by omega), (by rw [hks, linesX, stLns_at hi, ← htx, hfw]; simp only [tmLn, hdT, ByteArray.append_assoc]), rfl⟩)
   have hke : k.toNat = s.Templates.length := by omega
   rw [hke] at htx
   refine aw_r [(0, .dec false)] [3, 16, 17, 18, 19] [3, 60007] [.ref 3 0, slTemplate false s.Templates, I (s.Templates.length : Int), I k, Bv false] [some (.bld 134 60007), some (.buf 5 false tx)] [¬ (k < (s.Templates.length : Int))] hB ⟨h2, trivial⟩ ?_
   refine ae_then ?_
   refine aw_seq ?_
   refine aw_false rfl ?_
   refine aw_exit ?_
   refine ae_exit_then ?_
   refine ae_exit_then ?_
   refine ae_exit_same ?_
   refine ae_then ?_
   refine aR [(0, .bs 3 60007)] [2] [] [Sv tx] [] [([.ref 3 0] : List AV) = [.ref 3 0] ∧ BsOK Tryz.prog 75 134 5] hB ⟨⟨rfl, bs_ok⟩, trivial⟩ ?_
   refine aw_ret ?_
   refine ae_ret hB (Sv tx) (by kernel_rfl) (.inl (by first | (rw [stTx, if_pos hok, htx]; done) | (rw [stTx, if_neg (by simp [*])]; done))) rfl (fun _ => trivial)
  refine aw_r [(1, .call [(true, .any)] true (Bv false))] [1, 8] [1] [.ref 1 0, Bv true] [some (bxStore s)] [Con Tryz.prog 112 [agStore s] true (Bv false) ∧ True] hB ⟨⟨(con_bool h1 (ValidStore_ok s ok)), trivial⟩, trivial⟩ ?_
  refine ae_then ?_
  refine aw_true rfl ?_
  refine aR [] [2] [] [Sv (⟨#[]⟩ : ByteArray)] [] [] hB trivial ?_
  refine aw_ret ?_
  refine ae_ret_then ?_
  refine ae_ret hB (Sv (⟨#[]⟩ : ByteArray)) (by kernel_rfl) (.inl (by first | (rw [stTx, if_pos hok, htx]; done) | (rw [stTx, if_neg (by simp [*])]; done))) rfl (fun _ => trivial)



-- strings.HasSuffix
theorem hasSuffix_ok (s p : ByteArray) (hs : s.size ≤ 9223372036854775807) : Con Tryz.prog 148 [Sv s, Sv p] true (Bv (sufB s p)) := by
  refine con_of_calls (vals := [.string s, .string p]) fun w _ => ?_
  refine (Tryz.strings_HasSuffix s p w hs).mono ?_
  rintro e w' ⟨rfl, rfl⟩
  exact ⟨rfl, Below.refl _ _⟩



-- strings.TrimSuffix
theorem trimSuffix_ok (s p : ByteArray) (hs : s.size ≤ 9223372036854775807) : Con Tryz.prog 150 [Sv s, Sv p] true (Sv (trsB s p)) := by
  refine con_of_calls (vals := [.string s, .string p]) fun w _ => ?_
  refine (Tryz.strings_TrimSuffix s p w hs).mono ?_
  rintro e w' ⟨rfl, rfl⟩
  exact ⟨rfl, Below.refl _ _⟩



-- strings.Split
set_option maxHeartbeats 2000000 in
set_option maxRecDepth 100000 in
theorem split_ok (s sep : ByteArray) (hs : s.size ≤ 140737488 ∧ True) (h1 : sep.size = 1) : Con Tryz.prog 149 [Sv s, Sv sep] true (slS true (splB sep s)) := by
  obtain ⟨c, rfl⟩ := Lib.one_byte sep h1
  have hle := Lib.countB_le ⟨#[c]⟩ (by omega) s.size s (Nat.le_refl _)
  have hlen := splB_length (s := s) h1
  have hcell : ∀ i, i < Lib.countB s ⟨#[c]⟩ + 1 → (((Lib.splitB ⟨#[c]⟩ 0 (Lib.countB s ⟨#[c]⟩) s).map Value.string).toArray)[i]? = some (.string (at_ (splB ⟨#[c]⟩ s) i)) ∧ (Value.string (at_ (splB ⟨#[c]⟩ s) i)).oneCell' = true := fun i hi => by
    have hi2 : i < (Lib.splitB ⟨#[c]⟩ 0 (Lib.countB s ⟨#[c]⟩) s).length := by omega
    refine ⟨?_, rfl⟩
    have e : at_ (splB ⟨#[c]⟩ s) i = (Lib.splitB ⟨#[c]⟩ 0 (Lib.countB s ⟨#[c]⟩) s)[i] := at_eq hi2
    rw [e]
    simp [List.getElem?_eq_getElem hi2]
  have hmain := con_of_calls_sl (P := Tryz.prog) (f := 149) (vals := [.string s, .string ⟨#[c]⟩]) (n := Lib.countB s ⟨#[c]⟩ + 1) (T := 9) (cs := ((Lib.splitB ⟨#[c]⟩ 0 (Lib.countB s ⟨#[c]⟩) s).map Value.string).toArray) (g := fun i => .string (at_ (splB ⟨#[c]⟩ s) i)) (by unfold maxLen; omega) hcell ?_
  · have e : slS true (splB ⟨#[c]⟩ s) = .sl true 1 (Lib.countB s ⟨#[c]⟩ + 1) fun i => [Sv (at_ (splB ⟨#[c]⟩ s) i)] := by
      rw [← hlen]; rfl
    rw [e]
    exact hmain
  · intro w _
    have hI : ∀ (x : ByteArray) (d : Array Value), x.size ≤ s.size → Calls Tryz.prog 258 #[.string x, .string ⟨#[c]⟩] (w.alloc (.cells d 9)) fun e w' => e = .returned (.int .i64 (Lib.indexB x ⟨#[c]⟩)) ∧ w' = w.alloc (.cells d 9) := fun x d _ => by
      have := Tryz.strings_Index_one x c (w.alloc (.cells d 9))
      have e : Lib.indexB x ⟨#[c]⟩ = Lib.indexByte x.data.toList c := Lib.index_one _ _
      rw [e]
      exact this
    have hC : Calls Tryz.prog 257 #[.string s, .string ⟨#[c]⟩] w fun e w' => e = .returned (.int .i64 (Lib.countB s ⟨#[c]⟩)) ∧ w' = w := by
      have := Tryz.strings_Count_one s c w
      have e : Lib.countB s ⟨#[c]⟩ = Lib.countByte s.data.toList c := Lib.count_one c _
      rw [e]
      exact this
    have hcore := Any.strings_genSplit_core Tryz.lays221 (by kernel_rfl) s ⟨#[c]⟩ 0 (-1) (Lib.countB s ⟨#[c]⟩ + 1) w (by omega) (by omega) (Nat.zero_le _) hI hC (by decide) (by decide) (by rw [if_pos (by decide)]; omega)
    rw [Nat.add_sub_cancel, hlen] at hcore
    have e2 : Lib.cellsOf (Lib.splitB ⟨#[c]⟩ 0 (Lib.countB s ⟨#[c]⟩) s) (Lib.countB s ⟨#[c]⟩ + 1) = ((Lib.splitB ⟨#[c]⟩ 0 (Lib.countB s ⟨#[c]⟩) s).map Value.string).toArray := by rw [← hlen]; exact Lib.cellsOf_full _
    rw [e2] at hcore
    go_enter Tryz.func149, Tryz.ntmps149
    go_wp2_with (go_at_call 212; refine hcore.mono ?_; rintro e w' ⟨rfl, hw⟩; rw [hw])
    go_ret
    exact ⟨rfl, rfl⟩



-- impl.linesOf
theorem linesOf_ok (s : ByteArray) (ok : linOk s) : ∃ (ls : List ByteArray) (k : Bool), (ls = linB s) ∧ (k = true) ∧ Con Tryz.prog 69 [Sv s] true (.tup [slS true ls, Bv k]) := by
  have hz := ok.1
  have hh : ∃ r : (List ByteArray) × Bool, ((r.1 = linB s) ∧ (r.2 = true) ∧ (True)) ∧ CallOK Tryz.prog 69 [Sv s] (lookO []) true (.tup [slS true r.1, Bv r.2]) (lookO []) := by
    refine fn_okX (Φ := fun r : (List ByteArray) × Bool => (r.1 = linB s) ∧ (r.2 = true) ∧ (True)) [] (fun r => []) (fn := Tryz.f69) (nt := 12) Tryz.func69 rfl rfl (args := [Sv s]) rfl (allcons (.inl ⟨rfl, trivial⟩) allnil) (res := fun r => .tup [slS true r.1, Bv r.2]) ?_
    refine xR [] [0] [] [Sv s] [] [] trivial ?_
    refine x_seq ?_
    refine x_seq ?_
    by_cases h1 : s = (⟨#[]⟩ : ByteArray)
    ·have hlb : linB s = [] := by rw [linB, if_pos h1]
     refine x_r [(1, .dec true)] [0, 5] [] [Sv s, Bv true] [] [s = (⟨#[]⟩ : ByteArray)] ⟨h1, trivial⟩ ?_
     refine xe_then ?_
     refine x_true rfl ?_
     refine xR [] [2, 3] [] [nilA, Bv true] [] [] trivial ?_
     refine x_ret ?_
     refine xe_ret_then ?_
     refine xe_end (([] : List ByteArray), true) (show (([] : List ByteArray) = linB s) ∧ (true = true) ∧ (True) from ⟨(by first | exact hlb.symm | rfl), (by first | exact hlb.symm | rfl), trivial⟩) (trivial) (.tup [nilA, Bv true]) (by kernel_rfl) (.inr ⟨⟨rfl, rfl⟩, ⟨rfl, rfl⟩⟩) (fun _ => rfl) (fun _ => (by simp [tagged, taggedL, tagS]))
    have hse := h1
    have hlb : linB s = splB ⟨#[10]⟩ (trsB s ⟨#[10]⟩) := by rw [linB, if_neg hse]
    refine x_r [(1, .dec false)] [0, 5] [] [Sv s, Bv false] [] [¬ (s = (⟨#[]⟩ : ByteArray))] ⟨h1, trivial⟩ ?_
    refine xe_then ?_
    refine x_false rfl ?_
    refine x_skip ?_
    refine xe_then ?_
    refine x_seq ?_
    refine xR [(1, .call [(true, .any), (true, .any)] true (Bv true))] [0, 8] [] [Sv s, Bv false] [] [Con Tryz.prog 148 [Sv s, Sv (⟨#[10]⟩ : ByteArray)] true (Bv true) ∧ True] ⟨⟨(con_bool (ok.2.resolve_left hse) (hasSuffix_ok s (⟨#[10]⟩ : ByteArray) (by omega))), trivial⟩, trivial⟩ ?_
    refine x_false rfl ?_
    refine x_skip ?_
    refine xe_then ?_
    refine xR [(1, .call [(true, .any), (true, .any)] true (Sv (trsB s (⟨#[10]⟩ : ByteArray)))), (2, .call [(true, .any), (true, .any)] true (slS true (splB (⟨#[10]⟩ : ByteArray) (trsB s (⟨#[10]⟩ : ByteArray)))))] [2, 3] [] [slS true (splB (⟨#[10]⟩ : ByteArray) (trsB s (⟨#[10]⟩ : ByteArray))), Bv true] [] [Con Tryz.prog 150 [Sv s, Sv (⟨#[10]⟩ : ByteArray)] true (Sv (trsB s (⟨#[10]⟩ : ByteArray))) ∧ True, Con Tryz.prog 149 [Sv (trsB s (⟨#[10]⟩ : ByteArray)), Sv (⟨#[10]⟩ : ByteArray)] true (slS true (splB (⟨#[10]⟩ : ByteArray) (trsB s (⟨#[10]⟩ : ByteArray)))) ∧ True] ⟨⟨(trimSuffix_ok s (⟨#[10]⟩ : ByteArray) (by omega)), trivial⟩, ⟨(split_ok (trsB s (⟨#[10]⟩ : ByteArray)) (⟨#[10]⟩ : ByteArray) ⟨by have := trsB_size s ⟨#[10]⟩; omega, trivial⟩ rfl), trivial⟩, trivial⟩ ?_
    refine x_ret ?_
    refine xe_end ((splB (⟨#[10]⟩ : ByteArray) (trsB s (⟨#[10]⟩ : ByteArray))), true) (show ((splB (⟨#[10]⟩ : ByteArray) (trsB s (⟨#[10]⟩ : ByteArray))) = linB s) ∧ (true = true) ∧ (True) from ⟨(by first | exact hlb.symm | rfl), (by first | exact hlb.symm | rfl), trivial⟩) (trivial) (.tup [slS true (splB (⟨#[10]⟩ : ByteArray) (trsB s (⟨#[10]⟩ : ByteArray))), Bv true]) (by kernel_rfl) (.inl rfl) (fun _ => rfl) (fun _ => (by simp [tagged, taggedL, tagS]))
  obtain ⟨⟨ls, k⟩, ⟨hh0, hh1, _⟩, hc⟩ := hh
  exact ⟨ls, k, hh0, hh1, hc⟩



-- impl.wordsOf
theorem wordsOf_ok (s : ByteArray) (hz : s.size ≤ 10000000) : Con Tryz.prog 70 [Sv s] true (slS true (splB ⟨#[32]⟩ s)) := by
  refine fn_ok (fn := Tryz.f70) (nt := 5) Tryz.func70 rfl rfl rfl rfl (by simp [taggedL, tagged]) fun B hB => ?_
  refine aR [] [0] [] [Sv s] [] [] hB trivial ?_
  refine aR [(1, .call [(true, .any), (true, .any)] true (slS true (splB (⟨#[32]⟩ : ByteArray) s)))] [2] [] [slS true (splB (⟨#[32]⟩ : ByteArray) s)] [] [Con Tryz.prog 149 [Sv s, Sv (⟨#[32]⟩ : ByteArray)] true (slS true (splB (⟨#[32]⟩ : ByteArray) s)) ∧ True] hB ⟨⟨(split_ok s (⟨#[32]⟩ : ByteArray) ⟨by omega, trivial⟩ rfl), trivial⟩, trivial⟩ ?_
  refine aw_ret ?_
  refine ae_ret hB (slS true (splB (⟨#[32]⟩ : ByteArray) s)) (by kernel_rfl) (.inr ⟨(fun _ => rfl), rfl, (by first | rfl | (simp; done) | (simp; omega) | omega), fun i_ hi_ => .inl (by first | rfl | fail)⟩) rfl (fun _ => (tagS true _))



def dcB (s : ByteArray) : Bool := match Lib.parseIntB 64 s.data.toList with | .ok n => decide ((1 ≤ (Lib.trimPrefix s.data.toList [45]).length ∧ (Lib.trimPrefix s.data.toList [45]).length ≤ 18) ∧ decB n = s) | _ => false
def dcN (s : ByteArray) : Int := if dcB s = true then dcV s else 0
theorem dcB_len {s : ByteArray} (h : ¬ (1 ≤ (Lib.trimPrefix s.data.toList [45]).length ∧ (Lib.trimPrefix s.data.toList [45]).length ≤ 18)) : dcB s = false ∧ dcN s = 0 := by
  have e : dcB s = false := by
    unfold dcB
    split
    · exact decide_eq_false fun q => h q.1
    · rfl
  exact ⟨e, by rw [dcN, e]; rfl⟩
theorem dcB_yes {s : ByteArray} {n : Int} (hp : Lib.parseIntB 64 s.data.toList = .ok n) (hl : 1 ≤ (Lib.trimPrefix s.data.toList [45]).length ∧ (Lib.trimPrefix s.data.toList [45]).length ≤ 18) (he : decB n = s) : dcB s = true ∧ dcN s = n := by
  have e : dcB s = true := by
    unfold dcB
    rw [hp]
    exact decide_eq_true ⟨hl, he⟩
  exact ⟨e, by rw [dcN, if_pos e]; unfold dcV; rw [hp]⟩
theorem dcB_ne {s : ByteArray} {n : Int} (hp : Lib.parseIntB 64 s.data.toList = .ok n) (he : ¬ decB n = s) : dcB s = false ∧ dcN s = 0 := by
  have e : dcB s = false := by
    unfold dcB
    rw [hp]
    exact decide_eq_false fun q => he q.2
  exact ⟨e, by rw [dcN, e]; rfl⟩
theorem dcB_bad {s : ByteArray} (hp : ∀ n, Lib.parseIntB 64 s.data.toList ≠ .ok n) : dcB s = false ∧ dcN s = 0 := by
  have e : dcB s = false := by
    unfold dcB
    split
    · rename_i n h; exact absurd h (hp n)
    · rfl
  exact ⟨e, by rw [dcN, e]; rfl⟩
theorem pI_bd {s : ByteArray} {n : Int} (hp : Lib.parseIntB 64 s.data.toList = .ok n) : -9223372036854775808 ≤ n ∧ n ≤ 9223372036854775807 := by
  have := Lib.parseIntB_bounds hp
  have e : ((2 ^ (64 - 1) : Nat) : Int) = 9223372036854775808 := by decide
  rw [e] at this
  omega


-- impl.ReadDecimal
set_option maxHeartbeats 2000000 in
theorem dec_calls (n : Int) (h : -9223372036854775808 ≤ n ∧ n ≤ 9223372036854775807) (w : World) (hw : WX w) : Calls Tryz.prog 95 #[.int .i64 n] w fun e w' => e = .returned (.string (decB n)) ∧ Below w.heap.size w w' := by
  go_enter Tryz.func95, Tryz.ntmps95
  go_wp2_with (go_at_call 173; refine (Tryz.strconv_FormatInt_10 n h.1 h.2 w (WX_tab hw)).mono ?_; rintro e w' ⟨rfl, k, os, rfl⟩)
  go_ret
  exact ⟨rfl, Lib.below_grow _ _ (Nat.le_refl _) k os⟩
set_option maxHeartbeats 4000000 in
set_option maxRecDepth 100000 in
theorem readDecT_calls (s : ByteArray) (hz : s.size ≤ 140737488 ∧ True) (w : World) (hw : WX w) : Calls Tryz.prog 120 #[.string s] w fun e w' => e = .returned (.tuple #[.int .i64 (dcN s), .bool (dcB s)]) ∧ Below w.heap.size w w' := by
  by_cases ht : 1 ≤ (Lib.trimPrefix s.data.toList [45]).length ∧ (Lib.trimPrefix s.data.toList [45]).length ≤ 18
  · cases hp : Lib.parseIntB 64 s.data.toList with
    | ok n =>
      have hn := pI_bd hp
      by_cases he : decB n = s
      · have hr := dcB_yes hp ht he
        rw [hr.1, hr.2]
        go_enter Tryz.func120, Tryz.ntmps120
        go_wp2_with (go_at_call 140; refine (Tryz.strings_TrimPrefix s _ w).mono ?_; rintro e w' ⟨rfl, hw'⟩; rw [hw'])
        clear hw'
        go_wp2_with (go_at_call 193; refine (Tryz.strconv_ParseInt_10_at64_ok s (by omega) n hp w).mono ?_; rintro e w2 ⟨rfl, hw2⟩)
        have hb : Below w.heap.size w w2 := by
          rcases hw2 with rfl | ⟨t, rfl⟩
          · exact Below.refl _ _
          · exact Lib.bytesWorld_below _ _ _
        have hx := WX_below hw w2 hb
        clear hw2
        go_wp2_with (go_at_call 95; refine (dec_calls n (by omega) w2 hx).mono ?_; rintro e w3 ⟨rfl, hb3⟩)
        go_ret2
        exact ⟨rfl, hb.trans (hb3.mono hb.size)⟩
      · have hr := dcB_ne hp he
        rw [hr.1, hr.2]
        have hne : ¬ (decB n).toList = s.toList := fun q => he (by
          rw [Lib.toList_data, Lib.toList_data] at q
          apply ByteArray.ext
          exact Array.ext' q)
        have hne2 : ((decB n).toList == s.toList) = false := beq_eq_false_iff_ne.2 hne
        go_enter Tryz.func120, Tryz.ntmps120
        go_wp2_with (go_at_call 140; refine (Tryz.strings_TrimPrefix s _ w).mono ?_; rintro e w' ⟨rfl, hw'⟩; rw [hw'])
        clear hw'
        go_wp2_with (go_at_call 193; refine (Tryz.strconv_ParseInt_10_at64_ok s (by omega) n hp w).mono ?_; rintro e w2 ⟨rfl, hw2⟩)
        have hb : Below w.heap.size w w2 := by
          rcases hw2 with rfl | ⟨t, rfl⟩
          · exact Below.refl _ _
          · exact Lib.bytesWorld_below _ _ _
        have hx := WX_below hw w2 hb
        clear hw2
        go_wp2_with (go_at_call 95; refine (dec_calls n (by omega) w2 hx).mono ?_; rintro e w3 ⟨rfl, hb3⟩)
        go_ret2
        exact ⟨rfl, hb.trans (hb3.mono hb.size)⟩
        all_goals (exfalso; first | contradiction | (simp_all; done))
    | «syntax» =>
      have hr := dcB_bad (s := s) fun n => by rw [hp]; exact fun h => by cases h
      rw [hr.1, hr.2]
      obtain ⟨tp, p, hv⟩ := hw.2.1
      go_enter Tryz.func120, Tryz.ntmps120
      go_wp2_with (go_at_call 140; refine (Tryz.strings_TrimPrefix s _ w).mono ?_; rintro e w' ⟨rfl, hw'⟩; rw [hw'])
      clear hw'
      go_wp2_with (go_at_call 193; refine (Tryz.strconv_ParseInt_10_at64_syntax_var s (by omega) hp tp p w hv).mono ?_; rintro e w2 ⟨N, rfl, _, _, hb⟩)
      go_ret2
      exact ⟨rfl, hb⟩
    | range =>
      have hr := dcB_bad (s := s) fun n => by rw [hp]; exact fun h => by cases h
      rw [hr.1, hr.2]
      obtain ⟨tp, p, hv⟩ := hw.2.2
      go_enter Tryz.func120, Tryz.ntmps120
      go_wp2_with (go_at_call 140; refine (Tryz.strings_TrimPrefix s _ w).mono ?_; rintro e w' ⟨rfl, hw'⟩; rw [hw'])
      clear hw'
      go_wp2_with (go_at_call 193; refine (Tryz.strconv_ParseInt_10_at64_range_var s (by omega) hp tp p w hv).mono ?_; rintro e w2 ⟨N, rfl, _, _, hb⟩)
      go_ret2
      exact ⟨rfl, hb⟩
  · have hr := dcB_len ht
    rw [hr.1, hr.2]
    by_cases h0 : (Lib.trimPrefix s.data.toList [45]).length < 1
    · go_enter Tryz.func120, Tryz.ntmps120
      go_wp2_with (go_at_call 140; refine (Tryz.strings_TrimPrefix s _ w).mono ?_; rintro e w' ⟨rfl, hw'⟩; rw [hw'])
      go_ret2
      exact ⟨rfl, Below.refl _ _⟩
    · have h18 : 18 < (Lib.trimPrefix s.data.toList [45]).length := by omega
      go_enter Tryz.func120, Tryz.ntmps120
      go_wp2_with (go_at_call 140; refine (Tryz.strings_TrimPrefix s _ w).mono ?_; rintro e w' ⟨rfl, hw'⟩; rw [hw'])
      go_ret2
      exact ⟨rfl, Below.refl _ _⟩
theorem readDecT_ok (s : ByteArray) (hz : s.size ≤ 140737488 ∧ True) : Con Tryz.prog 120 [Sv s] true (.tup [I (dcN s), Bv (dcB s)]) :=
  con_of_calls2 (vals := [.string s]) fun w hw => readDecT_calls s hz w hw



def sameL {α : Type} [Inhabited α] [DecidableEq α] (a b : List α) : Bool := decide (a.length = b.length) && allN a.length (fun j => decide (at_ a j = at_ b j))
theorem sameL_refl {α : Type} [Inhabited α] [DecidableEq α] (a : List α) : sameL a a = true := by simp [sameL, allN_iff]


theorem splitB_piece (c : UInt8) : ∀ (k : Nat) (s : ByteArray), ∀ x ∈ Lib.splitB ⟨#[c]⟩ 0 k s, x.size ≤ s.size
  | 0, s, x, h => by rw [Lib.splitB_zero] at h; have := List.mem_singleton.1 h; subst this; exact Nat.le_refl _
  | k + 1, s, x, h => by
    rcases Lib.indexB_cases s ⟨#[c]⟩ with hi | ⟨i, hi, hr⟩
    · rw [Lib.splitB_miss _ _ _ _ hi] at h; have := List.mem_singleton.1 h; subst this; exact Nat.le_refl _
    · rw [Lib.splitB_hit _ _ _ _ _ hi] at h
      rcases List.mem_cons.1 h with h | h
      · subst h; rw [ByteArray.size_extract]; omega
      · have := splitB_piece c k _ x h
        rw [ByteArray.size_extract] at this
        omega
theorem splB_piece {c : UInt8} {s x : ByteArray} (h : x ∈ splB ⟨#[c]⟩ s) : x.size ≤ s.size := splitB_piece c _ s x h


def dcsN (s : ByteArray) : List Int := (splB ⟨#[44]⟩ s).map dcN
def rdFt (n : List Int) : Feat := ⟨at_ n 0, at_ n 1, at_ n 2⟩
def rfwOk (ws : List ByteArray) : Bool := allN ws.length fun j => decide ((splB ⟨#[44]⟩ (at_ ws j)).length = 3)
def rfwR (ws : List ByteArray) : List Feat × Bool := if rfwOk ws = true then (ws.map fun w => rdFt (dcsN w), true) else ([], false)
theorem rfw_yes {ws : List ByteArray} (h : rfwOk ws = true) : rfwR ws = (ws.map fun w => rdFt (dcsN w), true) := if_pos h
theorem rfw_no {ws : List ByteArray} (h : rfwOk ws = false) : rfwR ws = ([], false) := by simp [rfwR, h]
def rdfI (s : ByteArray) : List Feat × Bool := if (rfwR (splB ⟨#[32]⟩ s)).2 = true ∧ okFeats (rfwR (splB ⟨#[32]⟩ s)).1 384 = true ∧ ftsTx (rfwR (splB ⟨#[32]⟩ s)).1 = s then ((rfwR (splB ⟨#[32]⟩ s)).1, true) else ([], false)

-- impl.numbersOf
theorem numbersOfT_ok (s : ByteArray) (hz : s.size ≤ 10000000) : ∃ (v : List Int), (v = dcsN s) ∧ Con Tryz.prog 71 [Sv s] true (slI true v) := by
  have hh : ∃ r : (List Int), ((r = dcsN s) ∧ (True)) ∧ CallOK Tryz.prog 71 [Sv s] (lookO []) true (slI true r) (lookO []) := by
    refine fn_okX (Φ := fun r : (List Int) => (r = dcsN s) ∧ (True)) [] (fun r => []) (fn := Tryz.f71) (nt := 26) Tryz.func71 rfl rfl (args := [Sv s]) rfl (allcons (.inl ⟨rfl, trivial⟩) allnil) (res := fun r => slI true r) ?_
    refine xR [] [0] [] [Sv s] [] [] trivial ?_
    refine xR [] [0, 3] [] [Sv s, nilA] [] [] trivial ?_
    refine x_seq ?_
    refine xR [(1, .call [(true, .any), (true, .any)] true (slS true (splB (⟨#[44]⟩ : ByteArray) s)))] [3, 9, 10, 11] [] [nilA, slS true (splB (⟨#[44]⟩ : ByteArray) s), I (((splB (⟨#[44]⟩ : ByteArray) s).length) : Int), I 0] [] [Con Tryz.prog 149 [Sv s, Sv (⟨#[44]⟩ : ByteArray)] true (slS true (splB (⟨#[44]⟩ : ByteArray) s)) ∧ True] ⟨⟨(split_ok s (⟨#[44]⟩ : ByteArray) ⟨by omega, trivial⟩ rfl), trivial⟩, trivial⟩ ?_
    refine x_block ?_
    refine x_nil 3 703 1 (fun _ => []) (by kernel_rfl) ?_
    refine x_weak [] (T := [(3, .arr 703), (9, slS true (splB (⟨#[44]⟩ : ByteArray) s)), (10, I (((splB (⟨#[44]⟩ : ByteArray) s).length) : Int)), (11, I 0)]) (O := [(703, tAI ([] : List Int))]) rfl (⟨.inl rfl, .inl rfl, .inl rfl, .inl rfl, trivial⟩) (⟨.inr ⟨rfl, (by first | rfl | (simp; done) | (simp; omega) | omega), fun i_ hi_ => absurd hi_ (Nat.not_lt_zero _)⟩, trivial⟩) ?_
    refine x_loop (X := (List Int) × Int) (fun x => mkS [(3, .arr 703), (9, slS true (splB (⟨#[44]⟩ : ByteArray) s)), (10, I (((splB (⟨#[44]⟩ : ByteArray) s).length) : Int)), (11, I x.2)] [(703, tAI x.1)]) (fun x => (0 ≤ x.2 ∧ x.2 ≤ ((splB ⟨#[44]⟩ s).length : Int)) ∧ (x.1 = ((splB ⟨#[44]⟩ s).take x.2.toNat).map dcN) ∧ True) (fun x => (((splB ⟨#[44]⟩ s).length : Int) - x.2).toNat) (([] : List Int), 0) rfl (show (0 ≤ (0 : Int) ∧ (0 : Int) ≤ ((splB ⟨#[44]⟩ s).length : Int)) ∧ (([] : List Int) = ((splB ⟨#[44]⟩ s).take (0 : Int).toNat).map dcN) ∧ True from ⟨(by omega), (by rfl), trivial⟩) (fun x hI => ?_)
    obtain ⟨ns, k⟩ := x
    obtain ⟨hi0, hns, _⟩ : (0 ≤ k ∧ k ≤ ((splB ⟨#[44]⟩ s).length : Int)) ∧ (ns = ((splB ⟨#[44]⟩ s).take k.toNat).map dcN) ∧ True := hI
    show XW _ _ _ _ (mkS [(3, .arr 703), (9, slS true (splB (⟨#[44]⟩ : ByteArray) s)), (10, I (((splB (⟨#[44]⟩ : ByteArray) s).length) : Int)), (11, I k)] [(703, tAI ns)]) _ _
    refine x_seq ?_
    by_cases h1 : k < (((splB (⟨#[44]⟩ : ByteArray) s).length) : Int)
    ·have hi : k.toNat < (splB ⟨#[44]⟩ s).length := by omega
     have hnl : ns.length = k.toNat := by rw [hns]; simp; omega
     have hsl := splB_len 44 s
     refine x_r [(0, .dec true)] [3, 9, 10, 11, 12] [703] [.arr 703, slS true (splB (⟨#[44]⟩ : ByteArray) s), I (((splB (⟨#[44]⟩ : ByteArray) s).length) : Int), I k, Bv true] [some (tAI ns)] [k < (((splB (⟨#[44]⟩ : ByteArray) s).length) : Int)] ⟨h1, trivial⟩ ?_
     refine xe_then ?_
     refine x_seq ?_
     refine x_true rfl ?_
     refine x_skip ?_
     refine xe_then ?_
     refine x_seq ?_
     refine x_block ?_
     refine xR [] [3, 5, 9, 10, 11] [703] [.arr 703, Sv (at_ (splB (⟨#[44]⟩ : ByteArray) s) k.toNat), slS true (splB (⟨#[44]⟩ : ByteArray) s), I (((splB (⟨#[44]⟩ : ByteArray) s).length) : Int), I k] [some (tAI ns)] [(0 : Int) ≤ k ∧ k < (((splB (⟨#[44]⟩ : ByteArray) s).length) : Int)] ⟨⟨(by omega), (by omega)⟩, trivial⟩ ?_
     refine xR [(1, .call [(true, .any)] true (.tup [I (dcN (at_ (splB (⟨#[44]⟩ : ByteArray) s) k.toNat)), Bv (dcB (at_ (splB (⟨#[44]⟩ : ByteArray) s) k.toNat))]))] [3, 6, 9, 10, 11] [703] [.arr 703, I (dcN (at_ (splB (⟨#[44]⟩ : ByteArray) s) k.toNat)), slS true (splB (⟨#[44]⟩ : ByteArray) s), I (((splB (⟨#[44]⟩ : ByteArray) s).length) : Int), I k] [some (tAI ns)] [Con Tryz.prog 120 [Sv (at_ (splB (⟨#[44]⟩ : ByteArray) s) k.toNat)] true (.tup [I (dcN (at_ (splB (⟨#[44]⟩ : ByteArray) s) k.toNat)), Bv (dcB (at_ (splB (⟨#[44]⟩ : ByteArray) s) k.toNat))]) ∧ True] ⟨⟨(readDecT_ok (at_ (splB (⟨#[44]⟩ : ByteArray) s) k.toNat) (by first | omega | (refine ⟨?_, trivial⟩; have := splB_piece (at_mem hi); omega))), trivial⟩, trivial⟩ ?_
     refine x_r [(2, .new 22), (3, .new 23)] [3, 9, 10, 11] [23] [.arr 23, slS true (splB (⟨#[44]⟩ : ByteArray) s), I (((splB (⟨#[44]⟩ : ByteArray) s).length) : Int), I k] [some (.arr 1 (ns.length + 1) (catF ns.length (fI ns) (litF [I (dcN (at_ (splB (⟨#[44]⟩ : ByteArray) s) k.toNat))] 1)))] [(ns.length + 1) * 8 ≤ 140737488355328] ⟨(by omega), trivial⟩ ?_
     refine xe_block 1 ?_
     refine xe_then ?_
     refine x_r [] [3, 9, 10, 11] [23] [.arr 23, slS true (splB (⟨#[44]⟩ : ByteArray) s), I (((splB (⟨#[44]⟩ : ByteArray) s).length) : Int), I (k + 1)] [some (.arr 1 (ns.length + 1) (catF ns.length (fI ns) (litF [I (dcN (at_ (splB (⟨#[44]⟩ : ByteArray) s) k.toNat))] 1)))] [inR .i64 (k + 1)] ⟨(inR_i64 (by omega) (by omega)), trivial⟩ ?_
     refine xe_weak [(703, 23)] (T := [(3, .arr 703), (9, slS true (splB (⟨#[44]⟩ : ByteArray) s)), (10, I (((splB (⟨#[44]⟩ : ByteArray) s).length) : Int)), (11, I (k + 1))]) (O := [(703, tAI (ns ++ [(dcN (at_ (splB (⟨#[44]⟩ : ByteArray) s) k.toNat))]))]) rfl (⟨.inl rfl, .inl rfl, .inl rfl, .inl rfl, trivial⟩) (⟨.inr ⟨rfl, (by first | rfl | (simp; done) | (simp; omega) | omega), fun i_ hi_ => .inl (cat_snoc (enc := cI) (xs := ns) rfl i_ hi_)⟩, trivial⟩) (xe_again ((ns ++ [(dcN (at_ (splB (⟨#[44]⟩ : ByteArray) s) k.toNat))]), (k + 1)) rfl (show (0 ≤ (k + 1) ∧ (k + 1) ≤ ((splB ⟨#[44]⟩ s).length : Int)) ∧ ((ns ++ [(dcN (at_ (splB (⟨#[44]⟩ : ByteArray) s) k.toNat))]) = ((splB ⟨#[44]⟩ s).take (k + 1).toNat).map dcN) ∧ True from ⟨(by omega), (by rw [hns]; exact (mapTake_succ (by omega) hi rfl).symm), trivial⟩) (by first | (show ((((splB ⟨#[44]⟩ s).length : Int) - (k + 1)).toNat : Nat) < (((splB ⟨#[44]⟩ s).length : Int) - k).toNat; omega) | (dsimp only; omega)))
    have hfin : ns = dcsN s := by rw [hns]; exact map_all (by omega)
    refine x_r [(0, .dec false)] [3, 9, 10, 11, 12] [703] [.arr 703, slS true (splB (⟨#[44]⟩ : ByteArray) s), I (((splB (⟨#[44]⟩ : ByteArray) s).length) : Int), I k, Bv false] [some (tAI ns)] [¬ (k < (((splB (⟨#[44]⟩ : ByteArray) s).length) : Int))] ⟨h1, trivial⟩ ?_
    refine xe_then ?_
    refine x_seq ?_
    refine x_false rfl ?_
    refine x_exit ?_
    refine xe_exit_then ?_
    refine xe_loop_exit ?_
    refine xe_exit_same ?_
    refine xe_then ?_
    refine xR [] [2] [703] [.arr 703] [some (tAI ns)] [] trivial ?_
    refine x_ret ?_
    refine xe_end ns (show (ns = dcsN s) ∧ (True) from ⟨(by exact hfin), trivial⟩) (trivial) (.arr 703) (by kernel_rfl) (.inr ⟨(fun _ => rfl), rfl, rfl, fun i _ => .inl rfl⟩) (fun _ => rfl) (fun _ => (tagI true _))
  obtain ⟨v, ⟨hh0, _⟩, hc⟩ := hh
  exact ⟨v, hh0, hc⟩



-- impl.readFeatWords
theorem readFeatWords_ok (words : List ByteArray) (hz : ∀ w ∈ words, w.size ≤ 10000000) (hl : words.length ≤ 10000000) : ∃ (v : List Feat) (c : Bool), (v = (rfwR words).1) ∧ (c = (rfwR words).2) ∧ Con Tryz.prog 103 [slS false words] true (.tup [slFeat true v, Bv c]) := by
  have hh : ∃ r : (List Feat) × Bool, ((r.1 = (rfwR words).1) ∧ (r.2 = (rfwR words).2) ∧ (True)) ∧ CallOK Tryz.prog 103 [slS false words] (lookO []) true (.tup [slFeat true r.1, Bv r.2]) (lookO []) := by
    refine fn_okX (Φ := fun r : (List Feat) × Bool => (r.1 = (rfwR words).1) ∧ (r.2 = (rfwR words).2) ∧ (True)) [] (fun r => []) (fn := Tryz.f103) (nt := 34) Tryz.func103 rfl rfl (args := [slS false words]) rfl (allcons (.inl ⟨rfl, tagS false _⟩) allnil) (res := fun r => .tup [slFeat true r.1, Bv r.2]) ?_
    refine xR [] [0] [] [slS false words] [] [] trivial ?_
    refine xR [] [0, 4] [] [slS false words, nilA] [] [] trivial ?_
    refine x_seq ?_
    refine xR [] [4, 8, 9, 10] [] [nilA, slS false words, I (words.length : Int), I 0] [] [] trivial ?_
    refine x_block ?_
    refine x_nil 4 704 3 (fun _ => []) (by kernel_rfl) ?_
    refine x_weak [] (T := [(4, .arr 704), (8, slS false words), (9, I (words.length : Int)), (10, I 0)]) (O := [(704, tAFeat ([] : List Feat))]) rfl (⟨.inl rfl, .inl rfl, .inl rfl, .inl rfl, trivial⟩) (⟨.inr ⟨rfl, (by first | rfl | (simp; done) | (simp; omega) | omega), fun i_ hi_ => absurd hi_ (Nat.not_lt_zero _)⟩, trivial⟩) ?_
    refine x_loop (X := (List Feat) × Int) (fun x => mkS [(4, .arr 704), (8, slS false words), (9, I (words.length : Int)), (10, I x.2)] [(704, tAFeat x.1)]) (fun x => (0 ≤ x.2 ∧ x.2 ≤ (words.length : Int)) ∧ (∀ j : Nat, (j : Int) < x.2 → decide ((splB ⟨#[44]⟩ (at_ words j)).length = 3) = true) ∧ (x.1 = (words.take x.2.toNat).map fun w => rdFt (dcsN w)) ∧ True) (fun x => ((words.length : Int) - x.2).toNat) (([] : List Feat), 0) rfl (show (0 ≤ (0 : Int) ∧ (0 : Int) ≤ (words.length : Int)) ∧ (∀ j : Nat, (j : Int) < (0 : Int) → decide ((splB ⟨#[44]⟩ (at_ words j)).length = 3) = true) ∧ (([] : List Feat) = (words.take (0 : Int).toNat).map fun w => rdFt (dcsN w)) ∧ True from ⟨(by omega), (by intro j hj; omega), (by rfl), trivial⟩) (fun x hI => ?_)
    obtain ⟨list, t10⟩ := x
    obtain ⟨hi0, hall0, hs0, _⟩ : (0 ≤ t10 ∧ t10 ≤ (words.length : Int)) ∧ (∀ j : Nat, (j : Int) < t10 → decide ((splB ⟨#[44]⟩ (at_ words j)).length = 3) = true) ∧ (list = (words.take t10.toNat).map fun w => rdFt (dcsN w)) ∧ True := hI
    show XW _ _ _ _ (mkS [(4, .arr 704), (8, slS false words), (9, I (words.length : Int)), (10, I t10)] [(704, tAFeat list)]) _ _
    refine x_seq ?_
    by_cases h1 : t10 < (words.length : Int)
    ·have hi : t10.toNat < words.length := by omega
     have hwz := hz _ (at_mem hi)
     have hll : list.length = t10.toNat := by rw [hs0]; simp; omega
     refine x_r [(0, .dec true)] [4, 8, 9, 10, 11] [704] [.arr 704, slS false words, I (words.length : Int), I t10, Bv true] [some (tAFeat list)] [t10 < (words.length : Int)] ⟨h1, trivial⟩ ?_
     refine xe_then ?_
     refine x_seq ?_
     refine x_true rfl ?_
     refine x_skip ?_
     refine xe_then ?_
     refine x_seq ?_
     refine x_block ?_
     refine xR [] [4, 6, 8, 9, 10] [704] [.arr 704, Sv (at_ words t10.toNat), slS false words, I (words.length : Int), I t10] [some (tAFeat list)] [(0 : Int) ≤ t10 ∧ t10 < (words.length : Int)] ⟨⟨(by omega), (by omega)⟩, trivial⟩ ?_
     refine x_seq ?_
     obtain ⟨v_1, hx1_0, hc1⟩ := numbersOfT_ok (at_ words t10.toNat) hwz
     have hnl_ : v_1.length = (splB ⟨#[44]⟩ (at_ words t10.toNat)).length := by rw [hx1_0]; exact List.length_map _
     have hnv := hx1_0
     refine x_r [(1, .call [(true, .any)] true (slI true v_1))] [4, 7, 8, 9, 10] [704] [.arr 704, slI true v_1, slS false words, I (words.length : Int), I t10] [some (tAFeat list)] [Con Tryz.prog 71 [Sv (at_ words t10.toNat)] true (slI true v_1) ∧ True] ⟨⟨hc1, trivial⟩, trivial⟩ ?_
     refine xe_then ?_
     refine x_seq ?_
     refine x_seq ?_
     by_cases h2 : (v_1.length : Int) = 3
     ·have h3 : (splB ⟨#[44]⟩ (at_ words t10.toNat)).length = 3 := by have q := hnl_; omega
      have hok := decide_eq_true h3
      refine x_r [(2, .dec false)] [4, 7, 8, 9, 10, 18] [704] [.arr 704, slI true v_1, slS false words, I (words.length : Int), I t10, Bv false] [some (tAFeat list)] [¬ ((v_1.length : Int) ≠ 3)] ⟨(fun hq => hq h2), trivial⟩ ?_
      refine xe_then ?_
      refine x_false rfl ?_
      refine x_skip ?_
      refine xe_then ?_
      refine x_r [(11, .new 30), (12, .new 31)] [4, 8, 9, 10] [31] [.arr 31, slS false words, I (words.length : Int), I t10] [some (.arr 3 (list.length + 1) (catF list.length (fFeat list) (litF [I (at_ v_1 0), I (at_ v_1 1), I (at_ v_1 2)] 3)))] [(0 : Int) ≤ 0 ∧ 0 < (v_1.length : Int), (0 : Int) ≤ 1 ∧ 1 < (v_1.length : Int), (0 : Int) ≤ 2 ∧ 2 < (v_1.length : Int), (list.length + 1) * 24 ≤ 140737488355328] ⟨⟨(by omega), (by omega)⟩, ⟨(by omega), (by omega)⟩, ⟨(by omega), (by omega)⟩, (by omega), trivial⟩ ?_
      refine xe_block 1 ?_
      refine xe_then ?_
      refine x_r [] [4, 8, 9, 10] [31] [.arr 31, slS false words, I (words.length : Int), I (t10 + 1)] [some (.arr 3 (list.length + 1) (catF list.length (fFeat list) (litF [I (at_ v_1 0), I (at_ v_1 1), I (at_ v_1 2)] 3)))] [inR .i64 (t10 + 1)] ⟨(inR_i64 (by omega) (by omega)), trivial⟩ ?_
      refine xe_weak [(704, 31)] (T := [(4, .arr 704), (8, slS false words), (9, I (words.length : Int)), (10, I (t10 + 1))]) (O := [(704, tAFeat (list ++ [(Feat.mk (at_ v_1 0) (at_ v_1 1) (at_ v_1 2))]))]) rfl (⟨.inl rfl, .inl rfl, .inl rfl, .inl rfl, trivial⟩) (⟨.inr ⟨rfl, (by first | rfl | (simp; done) | (simp; omega) | omega), fun i_ hi_ => .inl (cat_snoc (enc := cFeat) (xs := list) rfl i_ hi_)⟩, trivial⟩) (xe_again ((list ++ [(Feat.mk (at_ v_1 0) (at_ v_1 1) (at_ v_1 2))]), (t10 + 1)) rfl (show (0 ≤ (t10 + 1) ∧ (t10 + 1) ≤ (words.length : Int)) ∧ (∀ j : Nat, (j : Int) < (t10 + 1) → decide ((splB ⟨#[44]⟩ (at_ words j)).length = 3) = true) ∧ ((list ++ [(Feat.mk (at_ v_1 0) (at_ v_1 1) (at_ v_1 2))]) = (words.take (t10 + 1).toNat).map fun w => rdFt (dcsN w)) ∧ True from ⟨(by omega), (by intro j hj; by_cases ej : j = t10.toNat; (subst ej; exact hok); exact hall0 j (by omega)), (by rw [hs0, hnv]; exact (mapTake_succ (by omega) hi rfl).symm), trivial⟩) (by first | (show (((words.length : Int) - (t10 + 1)).toNat : Nat) < ((words.length : Int) - t10).toNat; omega) | (dsimp only; omega)))
     have hok : rfwOk words = false := allN_not hi (decide_eq_false (by have q := hnl_; omega))
     have hst := rfw_no hok
     refine x_r [(2, .dec true)] [4, 7, 8, 9, 10, 18] [704] [.arr 704, slI true v_1, slS false words, I (words.length : Int), I t10, Bv true] [some (tAFeat list)] [(v_1.length : Int) ≠ 3] ⟨h2, trivial⟩ ?_
     refine xe_then ?_
     refine x_true rfl ?_
     refine xR [] [2, 3] [] [nilA, Bv false] [] [] trivial ?_
     refine x_ret ?_
     refine xe_ret_then (xe_ret_block (xe_ret_then (xe_loop_ret (xe_ret_block (xe_ret_then ?_)))))
     refine xe_end (([] : List Feat), false) (show (([] : List Feat) = (rfwR words).1) ∧ (false = (rfwR words).2) ∧ (True) from ⟨(by first | (rw [hst]; done) | (rw [hst]; exact hfin) | (rw [hst, hfin]; done)), (by first | (rw [hst]; done) | (rw [hst]; exact hfin) | (rw [hst, hfin]; done)), trivial⟩) (trivial) (.tup [nilA, Bv false]) (by kernel_rfl) (.inr ⟨⟨rfl, rfl⟩, ⟨rfl, rfl⟩⟩) (fun _ => rfl) (fun _ => (by simp [tagged, taggedL, tagFeat]))
    have hok : rfwOk words = true := allN_at (fun j hj => hall0 j (by omega))
    have hst := rfw_yes hok
    have hfin : list = words.map fun w => rdFt (dcsN w) := by rw [hs0]; exact map_all (by omega)
    refine x_r [(0, .dec false)] [4, 8, 9, 10, 11] [704] [.arr 704, slS false words, I (words.length : Int), I t10, Bv false] [some (tAFeat list)] [¬ (t10 < (words.length : Int))] ⟨h1, trivial⟩ ?_
    refine xe_then ?_
    refine x_seq ?_
    refine x_false rfl ?_
    refine x_exit ?_
    refine xe_exit_then ?_
    refine xe_loop_exit ?_
    refine xe_exit_same ?_
    refine xe_then ?_
    refine xR [] [2, 3] [704] [.arr 704, Bv true] [some (tAFeat list)] [] trivial ?_
    refine x_ret ?_
    refine xe_end (list, true) (show (list = (rfwR words).1) ∧ (true = (rfwR words).2) ∧ (True) from ⟨(by first | (rw [hst]; done) | (rw [hst]; exact hfin) | (rw [hst, hfin]; done)), (by first | (rw [hst]; done) | (rw [hst]; exact hfin) | (rw [hst, hfin]; done)), trivial⟩) (trivial) (.tup [.arr 704, Bv true]) (by kernel_rfl) (.inr ⟨⟨(fun _ => rfl), rfl, rfl, fun i _ => .inl rfl⟩, ⟨rfl, rfl⟩⟩) (fun _ => rfl) (fun _ => (by simp [tagged, taggedL, tagFeat]))
  obtain ⟨⟨v, c⟩, ⟨hh0, hh1, _⟩, hc⟩ := hh
  exact ⟨v, c, hh0, hh1, hc⟩





def valL (acc : Nat) (l : List UInt8) : Nat := l.foldl (fun a b => a * 10 + (b.toNat - 48)) acc
def allDig (l : List UInt8) : Prop := ∀ b ∈ l, 48 ≤ b.toNat ∧ b.toNat ≤ 57
def sgnI (neg : Bool) (n : Int) : Int := if neg = true then -n else n

def unS (s t : ByteArray) : Prop := s.data.toList = 45 :: t.data.toList ∨ (t = s ∧ ∀ r, s.data.toList ≠ 45 :: r)



def ftOk (w : ByteArray) : Bool := decide ((splB ⟨#[44]⟩ w).length = 3) && (dcB (at_ (splB ⟨#[44]⟩ w) 0) && (dcB (at_ (splB ⟨#[44]⟩ w) 1) && dcB (at_ (splB ⟨#[44]⟩ w) 2)))
def l8R (s : ByteArray) : List Feat × Bool := if allN (splB ⟨#[32]⟩ s).length (fun j => ftOk (at_ (splB ⟨#[32]⟩ s) j)) = true then ((splB ⟨#[32]⟩ s).map (fun w => rdFt (dcsN w)), okFeats ((splB ⟨#[32]⟩ s).map (fun w => rdFt (dcsN w))) 384) else ([], false)
def rdfS (s : ByteArray) : List Feat × Bool := if (l8R s).2 = true then ((l8R s).1, true) else ([], false)


theorem splC_ne (c : UInt8) (s : ByteArray) : splC c s ≠ [] := fun e => by
  have h := splB_length (sep := ⟨#[c]⟩) (s := s) rfl
  have h2 : (Lib.splitB ⟨#[c]⟩ 0 (Lib.countB s ⟨#[c]⟩) s).length = 0 := by show (splC c s).length = 0; rw [e]; rfl
  omega










def lnR (s : ByteArray) : List ByteArray × Bool := if s = ⟨#[]⟩ then ([], true) else if sufB s ⟨#[10]⟩ = true then (splB ⟨#[10]⟩ (trsB s ⟨#[10]⟩), true) else ([], false)
theorem splB_pos (c : UInt8) (s : ByteArray) : 1 ≤ (splB ⟨#[c]⟩ s).length := List.length_pos_iff.2 (splC_ne c s)
theorem dcN_num {n : Int} (h : -1000000000000000000 < n ∧ n < 1000000000000000000) : dcN (decB n) = n := (dcB_yes (parse_dec h) (trp_dec h) rfl).2

def wS : ByteArray := ⟨#[115, 116, 111, 114, 101]⟩
def wT : ByteArray := ⟨#[116, 101, 109, 112, 108, 97, 116, 101]⟩
def rdTm (l : ByteArray) : Template := ⟨at_ (splB ⟨#[32]⟩ l) 1, ((splB ⟨#[32]⟩ l).drop 2).map fun w => rdFt (dcsN w)⟩
def rdSt (s : ByteArray) : Store := ⟨dcN (at_ (splB ⟨#[32]⟩ (at_ (lnR s).1 0)) 1), ((lnR s).1.drop 1).map rdTm⟩
theorem labT_noB {l : ByteArray} (hl : okLabel l = true) : noB 32 l ∧ noB 10 l := by
  simp only [okLabel, Bool.and_eq_true, decide_eq_true_eq] at hl
  obtain ⟨c, rfl⟩ := one_byte hl.1
  have e : bAt ⟨#[c]⟩ 0 = (c.toNat : Int) := rfl
  rw [e] at hl
  have h2 := hl.2
  simp only [labB, decide_eq_true_eq] at h2
  constructor <;> · unfold noB; intro q; simp at q; subst q; revert h2; decide
theorem hd_words (n : Int) : splB ⟨#[32]⟩ (hdS ++ decB n) = [wS, decB n] := by
  have e : hdS ++ decB n = jnB ⟨#[32]⟩ [wS, decB n] := by
    have : hdS = wS ++ ⟨#[32]⟩ := by decide
    simp only [jnB, jrest, ba_nilT, this, ByteArray.append_assoc]
  rw [e]
  refine spl_join (c := 32) (by simp) fun y hy => ?_
  simp only [List.mem_cons, List.not_mem_nil, or_false] at hy
  rcases hy with rfl | rfl
  · unfold noB; decide
  · exact decB_noB (by decide) n
theorem tm_jn {t : Template} (h : okTm t = true) : tmLn t = jnB ⟨#[32]⟩ (wT :: t.Label :: t.Feats.map ftTx) := by
  have hn := okFeats_n (okTm_iff'.1 h).2
  obtain ⟨f, r, e⟩ : ∃ f r, t.Feats = f :: r := by
    cases hq : t.Feats with
    | nil => rw [hq] at hn; simp at hn
    | cons f r => exact ⟨f, r, rfl⟩
  have e2 : hdT = wT ++ ⟨#[32]⟩ := by decide
  unfold tmLn
  rw [e, List.map_cons, e2]
  simp only [jnB, jrest, ByteArray.append_assoc]
theorem tm_words {t : Template} (h : okTm t = true) : splB ⟨#[32]⟩ (tmLn t) = wT :: t.Label :: t.Feats.map ftTx := by
  rw [tm_jn h]
  refine spl_join (c := 32) (by simp) fun y hy => ?_
  rcases List.mem_cons.1 hy with rfl | hy
  · unfold noB; decide
  · rcases List.mem_cons.1 hy with rfl | hy
    · exact (labT_noB (okTm_iff'.1 h).1).1
    · obtain ⟨f, _, rfl⟩ := List.mem_map.1 hy
      exact com_noB (by decide) _
theorem ft_rd {f : Feat} (h : okF f = true) : rdFt (dcsN (ftTx f)) = f ∧ (splB ⟨#[44]⟩ (ftTx f)).length = 3 := by
  have hb := okF_iff.1 h
  have h3 : splB ⟨#[44]⟩ (ftTx f) = [decB f.X, decB f.Y, decB f.D] := com_split (xs := [f.X, f.Y, f.D]) (by simp)
  refine ⟨?_, by rw [h3]; rfl⟩
  unfold dcsN
  rw [h3]
  show (⟨dcN (decB f.X), dcN (decB f.Y), dcN (decB f.D)⟩ : Feat) = f
  rw [dcN_num (by omega), dcN_num (by omega), dcN_num (by omega)]
theorem fts_rd {l : List Feat} (h : ∀ f ∈ l, okF f = true) : rfwR (l.map ftTx) = (l, true) := by
  have h1 : rfwOk (l.map ftTx) = true := allN_at fun j hj => by
    rw [List.length_map] at hj
    rw [at_mapB hj]
    exact decide_eq_true (ft_rd (h _ (at_mem hj))).2
  rw [rfw_yes h1, List.map_map]
  congr 1
  conv => rhs; rw [← List.map_id l]
  exact List.map_congr_left fun f hf => (ft_rd (h f hf)).1
theorem tm_rd {t : Template} (h : okTm t = true) : rdTm (tmLn t) = t := by
  unfold rdTm
  rw [tm_words h, List.drop_succ_cons, List.drop_succ_cons, List.drop_zero, List.map_map]
  have : t.Feats.map ((fun w => rdFt (dcsN w)) ∘ ftTx) = t.Feats := by
    conv => rhs; rw [← List.map_id t.Feats]
    exact List.map_congr_left fun f hf => (ft_rd (okFeats_mem (okTm_iff'.1 h).2 f hf)).1
  rw [this]; rfl
theorem st_lines {s : Store} (h : okStore' s = true) : lnR (stTx s) = (stLns s, true) := by
  have hlen : (stLns s).length = s.Templates.length + 1 := by simp [stLns]
  have e : stTx s = linesX (stLns s) (stLns s).length := by rw [hlen]; exact if_pos h
  have hne : stLns s ≠ [] := by simp [stLns]
  obtain ⟨k, hk, e2⟩ := linesX_all hne
  unfold lnR
  rw [e, if_neg (by rw [hk]; exact linesX_ne), if_pos (suf_lines hne), e2, trsB_app]
  congr 1
  refine spl_join (c := 10) hne fun y hy => ?_
  rcases List.mem_cons.1 hy with rfl | hy
  · exact noB_app (by unfold noB; decide) (decB_noB (by decide) _)
  · obtain ⟨t, ht, rfl⟩ := List.mem_map.1 hy
    have hq := okTm_iff'.1 (okStM h t ht)
    rw [tm_jn (okStM h t ht)]
    refine noB_join (by simp [noB]) fun z hz => ?_
    rcases List.mem_cons.1 hz with rfl | hz
    · unfold noB; decide
    · rcases List.mem_cons.1 hz with rfl | hz
      · exact (labT_noB hq.1).2
      · obtain ⟨f, _, rfl⟩ := List.mem_map.1 hz
        exact com_noB (by decide) _
theorem st_rd {s : Store} (h : okStore' s = true) : rdSt (stTx s) = s := by
  have hb := (okStore_iff.1 h).1
  unfold rdSt
  rw [st_lines h]
  show (⟨dcN (at_ (splB ⟨#[32]⟩ (hdS ++ decB s.Band)) 1), (s.Templates.map tmLn).map rdTm⟩ : Store) = s
  rw [hd_words, List.map_map]
  have e : s.Templates.map (rdTm ∘ tmLn) = s.Templates := by
    conv => rhs; rw [← List.map_id s.Templates]
    exact List.map_congr_left fun t ht => tm_rd (okStM h t ht)
  rw [e]
  show (⟨dcN (decB s.Band), s.Templates⟩ : Store) = s
  rw [dcN_num (by omega)]

end Go.Proofs.YthlghckgnanlpaaGreatDoor.Ax
