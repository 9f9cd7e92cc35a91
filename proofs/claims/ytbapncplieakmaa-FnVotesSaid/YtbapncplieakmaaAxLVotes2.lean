/- Contracts that the statement FnVotes reaches, part 2. No conditions. -/
import Derived.Test.YtbapncplieakmaaAxLVotes1
import Derived.Test.YtbapncplieakmaaAxR
import Derived.Test.YtbapncplieakmaaAxS
namespace Go.Proofs.Ytbapncplieakmaa.Ax
open Go.RowKit Go.ChangeShapes Go.WideShapes
set_option linter.unusedVariables false
set_option linter.unusedSimpArgs false


-- impl.costTable
theorem costTable_ok (a : List Feat) (b : List Feat) (band : Int) (hab : okAB a b) (hbd : 0 ≤ band ∧ band ≤ 1000) : ∃ (v : List (List Int)), (tbOk a b band v a.length) ∧ Con Try.prog 48 [slFeat false a, slFeat false b, I band] true (slLI true v) := by
  have hla := hab.2.2
  have hh : ∃ r : (List (List Int)), ((tbOk a b band r a.length) ∧ (True)) ∧ CallOK Try.prog 48 [slFeat false a, slFeat false b, I band] (lookO []) true (slLI true r) (lookO []) := by
    refine fn_okX (Φ := fun r : (List (List Int)) => (tbOk a b band r a.length) ∧ (True)) [] (fun r => []) (fn := Try.f48) (nt := 76) Try.func48 rfl rfl (args := [slFeat false a, slFeat false b, I band]) rfl (allcons (.inl ⟨rfl, tagFeat false _⟩) (allcons (.inl ⟨rfl, tagFeat false _⟩) (allcons (.inl ⟨rfl, trivial⟩) allnil))) (res := fun r => slLI true r) ?_
    refine xR [] [0, 1, 2] [] [slFeat false a, slFeat false b, I band] [] [] trivial ?_
    refine xR [(2, .new 13)] [0, 1, 2, 7] [13] [slFeat false a, slFeat false b, I band, .arr 13] [some (.arr 1 ((a.length : Int).toNat) (fun _ => [nilA]))] [(0 : Int) ≤ (a.length : Int) ∧ ((a.length : Int) : Int) ≤ (a.length : Int) ∧ (24 : Int) * (a.length : Int) ≤ 281474976710656 ∧ (a.length : Int) ≤ 9223372036854775807] ⟨⟨(by omega), (by omega), (by omega), (by omega)⟩, trivial⟩ ?_
    refine x_seq ?_
    refine xR [] [0, 1, 2, 7, 15, 16] [13] [slFeat false a, slFeat false b, I band, .arr 13, I (a.length : Int), I 0] [some (.arr 1 ((a.length : Int).toNat) (fun _ => [nilA]))] [] trivial ?_
    refine x_block ?_
    refine x_famN 13 8401 1 rfl (fun q _ => ⟨_, rfl, rfl⟩) (by kernel_rfl) ?_
    refine x_weak [] (T := [(0, slFeat false a), (1, slFeat false b), (2, I band), (7, .arr 13), (15, I (a.length : Int)), (16, I 0)]) (O := [(13, .oar [8401] 1 ((List.replicate ((a.length : Int).toNat) ([] : List Int)).length) (oLI 8401 (List.replicate ((a.length : Int).toNat) ([] : List Int)))), (8401, .fam (List.replicate ((a.length : Int).toNat) ([] : List Int)).length 1 (mLI (List.replicate ((a.length : Int).toNat) ([] : List Int))) (gLI (List.replicate ((a.length : Int).toNat) ([] : List Int))))]) rfl (⟨.inl rfl, .inl rfl, .inl rfl, .inl rfl, .inl rfl, .inl rfl, trivial⟩) (⟨.inr ⟨rfl, rfl, (by simp), fun i hi => .inl rfl⟩, .inr (fnilLI ((a.length : Int).toNat)), trivial⟩) ?_
    refine x_loop (X := Int × (List (List Int))) (fun x => mkS [(0, slFeat false a), (1, slFeat false b), (2, I band), (7, .arr 13), (15, I (a.length : Int)), (16, I x.1)] [(13, .oar [8401] 1 x.2.length (oLI 8401 x.2)), (8401, .fam x.2.length 1 (mLI x.2) (gLI x.2))]) (fun x => (0 ≤ x.1 ∧ x.1 ≤ (a.length : Int)) ∧ (tbOk a b band x.2 x.1.toNat) ∧ True) (fun x => ((a.length : Int) - x.1).toNat) (0, (List.replicate ((a.length : Int).toNat) ([] : List Int))) rfl (show (0 ≤ (0 : Int) ∧ (0 : Int) ≤ (a.length : Int)) ∧ (tbOk a b band (List.replicate ((a.length : Int).toNat) ([] : List Int)) (0 : Int).toNat) ∧ True from ⟨(by omega), (by exact tb_nil a b band (by first | rfl | omega | simp)), trivial⟩) (fun x hI => ?_)
    obtain ⟨t16, tb⟩ := x
    obtain ⟨hi0, htb, _⟩ : (0 ≤ t16 ∧ t16 ≤ (a.length : Int)) ∧ (tbOk a b band tb t16.toNat) ∧ True := hI
    show XW _ _ _ _ (mkS [(0, slFeat false a), (1, slFeat false b), (2, I band), (7, .arr 13), (15, I (a.length : Int)), (16, I t16)] [(13, .oar [8401] 1 tb.length (oLI 8401 tb)), (8401, .fam tb.length 1 (mLI tb) (gLI tb))]) _ _
    refine x_seq ?_
    by_cases h1 : t16 < (a.length : Int)
    ·have hi : t16.toNat < a.length := by omega
     have hix : ((t16.toNat : Nat) : Int) = t16 := by omega
     have htl := htb.1
     refine x_r [(0, .dec true)] [0, 1, 2, 7, 15, 16, 17] [13, 8401] [slFeat false a, slFeat false b, I band, .arr 13, I (a.length : Int), I t16, Bv true] [some (.oar [8401] 1 tb.length (oLI 8401 tb)), some (.fam tb.length 1 (mLI tb) (gLI tb))] [t16 < (a.length : Int)] ⟨h1, trivial⟩ ?_
     refine xe_then ?_
     refine x_seq ?_
     refine x_true rfl ?_
     refine x_skip ?_
     refine xe_then ?_
     refine x_seq ?_
     refine x_block ?_
     refine xR [] [0, 1, 2, 7, 8, 15, 16] [13, 8401] [slFeat false a, slFeat false b, I band, .arr 13, I t16, I (a.length : Int), I t16] [some (.oar [8401] 1 tb.length (oLI 8401 tb)), some (.fam tb.length 1 (mLI tb) (gLI tb))] [] trivial ?_
     refine xR [(4, .new 23)] [0, 1, 2, 7, 8, 15, 16] [13, 23, 8401] [slFeat false a, slFeat false b, I band, .arr 13, I t16, I (a.length : Int), I t16] [some (.oar [8401, 23] 1 tb.length (fun q => bif Nat.beq q t16.toNat then [.arr 23] else (oLI 8401 tb) q)), some (.arr 1 ((b.length : Int).toNat) (fun _ => [I 0])), some (.fam tb.length 1 (mLI tb) (gLI tb))] [(0 : Int) ≤ (b.length : Int) ∧ ((b.length : Int) : Int) ≤ (b.length : Int) ∧ (8 : Int) * (b.length : Int) ≤ 281474976710656 ∧ (b.length : Int) ≤ 9223372036854775807, (0 : Int) ≤ t16 ∧ t16 < (tb.length : Int), t16.toNat < tb.length] ⟨⟨(by omega), (by omega), (by omega), (by omega)⟩, ⟨(by omega), (by omega)⟩, (by omega), trivial⟩ ?_
     refine x_seq ?_
     refine x_putrow 13 23 8401 t16.toNat rfl rfl rfl ((by omega)) (by first | exact Nat.le_refl _ | omega) (fun q _ => ⟨fun e => by subst e; simp only [Nat.beq_refl, cond_true], fun e => by simp only [beq_ne e, cond_false]; rfl⟩) (by kernel_rfl) ?_
     refine x_weak [] (T := [(0, slFeat false a), (1, slFeat false b), (2, I band), (7, .arr 13), (8, I t16), (15, I (a.length : Int)), (16, I t16)]) (O := [(13, .oar [8401] 1 ((tb.set t16.toNat (List.replicate ((b.length : Int).toNat) 0)).length) (oLI 8401 (tb.set t16.toNat (List.replicate ((b.length : Int).toNat) 0)))), (8401, .fam (tb.set t16.toNat (List.replicate ((b.length : Int).toNat) 0)).length 1 (mLI (tb.set t16.toNat (List.replicate ((b.length : Int).toNat) 0))) (gLI (tb.set t16.toNat (List.replicate ((b.length : Int).toNat) 0))))]) rfl (⟨.inl rfl, .inl rfl, .inl rfl, .inl rfl, .inl rfl, .inl rfl, .inl rfl, trivial⟩) (⟨.inr ⟨rfl, rfl, (by simp), fun i hi => .inl rfl⟩, .inr (fputLI ((by omega)) (by first | rfl | (simp; done) | (simp; omega)) (fun i_ h_ => (show ∀ i_ : Nat, i_ < ((List.replicate ((b.length : Int).toNat) 0) : List Int).length → (fun _ => [I 0]) i_ = (fI (List.replicate ((b.length : Int).toNat) 0)) i_ from fun i_ hi_ => (const_enc (enc := cI) rfl i_ hi_)) i_ (by first | exact h_ | (simpa using h_)))), trivial⟩) ?_
     refine x_r [] [0, 1, 2, 7, 8, 15, 16, 26, 27] [13, 8401] [slFeat false a, slFeat false b, I band, .arr 13, I t16, I (a.length : Int), I t16, I (b.length : Int), I 0] [some (.oar [8401] 1 ((tb.set t16.toNat (List.replicate ((b.length : Int).toNat) 0)).length) (oLI 8401 (tb.set t16.toNat (List.replicate ((b.length : Int).toNat) 0)))), some (.fam (tb.set t16.toNat (List.replicate ((b.length : Int).toNat) 0)).length 1 (mLI (tb.set t16.toNat (List.replicate ((b.length : Int).toNat) 0))) (gLI (tb.set t16.toNat (List.replicate ((b.length : Int).toNat) 0))))] [] trivial ?_
     refine xe_then ?_
     refine x_block ?_
     refine x_loop (X := Int × (List (List Int))) (fun x => mkS [(0, slFeat false a), (1, slFeat false b), (2, I band), (7, .arr 13), (8, I t16), (15, I (a.length : Int)), (16, I t16), (26, I (b.length : Int)), (27, I x.1)] [(13, .oar [8401] 1 x.2.length (oLI 8401 x.2)), (8401, .fam x.2.length 1 (mLI x.2) (gLI x.2))]) (fun x => (0 ≤ x.1 ∧ x.1 ≤ (b.length : Int)) ∧ (tbOk a b band x.2 t16.toNat ∧ rowOk a b band (at_ x.2 t16.toNat) t16.toNat x.1.toNat) ∧ True) (fun x => ((b.length : Int) - x.1).toNat) (0, (tb.set t16.toNat (List.replicate ((b.length : Int).toNat) 0))) rfl (show (0 ≤ (0 : Int) ∧ (0 : Int) ≤ (b.length : Int)) ∧ (tbOk a b band (tb.set t16.toNat (List.replicate ((b.length : Int).toNat) 0)) t16.toNat ∧ rowOk a b band (at_ (tb.set t16.toNat (List.replicate ((b.length : Int).toNat) 0)) t16.toNat) t16.toNat (0 : Int).toNat) ∧ True from ⟨(by omega), (by exact tb_row htb hi (by first | rfl | omega | simp)), trivial⟩) (fun x hI => ?_)
     obtain ⟨t27, tb'⟩ := x
     obtain ⟨hj0, hin, _⟩ : (0 ≤ t27 ∧ t27 ≤ (b.length : Int)) ∧ (tbOk a b band tb' t16.toNat ∧ rowOk a b band (at_ tb' t16.toNat) t16.toNat t27.toNat) ∧ True := hI
     show XW _ _ _ _ (mkS [(0, slFeat false a), (1, slFeat false b), (2, I band), (7, .arr 13), (8, I t16), (15, I (a.length : Int)), (16, I t16), (26, I (b.length : Int)), (27, I t27)] [(13, .oar [8401] 1 tb'.length (oLI 8401 tb')), (8401, .fam tb'.length 1 (mLI tb') (gLI tb'))]) _ _
     refine x_seq ?_
     by_cases h2 : t27 < (b.length : Int)
     ·have hj : t27.toNat < b.length := by omega
      have hcb := costF_bd (hab.1 _ hi) (hab.2.1 _ hj)
      have hjx : ((t27.toNat : Nat) : Int) = t27 := by omega
      have htl2 := hin.1.1
      have htl3 := hin.2.1
      have hlb := lb_at hab hin.1 hin.2 hi hj
      rw [hix, hjx] at hlb
      have hrl : 1 ≤ t16 → ((at_ tb' (t16 - 1).toNat).length : Int) = b.length := fun q => by rw [(hin.1.2 (t16 - 1).toNat (by omega)).1]
      have hrz : (t16 - 0).toNat = t16.toNat := by omega
      refine x_r [(0, .dec true)] [0, 1, 2, 7, 8, 15, 16, 26, 27, 28] [13, 8401] [slFeat false a, slFeat false b, I band, .arr 13, I t16, I (a.length : Int), I t16, I (b.length : Int), I t27, Bv true] [some (.oar [8401] 1 tb'.length (oLI 8401 tb')), some (.fam tb'.length 1 (mLI tb') (gLI tb'))] [t27 < (b.length : Int)] ⟨h2, trivial⟩ ?_
      refine xe_then ?_
      refine x_seq ?_
      refine x_true rfl ?_
      refine x_skip ?_
      refine xe_then ?_
      refine x_seq ?_
      refine x_block ?_
      refine xR [] [0, 1, 2, 7, 8, 9, 15, 16, 26, 27] [13, 8401] [slFeat false a, slFeat false b, I band, .arr 13, I t16, I t27, I (a.length : Int), I t16, I (b.length : Int), I t27] [some (.oar [8401] 1 tb'.length (oLI 8401 tb')), some (.fam tb'.length 1 (mLI tb') (gLI tb'))] [] trivial ?_
      refine xR [(3, .call [(false, slLI false tb'), (true, .any), (true, .any)] true (I (lb3 tb' t16 t27)))] [0, 1, 2, 7, 8, 9, 10, 15, 16, 26, 27] [13, 8401] [slFeat false a, slFeat false b, I band, .arr 13, I t16, I t27, I (lb3 tb' t16 t27), I (a.length : Int), I t16, I (b.length : Int), I t27] [some (.oar [8401] 1 tb'.length (oLI 8401 tb')), some (.fam tb'.length 1 (mLI tb') (gLI tb'))] [Con Try.prog 73 [slLI false tb', I t16, I t27] true (I (lb3 tb' t16 t27)) ∧ ((false = true → true = true) ∧ 1 = 1 ∧ tb'.length = tb'.length ∧ ∀ i_, i_ < tb'.length → AV.idsL ((fLI false tb') i_) = [] ∧ leL (lookO [(8401, .fam tb'.length 1 (mLI tb') (gLI tb'))]) true ((oLI 8401 tb') i_) ((fLI false tb') i_)) ∧ True] ⟨⟨(leastBefore_ok tb' t16 t27 (by omega) (by omega) (fun q => by have := hrl q; omega) (fun q => by rw [hrz]; omega)), ⟨(fun h => by cases h), rfl, rfl, oleLI _ _ rfl⟩, trivial⟩, trivial⟩ ?_
      refine x_seq ?_
      refine x_seq ?_
      by_cases h3 : t16 = 0
      ·by_cases h4 : t27 = 0
       ·refine x_r [(1, .dec true), (4, .dec true)] [0, 1, 2, 7, 8, 9, 10, 15, 16, 26, 27, 39] [13, 8401] [slFeat false a, slFeat false b, I band, .arr 13, I t16, I t27, I (lb3 tb' t16 t27), I (a.length : Int), I t16, I (b.length : Int), I t27, Bv true] [some (.oar [8401] 1 tb'.length (oLI 8401 tb')), some (.fam tb'.length 1 (mLI tb') (gLI tb'))] [t16 = 0, t27 = 0] ⟨h3, h4, trivial⟩ ?_
        refine xe_then ?_
        refine x_true rfl ?_
        refine x_r [] [0, 1, 2, 7, 8, 9, 10, 15, 16, 26, 27] [13, 8401] [slFeat false a, slFeat false b, I band, .arr 13, I t16, I t27, I 0, I (a.length : Int), I t16, I (b.length : Int), I t27] [some (.oar [8401] 1 tb'.length (oLI 8401 tb')), some (.fam tb'.length 1 (mLI tb') (gLI tb'))] [] trivial ?_
        refine xe_then ?_
        refine x_seq ?_
        by_cases h5 : band < ((t16 - t27).natAbs : Int)
        ·refine x_r [(3, .call [(true, .any)] true (I ((t16 - t27).natAbs : Int))), (5, .dec true)] [0, 1, 2, 7, 8, 9, 10, 15, 16, 26, 27, 49] [13, 8401] [slFeat false a, slFeat false b, I band, .arr 13, I t16, I t27, I 0, I (a.length : Int), I t16, I (b.length : Int), I t27, Bv true] [some (.oar [8401] 1 tb'.length (oLI 8401 tb')), some (.fam tb'.length 1 (mLI tb') (gLI tb'))] [inR .i64 (t16 - t27), Con Try.prog 44 [I (t16 - t27)] true (I ((t16 - t27).natAbs : Int)) ∧ True, band < ((t16 - t27).natAbs : Int)] ⟨(inR_i64 (by omega) (by omega)), ⟨(abs_ok (t16 - t27) (by omega)), trivial⟩, h5, trivial⟩ ?_
         refine xe_then ?_
         refine x_true rfl ?_
         refine x_r [] [0, 1, 2, 7, 8, 15, 16, 26, 27] [13, 8401] [slFeat false a, slFeat false b, I band, .arr 13, I t16, I (a.length : Int), I t16, I (b.length : Int), I t27] [some (.oar [8401] 1 tb'.length (oLI 8401 tb')), some (.fam tb'.length 1 (mLI tb') (fun q => bif Nat.beq q t16.toNat then (fun q => bif Nat.beq q t27.toNat then [I 1099511627776] else (gLI tb') t16.toNat q) else (gLI tb') q))] [(0 : Int) ≤ t16 ∧ t16 < (tb'.length : Int), t16.toNat < tb'.length, t16.toNat < tb'.length ∧ (0 : Int) ≤ t27 ∧ t27 < (((at_ tb' t16.toNat).length) : Int), t16.toNat < tb'.length ∧ t27.toNat < (at_ tb' t16.toNat).length] ⟨⟨(by omega), (by omega)⟩, (by omega), ⟨(by omega), (by omega), (by omega)⟩, ⟨(by omega), (by omega)⟩, trivial⟩ ?_
         refine xe_block 3 ?_
         refine xe_then ?_
         refine x_weak [] (T := [(0, slFeat false a), (1, slFeat false b), (2, I band), (7, .arr 13), (8, I t16), (15, I (a.length : Int)), (16, I t16), (26, I (b.length : Int)), (27, I t27)]) (O := [(13, .oar [8401] 1 ((tb'.set t16.toNat ((at_ tb' t16.toNat).set t27.toNat 1099511627776)).length) (oLI 8401 (tb'.set t16.toNat ((at_ tb' t16.toNat).set t27.toNat 1099511627776)))), (8401, .fam (tb'.set t16.toNat ((at_ tb' t16.toNat).set t27.toNat 1099511627776)).length 1 (mLI (tb'.set t16.toNat ((at_ tb' t16.toNat).set t27.toNat 1099511627776))) (gLI (tb'.set t16.toNat ((at_ tb' t16.toNat).set t27.toNat 1099511627776))))]) rfl (⟨.inl rfl, .inl rfl, .inl rfl, .inl rfl, .inl rfl, .inl rfl, .inl rfl, .inl rfl, .inl rfl, trivial⟩) (⟨.inr ⟨rfl, rfl, (by first | rfl | (simp; done) | omega), fun i_ hi_ => .inl (osetLI 8401 t16.toNat tb' ((at_ tb' t16.toNat).set t27.toNat 1099511627776) i_)⟩, .inr (fsetLI (P := t16.toNat) (k := t27.toNat) ((by omega)) ((by omega)) (by simp only [Nat.beq_refl, cond_true]; try rfl) (by intro i hi; simp only [Nat.beq_refl, cond_true, beq_ne hi, cond_false]; try rfl) (by intro p hp; simp only [beq_ne hp, cond_false])), trivial⟩) ?_
         refine x_r [] [0, 1, 2, 7, 8, 15, 16, 26, 27] [13, 8401] [slFeat false a, slFeat false b, I band, .arr 13, I t16, I (a.length : Int), I t16, I (b.length : Int), I (t27 + 1)] [some (.oar [8401] 1 ((tb'.set t16.toNat ((at_ tb' t16.toNat).set t27.toNat 1099511627776)).length) (oLI 8401 (tb'.set t16.toNat ((at_ tb' t16.toNat).set t27.toNat 1099511627776)))), some (.fam (tb'.set t16.toNat ((at_ tb' t16.toNat).set t27.toNat 1099511627776)).length 1 (mLI (tb'.set t16.toNat ((at_ tb' t16.toNat).set t27.toNat 1099511627776))) (gLI (tb'.set t16.toNat ((at_ tb' t16.toNat).set t27.toNat 1099511627776))))] [inR .i64 (t27 + 1)] ⟨(inR_i64 (by omega) (by omega)), trivial⟩ ?_
         exact xe_again ((t27 + 1), (tb'.set t16.toNat ((at_ tb' t16.toNat).set t27.toNat 1099511627776))) rfl (show (0 ≤ (t27 + 1) ∧ (t27 + 1) ≤ (b.length : Int)) ∧ (tbOk a b band (tb'.set t16.toNat ((at_ tb' t16.toNat).set t27.toNat 1099511627776)) t16.toNat ∧ rowOk a b band (at_ (tb'.set t16.toNat ((at_ tb' t16.toNat).set t27.toNat 1099511627776)) t16.toNat) t16.toNat (t27 + 1).toNat) ∧ True from ⟨(by omega), (by rw [show (t27 + 1).toNat = t27.toNat + 1 from by omega]; exact tb_step hin.1 hin.2 hi hj (by rw [hlb.2]; first | exact (stp_far (by first | (left; rw [hix, hjx]; omega) | (right; (try rw [if_neg (by omega)]); (try rw [if_pos (by omega)]); omega))).symm | (rw [stp_add (by rw [hix, hjx]; omega) (by first | (rw [if_neg (by omega)]; omega) | (rw [if_pos (by omega)]; decide))]; first | rw [if_neg (by omega)] | rw [if_pos (by omega)]))), trivial⟩) (by first | (show (((b.length : Int) - (t27 + 1)).toNat : Nat) < ((b.length : Int) - t27).toNat; omega) | (dsimp only; omega))
        refine x_r [(3, .call [(true, .any)] true (I ((t16 - t27).natAbs : Int))), (5, .dec false), (8, .dec false)] [0, 1, 2, 7, 8, 9, 10, 15, 16, 26, 27, 49] [13, 8401] [slFeat false a, slFeat false b, I band, .arr 13, I t16, I t27, I 0, I (a.length : Int), I t16, I (b.length : Int), I t27, Bv false] [some (.oar [8401] 1 tb'.length (oLI 8401 tb')), some (.fam tb'.length 1 (mLI tb') (gLI tb'))] [inR .i64 (t16 - t27), Con Try.prog 44 [I (t16 - t27)] true (I ((t16 - t27).natAbs : Int)) ∧ True, ¬ (band < ((t16 - t27).natAbs : Int)), ¬ ((1099511627776 : Int) ≤ 0)] ⟨(inR_i64 (by omega) (by omega)), ⟨(abs_ok (t16 - t27) (by omega)), trivial⟩, h5, (by decide), trivial⟩ ?_
        refine xe_then ?_
        refine x_false rfl ?_
        refine x_r [(14, .call [(true, .any), (true, .any)] true (I (costF (at_ a t16.toNat) (at_ b t27.toNat))))] [0, 1, 2, 7, 8, 15, 16, 26, 27] [13, 8401] [slFeat false a, slFeat false b, I band, .arr 13, I t16, I (a.length : Int), I t16, I (b.length : Int), I t27] [some (.oar [8401] 1 tb'.length (oLI 8401 tb')), some (.fam tb'.length 1 (mLI tb') (fun q => bif Nat.beq q t16.toNat then (fun q => bif Nat.beq q t27.toNat then [I (0 + (costF (at_ a t16.toNat) (at_ b t27.toNat)))] else (gLI tb') t16.toNat q) else (gLI tb') q))] [(0 : Int) ≤ t16 ∧ t16 < (tb'.length : Int), t16.toNat < tb'.length, (0 : Int) ≤ t16 ∧ t16 < (a.length : Int), (0 : Int) ≤ t27 ∧ t27 < (b.length : Int), Con Try.prog 72 [agFeat (at_ a t16.toNat), agFeat (at_ b t27.toNat)] true (I (costF (at_ a t16.toNat) (at_ b t27.toNat))) ∧ True, inR .i64 (0 + (costF (at_ a t16.toNat) (at_ b t27.toNat))), t16.toNat < tb'.length ∧ (0 : Int) ≤ t27 ∧ t27 < (((at_ tb' t16.toNat).length) : Int), t16.toNat < tb'.length ∧ t27.toNat < (at_ tb' t16.toNat).length] ⟨⟨(by omega), (by omega)⟩, (by omega), ⟨(by omega), (by omega)⟩, ⟨(by omega), (by omega)⟩, ⟨(featCost_ok (at_ a t16.toNat) (at_ b t27.toNat) (by first | exact hab.1 _ (by omega) | exact hab.2.1 _ (by omega)) (by first | exact hab.1 _ (by omega) | exact hab.2.1 _ (by omega))), trivial⟩, (inR_i64 (by omega) (by omega)), ⟨(by omega), (by omega), (by omega)⟩, ⟨(by omega), (by omega)⟩, trivial⟩ ?_
        refine xe_block 3 ?_
        refine xe_then ?_
        refine x_weak [] (T := [(0, slFeat false a), (1, slFeat false b), (2, I band), (7, .arr 13), (8, I t16), (15, I (a.length : Int)), (16, I t16), (26, I (b.length : Int)), (27, I t27)]) (O := [(13, .oar [8401] 1 ((tb'.set t16.toNat ((at_ tb' t16.toNat).set t27.toNat (0 + (costF (at_ a t16.toNat) (at_ b t27.toNat))))).length) (oLI 8401 (tb'.set t16.toNat ((at_ tb' t16.toNat).set t27.toNat (0 + (costF (at_ a t16.toNat) (at_ b t27.toNat))))))), (8401, .fam (tb'.set t16.toNat ((at_ tb' t16.toNat).set t27.toNat (0 + (costF (at_ a t16.toNat) (at_ b t27.toNat))))).length 1 (mLI (tb'.set t16.toNat ((at_ tb' t16.toNat).set t27.toNat (0 + (costF (at_ a t16.toNat) (at_ b t27.toNat)))))) (gLI (tb'.set t16.toNat ((at_ tb' t16.toNat).set t27.toNat (0 + (costF (at_ a t16.toNat) (at_ b t27.toNat)))))))]) rfl (⟨.inl rfl, .inl rfl, .inl rfl, .inl rfl, .inl rfl, .inl rfl, .inl rfl, .inl rfl, .inl rfl, trivial⟩) (⟨.inr ⟨rfl, rfl, (by first | rfl | (simp; done) | omega), fun i_ hi_ => .inl (osetLI 8401 t16.toNat tb' ((at_ tb' t16.toNat).set t27.toNat (0 + (costF (at_ a t16.toNat) (at_ b t27.toNat)))) i_)⟩, .inr (fsetLI (P := t16.toNat) (k := t27.toNat) ((by omega)) ((by omega)) (by simp only [Nat.beq_refl, cond_true]; try rfl) (by intro i hi; simp only [Nat.beq_refl, cond_true, beq_ne hi, cond_false]; try rfl) (by intro p hp; simp only [beq_ne hp, cond_false])), trivial⟩) ?_
        refine x_r [] [0, 1, 2, 7, 8, 15, 16, 26, 27] [13, 8401] [slFeat false a, slFeat false b, I band, .arr 13, I t16, I (a.length : Int), I t16, I (b.length : Int), I (t27 + 1)] [some (.oar [8401] 1 ((tb'.set t16.toNat ((at_ tb' t16.toNat).set t27.toNat (0 + (costF (at_ a t16.toNat) (at_ b t27.toNat))))).length) (oLI 8401 (tb'.set t16.toNat ((at_ tb' t16.toNat).set t27.toNat (0 + (costF (at_ a t16.toNat) (at_ b t27.toNat))))))), some (.fam (tb'.set t16.toNat ((at_ tb' t16.toNat).set t27.toNat (0 + (costF (at_ a t16.toNat) (at_ b t27.toNat))))).length 1 (mLI (tb'.set t16.toNat ((at_ tb' t16.toNat).set t27.toNat (0 + (costF (at_ a t16.toNat) (at_ b t27.toNat)))))) (gLI (tb'.set t16.toNat ((at_ tb' t16.toNat).set t27.toNat (0 + (costF (at_ a t16.toNat) (at_ b t27.toNat)))))))] [inR .i64 (t27 + 1)] ⟨(inR_i64 (by omega) (by omega)), trivial⟩ ?_
        exact xe_again ((t27 + 1), (tb'.set t16.toNat ((at_ tb' t16.toNat).set t27.toNat (0 + (costF (at_ a t16.toNat) (at_ b t27.toNat)))))) rfl (show (0 ≤ (t27 + 1) ∧ (t27 + 1) ≤ (b.length : Int)) ∧ (tbOk a b band (tb'.set t16.toNat ((at_ tb' t16.toNat).set t27.toNat (0 + (costF (at_ a t16.toNat) (at_ b t27.toNat))))) t16.toNat ∧ rowOk a b band (at_ (tb'.set t16.toNat ((at_ tb' t16.toNat).set t27.toNat (0 + (costF (at_ a t16.toNat) (at_ b t27.toNat))))) t16.toNat) t16.toNat (t27 + 1).toNat) ∧ True from ⟨(by omega), (by rw [show (t27 + 1).toNat = t27.toNat + 1 from by omega]; exact tb_step hin.1 hin.2 hi hj (by rw [hlb.2]; first | exact (stp_far (by first | (left; rw [hix, hjx]; omega) | (right; (try rw [if_neg (by omega)]); (try rw [if_pos (by omega)]); omega))).symm | (rw [stp_add (by rw [hix, hjx]; omega) (by first | (rw [if_neg (by omega)]; omega) | (rw [if_pos (by omega)]; decide))]; first | rw [if_neg (by omega)] | rw [if_pos (by omega)]))), trivial⟩) (by first | (show (((b.length : Int) - (t27 + 1)).toNat : Nat) < ((b.length : Int) - t27).toNat; omega) | (dsimp only; omega))
       refine x_r [(1, .dec true), (4, .dec false)] [0, 1, 2, 7, 8, 9, 10, 15, 16, 26, 27, 39] [13, 8401] [slFeat false a, slFeat false b, I band, .arr 13, I t16, I t27, I (lb3 tb' t16 t27), I (a.length : Int), I t16, I (b.length : Int), I t27, Bv false] [some (.oar [8401] 1 tb'.length (oLI 8401 tb')), some (.fam tb'.length 1 (mLI tb') (gLI tb'))] [t16 = 0, ¬ (t27 = 0)] ⟨h3, h4, trivial⟩ ?_
       refine xe_then ?_
       refine x_false rfl ?_
       refine x_skip ?_
       refine xe_then ?_
       refine x_seq ?_
       by_cases h6 : band < ((t16 - t27).natAbs : Int)
       ·refine x_r [(3, .call [(true, .any)] true (I ((t16 - t27).natAbs : Int))), (5, .dec true)] [0, 1, 2, 7, 8, 9, 10, 15, 16, 26, 27, 49] [13, 8401] [slFeat false a, slFeat false b, I band, .arr 13, I t16, I t27, I (lb3 tb' t16 t27), I (a.length : Int), I t16, I (b.length : Int), I t27, Bv true] [some (.oar [8401] 1 tb'.length (oLI 8401 tb')), some (.fam tb'.length 1 (mLI tb') (gLI tb'))] [inR .i64 (t16 - t27), Con Try.prog 44 [I (t16 - t27)] true (I ((t16 - t27).natAbs : Int)) ∧ True, band < ((t16 - t27).natAbs : Int)] ⟨(inR_i64 (by omega) (by omega)), ⟨(abs_ok (t16 - t27) (by omega)), trivial⟩, h6, trivial⟩ ?_
        refine xe_then ?_
        refine x_true rfl ?_
        refine x_r [] [0, 1, 2, 7, 8, 15, 16, 26, 27] [13, 8401] [slFeat false a, slFeat false b, I band, .arr 13, I t16, I (a.length : Int), I t16, I (b.length : Int), I t27] [some (.oar [8401] 1 tb'.length (oLI 8401 tb')), some (.fam tb'.length 1 (mLI tb') (fun q => bif Nat.beq q t16.toNat then (fun q => bif Nat.beq q t27.toNat then [I 1099511627776] else (gLI tb') t16.toNat q) else (gLI tb') q))] [(0 : Int) ≤ t16 ∧ t16 < (tb'.length : Int), t16.toNat < tb'.length, t16.toNat < tb'.length ∧ (0 : Int) ≤ t27 ∧ t27 < (((at_ tb' t16.toNat).length) : Int), t16.toNat < tb'.length ∧ t27.toNat < (at_ tb' t16.toNat).length] ⟨⟨(by omega), (by omega)⟩, (by omega), ⟨(by omega), (by omega), (by omega)⟩, ⟨(by omega), (by omega)⟩, trivial⟩ ?_
        refine xe_block 3 ?_
        refine xe_then ?_
        refine x_weak [] (T := [(0, slFeat false a), (1, slFeat false b), (2, I band), (7, .arr 13), (8, I t16), (15, I (a.length : Int)), (16, I t16), (26, I (b.length : Int)), (27, I t27)]) (O := [(13, .oar [8401] 1 ((tb'.set t16.toNat ((at_ tb' t16.toNat).set t27.toNat 1099511627776)).length) (oLI 8401 (tb'.set t16.toNat ((at_ tb' t16.toNat).set t27.toNat 1099511627776)))), (8401, .fam (tb'.set t16.toNat ((at_ tb' t16.toNat).set t27.toNat 1099511627776)).length 1 (mLI (tb'.set t16.toNat ((at_ tb' t16.toNat).set t27.toNat 1099511627776))) (gLI (tb'.set t16.toNat ((at_ tb' t16.toNat).set t27.toNat 1099511627776))))]) rfl (⟨.inl rfl, .inl rfl, .inl rfl, .inl rfl, .inl rfl, .inl rfl, .inl rfl, .inl rfl, .inl rfl, trivial⟩) (⟨.inr ⟨rfl, rfl, (by first | rfl | (simp; done) | omega), fun i_ hi_ => .inl (osetLI 8401 t16.toNat tb' ((at_ tb' t16.toNat).set t27.toNat 1099511627776) i_)⟩, .inr (fsetLI (P := t16.toNat) (k := t27.toNat) ((by omega)) ((by omega)) (by simp only [Nat.beq_refl, cond_true]; try rfl) (by intro i hi; simp only [Nat.beq_refl, cond_true, beq_ne hi, cond_false]; try rfl) (by intro p hp; simp only [beq_ne hp, cond_false])), trivial⟩) ?_
        refine x_r [] [0, 1, 2, 7, 8, 15, 16, 26, 27] [13, 8401] [slFeat false a, slFeat false b, I band, .arr 13, I t16, I (a.length : Int), I t16, I (b.length : Int), I (t27 + 1)] [some (.oar [8401] 1 ((tb'.set t16.toNat ((at_ tb' t16.toNat).set t27.toNat 1099511627776)).length) (oLI 8401 (tb'.set t16.toNat ((at_ tb' t16.toNat).set t27.toNat 1099511627776)))), some (.fam (tb'.set t16.toNat ((at_ tb' t16.toNat).set t27.toNat 1099511627776)).length 1 (mLI (tb'.set t16.toNat ((at_ tb' t16.toNat).set t27.toNat 1099511627776))) (gLI (tb'.set t16.toNat ((at_ tb' t16.toNat).set t27.toNat 1099511627776))))] [inR .i64 (t27 + 1)] ⟨(inR_i64 (by omega) (by omega)), trivial⟩ ?_
        exact xe_again ((t27 + 1), (tb'.set t16.toNat ((at_ tb' t16.toNat).set t27.toNat 1099511627776))) rfl (show (0 ≤ (t27 + 1) ∧ (t27 + 1) ≤ (b.length : Int)) ∧ (tbOk a b band (tb'.set t16.toNat ((at_ tb' t16.toNat).set t27.toNat 1099511627776)) t16.toNat ∧ rowOk a b band (at_ (tb'.set t16.toNat ((at_ tb' t16.toNat).set t27.toNat 1099511627776)) t16.toNat) t16.toNat (t27 + 1).toNat) ∧ True from ⟨(by omega), (by rw [show (t27 + 1).toNat = t27.toNat + 1 from by omega]; exact tb_step hin.1 hin.2 hi hj (by rw [hlb.2]; first | exact (stp_far (by first | (left; rw [hix, hjx]; omega) | (right; (try rw [if_neg (by omega)]); (try rw [if_pos (by omega)]); omega))).symm | (rw [stp_add (by rw [hix, hjx]; omega) (by first | (rw [if_neg (by omega)]; omega) | (rw [if_pos (by omega)]; decide))]; first | rw [if_neg (by omega)] | rw [if_pos (by omega)]))), trivial⟩) (by first | (show (((b.length : Int) - (t27 + 1)).toNat : Nat) < ((b.length : Int) - t27).toNat; omega) | (dsimp only; omega))
       by_cases h7 : 1099511627776 ≤ (lb3 tb' t16 t27)
       ·refine x_r [(3, .call [(true, .any)] true (I ((t16 - t27).natAbs : Int))), (5, .dec false), (8, .dec true)] [0, 1, 2, 7, 8, 9, 10, 15, 16, 26, 27, 49] [13, 8401] [slFeat false a, slFeat false b, I band, .arr 13, I t16, I t27, I (lb3 tb' t16 t27), I (a.length : Int), I t16, I (b.length : Int), I t27, Bv true] [some (.oar [8401] 1 tb'.length (oLI 8401 tb')), some (.fam tb'.length 1 (mLI tb') (gLI tb'))] [inR .i64 (t16 - t27), Con Try.prog 44 [I (t16 - t27)] true (I ((t16 - t27).natAbs : Int)) ∧ True, ¬ (band < ((t16 - t27).natAbs : Int)), 1099511627776 ≤ (lb3 tb' t16 t27)] ⟨(inR_i64 (by omega) (by omega)), ⟨(abs_ok (t16 - t27) (by omega)), trivial⟩, h6, h7, trivial⟩ ?_
        refine xe_then ?_
        refine x_true rfl ?_
        refine x_r [] [0, 1, 2, 7, 8, 15, 16, 26, 27] [13, 8401] [slFeat false a, slFeat false b, I band, .arr 13, I t16, I (a.length : Int), I t16, I (b.length : Int), I t27] [some (.oar [8401] 1 tb'.length (oLI 8401 tb')), some (.fam tb'.length 1 (mLI tb') (fun q => bif Nat.beq q t16.toNat then (fun q => bif Nat.beq q t27.toNat then [I 1099511627776] else (gLI tb') t16.toNat q) else (gLI tb') q))] [(0 : Int) ≤ t16 ∧ t16 < (tb'.length : Int), t16.toNat < tb'.length, t16.toNat < tb'.length ∧ (0 : Int) ≤ t27 ∧ t27 < (((at_ tb' t16.toNat).length) : Int), t16.toNat < tb'.length ∧ t27.toNat < (at_ tb' t16.toNat).length] ⟨⟨(by omega), (by omega)⟩, (by omega), ⟨(by omega), (by omega), (by omega)⟩, ⟨(by omega), (by omega)⟩, trivial⟩ ?_
        refine xe_block 3 ?_
        refine xe_then ?_
        refine x_weak [] (T := [(0, slFeat false a), (1, slFeat false b), (2, I band), (7, .arr 13), (8, I t16), (15, I (a.length : Int)), (16, I t16), (26, I (b.length : Int)), (27, I t27)]) (O := [(13, .oar [8401] 1 ((tb'.set t16.toNat ((at_ tb' t16.toNat).set t27.toNat 1099511627776)).length) (oLI 8401 (tb'.set t16.toNat ((at_ tb' t16.toNat).set t27.toNat 1099511627776)))), (8401, .fam (tb'.set t16.toNat ((at_ tb' t16.toNat).set t27.toNat 1099511627776)).length 1 (mLI (tb'.set t16.toNat ((at_ tb' t16.toNat).set t27.toNat 1099511627776))) (gLI (tb'.set t16.toNat ((at_ tb' t16.toNat).set t27.toNat 1099511627776))))]) rfl (⟨.inl rfl, .inl rfl, .inl rfl, .inl rfl, .inl rfl, .inl rfl, .inl rfl, .inl rfl, .inl rfl, trivial⟩) (⟨.inr ⟨rfl, rfl, (by first | rfl | (simp; done) | omega), fun i_ hi_ => .inl (osetLI 8401 t16.toNat tb' ((at_ tb' t16.toNat).set t27.toNat 1099511627776) i_)⟩, .inr (fsetLI (P := t16.toNat) (k := t27.toNat) ((by omega)) ((by omega)) (by simp only [Nat.beq_refl, cond_true]; try rfl) (by intro i hi; simp only [Nat.beq_refl, cond_true, beq_ne hi, cond_false]; try rfl) (by intro p hp; simp only [beq_ne hp, cond_false])), trivial⟩) ?_
        refine x_r [] [0, 1, 2, 7, 8, 15, 16, 26, 27] [13, 8401] [slFeat false a, slFeat false b, I band, .arr 13, I t16, I (a.length : Int), I t16, I (b.length : Int), I (t27 + 1)] [some (.oar [8401] 1 ((tb'.set t16.toNat ((at_ tb' t16.toNat).set t27.toNat 1099511627776)).length) (oLI 8401 (tb'.set t16.toNat ((at_ tb' t16.toNat).set t27.toNat 1099511627776)))), some (.fam (tb'.set t16.toNat ((at_ tb' t16.toNat).set t27.toNat 1099511627776)).length 1 (mLI (tb'.set t16.toNat ((at_ tb' t16.toNat).set t27.toNat 1099511627776))) (gLI (tb'.set t16.toNat ((at_ tb' t16.toNat).set t27.toNat 1099511627776))))] [inR .i64 (t27 + 1)] ⟨(inR_i64 (by omega) (by omega)), trivial⟩ ?_
        exact xe_again ((t27 + 1), (tb'.set t16.toNat ((at_ tb' t16.toNat).set t27.toNat 1099511627776))) rfl (show (0 ≤ (t27 + 1) ∧ (t27 + 1) ≤ (b.length : Int)) ∧ (tbOk a b band (tb'.set t16.toNat ((at_ tb' t16.toNat).set t27.toNat 1099511627776)) t16.toNat ∧ rowOk a b band (at_ (tb'.set t16.toNat ((at_ tb' t16.toNat).set t27.toNat 1099511627776)) t16.toNat) t16.toNat (t27 + 1).toNat) ∧ True from ⟨(by omega), (by rw [show (t27 + 1).toNat = t27.toNat + 1 from by omega]; exact tb_step hin.1 hin.2 hi hj (by rw [hlb.2]; first | exact (stp_far (by first | (left; rw [hix, hjx]; omega) | (right; (try rw [if_neg (by omega)]); (try rw [if_pos (by omega)]); omega))).symm | (rw [stp_add (by rw [hix, hjx]; omega) (by first | (rw [if_neg (by omega)]; omega) | (rw [if_pos (by omega)]; decide))]; first | rw [if_neg (by omega)] | rw [if_pos (by omega)]))), trivial⟩) (by first | (show (((b.length : Int) - (t27 + 1)).toNat : Nat) < ((b.length : Int) - t27).toNat; omega) | (dsimp only; omega))
       refine x_r [(3, .call [(true, .any)] true (I ((t16 - t27).natAbs : Int))), (5, .dec false), (8, .dec false)] [0, 1, 2, 7, 8, 9, 10, 15, 16, 26, 27, 49] [13, 8401] [slFeat false a, slFeat false b, I band, .arr 13, I t16, I t27, I (lb3 tb' t16 t27), I (a.length : Int), I t16, I (b.length : Int), I t27, Bv false] [some (.oar [8401] 1 tb'.length (oLI 8401 tb')), some (.fam tb'.length 1 (mLI tb') (gLI tb'))] [inR .i64 (t16 - t27), Con Try.prog 44 [I (t16 - t27)] true (I ((t16 - t27).natAbs : Int)) ∧ True, ¬ (band < ((t16 - t27).natAbs : Int)), ¬ (1099511627776 ≤ (lb3 tb' t16 t27))] ⟨(inR_i64 (by omega) (by omega)), ⟨(abs_ok (t16 - t27) (by omega)), trivial⟩, h6, h7, trivial⟩ ?_
       refine xe_then ?_
       refine x_false rfl ?_
       refine x_r [(14, .call [(true, .any), (true, .any)] true (I (costF (at_ a t16.toNat) (at_ b t27.toNat))))] [0, 1, 2, 7, 8, 15, 16, 26, 27] [13, 8401] [slFeat false a, slFeat false b, I band, .arr 13, I t16, I (a.length : Int), I t16, I (b.length : Int), I t27] [some (.oar [8401] 1 tb'.length (oLI 8401 tb')), some (.fam tb'.length 1 (mLI tb') (fun q => bif Nat.beq q t16.toNat then (fun q => bif Nat.beq q t27.toNat then [I ((lb3 tb' t16 t27) + (costF (at_ a t16.toNat) (at_ b t27.toNat)))] else (gLI tb') t16.toNat q) else (gLI tb') q))] [(0 : Int) ≤ t16 ∧ t16 < (tb'.length : Int), t16.toNat < tb'.length, (0 : Int) ≤ t16 ∧ t16 < (a.length : Int), (0 : Int) ≤ t27 ∧ t27 < (b.length : Int), Con Try.prog 72 [agFeat (at_ a t16.toNat), agFeat (at_ b t27.toNat)] true (I (costF (at_ a t16.toNat) (at_ b t27.toNat))) ∧ True, inR .i64 ((lb3 tb' t16 t27) + (costF (at_ a t16.toNat) (at_ b t27.toNat))), t16.toNat < tb'.length ∧ (0 : Int) ≤ t27 ∧ t27 < (((at_ tb' t16.toNat).length) : Int), t16.toNat < tb'.length ∧ t27.toNat < (at_ tb' t16.toNat).length] ⟨⟨(by omega), (by omega)⟩, (by omega), ⟨(by omega), (by omega)⟩, ⟨(by omega), (by omega)⟩, ⟨(featCost_ok (at_ a t16.toNat) (at_ b t27.toNat) (by first | exact hab.1 _ (by omega) | exact hab.2.1 _ (by omega)) (by first | exact hab.1 _ (by omega) | exact hab.2.1 _ (by omega))), trivial⟩, (inR_i64 (by omega) (by omega)), ⟨(by omega), (by omega), (by omega)⟩, ⟨(by omega), (by omega)⟩, trivial⟩ ?_
       refine xe_block 3 ?_
       refine xe_then ?_
       refine x_weak [] (T := [(0, slFeat false a), (1, slFeat false b), (2, I band), (7, .arr 13), (8, I t16), (15, I (a.length : Int)), (16, I t16), (26, I (b.length : Int)), (27, I t27)]) (O := [(13, .oar [8401] 1 ((tb'.set t16.toNat ((at_ tb' t16.toNat).set t27.toNat ((lb3 tb' t16 t27) + (costF (at_ a t16.toNat) (at_ b t27.toNat))))).length) (oLI 8401 (tb'.set t16.toNat ((at_ tb' t16.toNat).set t27.toNat ((lb3 tb' t16 t27) + (costF (at_ a t16.toNat) (at_ b t27.toNat))))))), (8401, .fam (tb'.set t16.toNat ((at_ tb' t16.toNat).set t27.toNat ((lb3 tb' t16 t27) + (costF (at_ a t16.toNat) (at_ b t27.toNat))))).length 1 (mLI (tb'.set t16.toNat ((at_ tb' t16.toNat).set t27.toNat ((lb3 tb' t16 t27) + (costF (at_ a t16.toNat) (at_ b t27.toNat)))))) (gLI (tb'.set t16.toNat ((at_ tb' t16.toNat).set t27.toNat ((lb3 tb' t16 t27) + (costF (at_ a t16.toNat) (at_ b t27.toNat)))))))]) rfl (⟨.inl rfl, .inl rfl, .inl rfl, .inl rfl, .inl rfl, .inl rfl, .inl rfl, .inl rfl, .inl rfl, trivial⟩) (⟨.inr ⟨rfl, rfl, (by first | rfl | (simp; done) | omega), fun i_ hi_ => .inl (osetLI 8401 t16.toNat tb' ((at_ tb' t16.toNat).set t27.toNat ((lb3 tb' t16 t27) + (costF (at_ a t16.toNat) (at_ b t27.toNat)))) i_)⟩, .inr (fsetLI (P := t16.toNat) (k := t27.toNat) ((by omega)) ((by omega)) (by simp only [Nat.beq_refl, cond_true]; try rfl) (by intro i hi; simp only [Nat.beq_refl, cond_true, beq_ne hi, cond_false]; try rfl) (by intro p hp; simp only [beq_ne hp, cond_false])), trivial⟩) ?_
       refine x_r [] [0, 1, 2, 7, 8, 15, 16, 26, 27] [13, 8401] [slFeat false a, slFeat false b, I band, .arr 13, I t16, I (a.length : Int), I t16, I (b.length : Int), I (t27 + 1)] [some (.oar [8401] 1 ((tb'.set t16.toNat ((at_ tb' t16.toNat).set t27.toNat ((lb3 tb' t16 t27) + (costF (at_ a t16.toNat) (at_ b t27.toNat))))).length) (oLI 8401 (tb'.set t16.toNat ((at_ tb' t16.toNat).set t27.toNat ((lb3 tb' t16 t27) + (costF (at_ a t16.toNat) (at_ b t27.toNat))))))), some (.fam (tb'.set t16.toNat ((at_ tb' t16.toNat).set t27.toNat ((lb3 tb' t16 t27) + (costF (at_ a t16.toNat) (at_ b t27.toNat))))).length 1 (mLI (tb'.set t16.toNat ((at_ tb' t16.toNat).set t27.toNat ((lb3 tb' t16 t27) + (costF (at_ a t16.toNat) (at_ b t27.toNat)))))) (gLI (tb'.set t16.toNat ((at_ tb' t16.toNat).set t27.toNat ((lb3 tb' t16 t27) + (costF (at_ a t16.toNat) (at_ b t27.toNat)))))))] [inR .i64 (t27 + 1)] ⟨(inR_i64 (by omega) (by omega)), trivial⟩ ?_
       exact xe_again ((t27 + 1), (tb'.set t16.toNat ((at_ tb' t16.toNat).set t27.toNat ((lb3 tb' t16 t27) + (costF (at_ a t16.toNat) (at_ b t27.toNat)))))) rfl (show (0 ≤ (t27 + 1) ∧ (t27 + 1) ≤ (b.length : Int)) ∧ (tbOk a b band (tb'.set t16.toNat ((at_ tb' t16.toNat).set t27.toNat ((lb3 tb' t16 t27) + (costF (at_ a t16.toNat) (at_ b t27.toNat))))) t16.toNat ∧ rowOk a b band (at_ (tb'.set t16.toNat ((at_ tb' t16.toNat).set t27.toNat ((lb3 tb' t16 t27) + (costF (at_ a t16.toNat) (at_ b t27.toNat))))) t16.toNat) t16.toNat (t27 + 1).toNat) ∧ True from ⟨(by omega), (by rw [show (t27 + 1).toNat = t27.toNat + 1 from by omega]; exact tb_step hin.1 hin.2 hi hj (by rw [hlb.2]; first | exact (stp_far (by first | (left; rw [hix, hjx]; omega) | (right; (try rw [if_neg (by omega)]); (try rw [if_pos (by omega)]); omega))).symm | (rw [stp_add (by rw [hix, hjx]; omega) (by first | (rw [if_neg (by omega)]; omega) | (rw [if_pos (by omega)]; decide))]; first | rw [if_neg (by omega)] | rw [if_pos (by omega)]))), trivial⟩) (by first | (show (((b.length : Int) - (t27 + 1)).toNat : Nat) < ((b.length : Int) - t27).toNat; omega) | (dsimp only; omega))
      refine x_r [(1, .dec false)] [0, 1, 2, 7, 8, 9, 10, 15, 16, 26, 27, 39] [13, 8401] [slFeat false a, slFeat false b, I band, .arr 13, I t16, I t27, I (lb3 tb' t16 t27), I (a.length : Int), I t16, I (b.length : Int), I t27, Bv false] [some (.oar [8401] 1 tb'.length (oLI 8401 tb')), some (.fam tb'.length 1 (mLI tb') (gLI tb'))] [¬ (t16 = 0)] ⟨h3, trivial⟩ ?_
      refine xe_then ?_
      refine x_false rfl ?_
      refine x_skip ?_
      refine xe_then ?_
      refine x_seq ?_
      by_cases h8 : band < ((t16 - t27).natAbs : Int)
      ·refine x_r [(3, .call [(true, .any)] true (I ((t16 - t27).natAbs : Int))), (5, .dec true)] [0, 1, 2, 7, 8, 9, 10, 15, 16, 26, 27, 49] [13, 8401] [slFeat false a, slFeat false b, I band, .arr 13, I t16, I t27, I (lb3 tb' t16 t27), I (a.length : Int), I t16, I (b.length : Int), I t27, Bv true] [some (.oar [8401] 1 tb'.length (oLI 8401 tb')), some (.fam tb'.length 1 (mLI tb') (gLI tb'))] [inR .i64 (t16 - t27), Con Try.prog 44 [I (t16 - t27)] true (I ((t16 - t27).natAbs : Int)) ∧ True, band < ((t16 - t27).natAbs : Int)] ⟨(inR_i64 (by omega) (by omega)), ⟨(abs_ok (t16 - t27) (by omega)), trivial⟩, h8, trivial⟩ ?_
       refine xe_then ?_
       refine x_true rfl ?_
       refine x_r [] [0, 1, 2, 7, 8, 15, 16, 26, 27] [13, 8401] [slFeat false a, slFeat false b, I band, .arr 13, I t16, I (a.length : Int), I t16, I (b.length : Int), I t27] [some (.oar [8401] 1 tb'.length (oLI 8401 tb')), some (.fam tb'.length 1 (mLI tb') (fun q => bif Nat.beq q t16.toNat then (fun q => bif Nat.beq q t27.toNat then [I 1099511627776] else (gLI tb') t16.toNat q) else (gLI tb') q))] [(0 : Int) ≤ t16 ∧ t16 < (tb'.length : Int), t16.toNat < tb'.length, t16.toNat < tb'.length ∧ (0 : Int) ≤ t27 ∧ t27 < (((at_ tb' t16.toNat).length) : Int), t16.toNat < tb'.length ∧ t27.toNat < (at_ tb' t16.toNat).length] ⟨⟨(by omega), (by omega)⟩, (by omega), ⟨(by omega), (by omega), (by omega)⟩, ⟨(by omega), (by omega)⟩, trivial⟩ ?_
       refine xe_block 3 ?_
       refine xe_then ?_
       refine x_weak [] (T := [(0, slFeat false a), (1, slFeat false b), (2, I band), (7, .arr 13), (8, I t16), (15, I (a.length : Int)), (16, I t16), (26, I (b.length : Int)), (27, I t27)]) (O := [(13, .oar [8401] 1 ((tb'.set t16.toNat ((at_ tb' t16.toNat).set t27.toNat 1099511627776)).length) (oLI 8401 (tb'.set t16.toNat ((at_ tb' t16.toNat).set t27.toNat 1099511627776)))), (8401, .fam (tb'.set t16.toNat ((at_ tb' t16.toNat).set t27.toNat 1099511627776)).length 1 (mLI (tb'.set t16.toNat ((at_ tb' t16.toNat).set t27.toNat 1099511627776))) (gLI (tb'.set t16.toNat ((at_ tb' t16.toNat).set t27.toNat 1099511627776))))]) rfl (⟨.inl rfl, .inl rfl, .inl rfl, .inl rfl, .inl rfl, .inl rfl, .inl rfl, .inl rfl, .inl rfl, trivial⟩) (⟨.inr ⟨rfl, rfl, (by first | rfl | (simp; done) | omega), fun i_ hi_ => .inl (osetLI 8401 t16.toNat tb' ((at_ tb' t16.toNat).set t27.toNat 1099511627776) i_)⟩, .inr (fsetLI (P := t16.toNat) (k := t27.toNat) ((by omega)) ((by omega)) (by simp only [Nat.beq_refl, cond_true]; try rfl) (by intro i hi; simp only [Nat.beq_refl, cond_true, beq_ne hi, cond_false]; try rfl) (by intro p hp; simp only [beq_ne hp, cond_false])), trivial⟩) ?_
       refine x_r [] [0, 1, 2, 7, 8, 15, 16, 26, 27] [13, 8401] [slFeat false a, slFeat false b, I band, .arr 13, I t16, I (a.length : Int), I t16, I (b.length : Int), I (t27 + 1)] [some (.oar [8401] 1 ((tb'.set t16.toNat ((at_ tb' t16.toNat).set t27.toNat 1099511627776)).length) (oLI 8401 (tb'.set t16.toNat ((at_ tb' t16.toNat).set t27.toNat 1099511627776)))), some (.fam (tb'.set t16.toNat ((at_ tb' t16.toNat).set t27.toNat 1099511627776)).length 1 (mLI (tb'.set t16.toNat ((at_ tb' t16.toNat).set t27.toNat 1099511627776))) (gLI (tb'.set t16.toNat ((at_ tb' t16.toNat).set t27.toNat 1099511627776))))] [inR .i64 (t27 + 1)] ⟨(inR_i64 (by omega) (by omega)), trivial⟩ ?_
       exact xe_again ((t27 + 1), (tb'.set t16.toNat ((at_ tb' t16.toNat).set t27.toNat 1099511627776))) rfl (show (0 ≤ (t27 + 1) ∧ (t27 + 1) ≤ (b.length : Int)) ∧ (tbOk a b band (tb'.set t16.toNat ((at_ tb' t16.toNat).set t27.toNat 1099511627776)) t16.toNat ∧ rowOk a b band (at_ (tb'.set t16.toNat ((at_ tb' t16.toNat).set t27.toNat 1099511627776)) t16.toNat) t16.toNat (t27 + 1).toNat) ∧ True from ⟨(by omega), (by rw [show (t27 + 1).toNat = t27.toNat + 1 from by omega]; exact tb_step hin.1 hin.2 hi hj (by rw [hlb.2]; first | exact (stp_far (by first | (left; rw [hix, hjx]; omega) | (right; (try rw [if_neg (by omega)]); (try rw [if_pos (by omega)]); omega))).symm | (rw [stp_add (by rw [hix, hjx]; omega) (by first | (rw [if_neg (by omega)]; omega) | (rw [if_pos (by omega)]; decide))]; first | rw [if_neg (by omega)] | rw [if_pos (by omega)]))), trivial⟩) (by first | (show (((b.length : Int) - (t27 + 1)).toNat : Nat) < ((b.length : Int) - t27).toNat; omega) | (dsimp only; omega))
      by_cases h9 : 1099511627776 ≤ (lb3 tb' t16 t27)
      ·refine x_r [(3, .call [(true, .any)] true (I ((t16 - t27).natAbs : Int))), (5, .dec false), (8, .dec true)] [0, 1, 2, 7, 8, 9, 10, 15, 16, 26, 27, 49] [13, 8401] [slFeat false a, slFeat false b, I band, .arr 13, I t16, I t27, I (lb3 tb' t16 t27), I (a.length : Int), I t16, I (b.length : Int), I t27, Bv true] [some (.oar [8401] 1 tb'.length (oLI 8401 tb')), some (.fam tb'.length 1 (mLI tb') (gLI tb'))] [inR .i64 (t16 - t27), Con Try.prog 44 [I (t16 - t27)] true (I ((t16 - t27).natAbs : Int)) ∧ True, ¬ (band < ((t16 - t27).natAbs : Int)), 1099511627776 ≤ (lb3 tb' t16 t27)] ⟨(inR_i64 (by omega) (by omega)), ⟨(abs_ok (t16 - t27) (by omega)), trivial⟩, h8, h9, trivial⟩ ?_
       refine xe_then ?_
       refine x_true rfl ?_
       refine x_r [] [0, 1, 2, 7, 8, 15, 16, 26, 27] [13, 8401] [slFeat false a, slFeat false b, I band, .arr 13, I t16, I (a.length : Int), I t16, I (b.length : Int), I t27] [some (.oar [8401] 1 tb'.length (oLI 8401 tb')), some (.fam tb'.length 1 (mLI tb') (fun q => bif Nat.beq q t16.toNat then (fun q => bif Nat.beq q t27.toNat then [I 1099511627776] else (gLI tb') t16.toNat q) else (gLI tb') q))] [(0 : Int) ≤ t16 ∧ t16 < (tb'.length : Int), t16.toNat < tb'.length, t16.toNat < tb'.length ∧ (0 : Int) ≤ t27 ∧ t27 < (((at_ tb' t16.toNat).length) : Int), t16.toNat < tb'.length ∧ t27.toNat < (at_ tb' t16.toNat).length] ⟨⟨(by omega), (by omega)⟩, (by omega), ⟨(by omega), (by omega), (by omega)⟩, ⟨(by omega), (by omega)⟩, trivial⟩ ?_
       refine xe_block 3 ?_
       refine xe_then ?_
       refine x_weak [] (T := [(0, slFeat false a), (1, slFeat false b), (2, I band), (7, .arr 13), (8, I t16), (15, I (a.length : Int)), (16, I t16), (26, I (b.length : Int)), (27, I t27)]) (O := [(13, .oar [8401] 1 ((tb'.set t16.toNat ((at_ tb' t16.toNat).set t27.toNat 1099511627776)).length) (oLI 8401 (tb'.set t16.toNat ((at_ tb' t16.toNat).set t27.toNat 1099511627776)))), (8401, .fam (tb'.set t16.toNat ((at_ tb' t16.toNat).set t27.toNat 1099511627776)).length 1 (mLI (tb'.set t16.toNat ((at_ tb' t16.toNat).set t27.toNat 1099511627776))) (gLI (tb'.set t16.toNat ((at_ tb' t16.toNat).set t27.toNat 1099511627776))))]) rfl (⟨.inl rfl, .inl rfl, .inl rfl, .inl rfl, .inl rfl, .inl rfl, .inl rfl, .inl rfl, .inl rfl, trivial⟩) (⟨.inr ⟨rfl, rfl, (by first | rfl | (simp; done) | omega), fun i_ hi_ => .inl (osetLI 8401 t16.toNat tb' ((at_ tb' t16.toNat).set t27.toNat 1099511627776) i_)⟩, .inr (fsetLI (P := t16.toNat) (k := t27.toNat) ((by omega)) ((by omega)) (by simp only [Nat.beq_refl, cond_true]; try rfl) (by intro i hi; simp only [Nat.beq_refl, cond_true, beq_ne hi, cond_false]; try rfl) (by intro p hp; simp only [beq_ne hp, cond_false])), trivial⟩) ?_
       refine x_r [] [0, 1, 2, 7, 8, 15, 16, 26, 27] [13, 8401] [slFeat false a, slFeat false b, I band, .arr 13, I t16, I (a.length : Int), I t16, I (b.length : Int), I (t27 + 1)] [some (.oar [8401] 1 ((tb'.set t16.toNat ((at_ tb' t16.toNat).set t27.toNat 1099511627776)).length) (oLI 8401 (tb'.set t16.toNat ((at_ tb' t16.toNat).set t27.toNat 1099511627776)))), some (.fam (tb'.set t16.toNat ((at_ tb' t16.toNat).set t27.toNat 1099511627776)).length 1 (mLI (tb'.set t16.toNat ((at_ tb' t16.toNat).set t27.toNat 1099511627776))) (gLI (tb'.set t16.toNat ((at_ tb' t16.toNat).set t27.toNat 1099511627776))))] [inR .i64 (t27 + 1)] ⟨(inR_i64 (by omega) (by omega)), trivial⟩ ?_
       exact xe_again ((t27 + 1), (tb'.set t16.toNat ((at_ tb' t16.toNat).set t27.toNat 1099511627776))) rfl (show (0 ≤ (t27 + 1) ∧ (t27 + 1) ≤ (b.length : Int)) ∧ (tbOk a b band (tb'.set t16.toNat ((at_ tb' t16.toNat).set t27.toNat 1099511627776)) t16.toNat ∧ rowOk a b band (at_ (tb'.set t16.toNat ((at_ tb' t16.toNat).set t27.toNat 1099511627776)) t16.toNat) t16.toNat (t27 + 1).toNat) ∧ True from ⟨(by omega), (by rw [show (t27 + 1).toNat = t27.toNat + 1 from by omega]; exact tb_step hin.1 hin.2 hi hj (by rw [hlb.2]; first | exact (stp_far (by first | (left; rw [hix, hjx]; omega) | (right; (try rw [if_neg (by omega)]); (try rw [if_pos (by omega)]); omega))).symm | (rw [stp_add (by rw [hix, hjx]; omega) (by first | (rw [if_neg (by omega)]; omega) | (rw [if_pos (by omega)]; decide))]; first | rw [if_neg (by omega)] | rw [if_pos (by omega)]))), trivial⟩) (by first | (show (((b.length : Int) - (t27 + 1)).toNat : Nat) < ((b.length : Int) - t27).toNat; omega) | (dsimp only; omega))
      refine x_r [(3, .call [(true, .any)] true (I ((t16 - t27).natAbs : Int))), (5, .dec false), (8, .dec false)] [0, 1, 2, 7, 8, 9, 10, 15, 16, 26, 27, 49] [13, 8401] [slFeat false a, slFeat false b, I band, .arr 13, I t16, I t27, I (lb3 tb' t16 t27), I (a.length : Int), I t16, I (b.length : Int), I t27, Bv false] [some (.oar [8401] 1 tb'.length (oLI 8401 tb')), some (.fam tb'.length 1 (mLI tb') (gLI tb'))] [inR .i64 (t16 - t27), Con Try.prog 44 [I (t16 - t27)] true (I ((t16 - t27).natAbs : Int)) ∧ True, ¬ (band < ((t16 - t27).natAbs : Int)), ¬ (1099511627776 ≤ (lb3 tb' t16 t27))] ⟨(inR_i64 (by omega) (by omega)), ⟨(abs_ok (t16 - t27) (by omega)), trivial⟩, h8, h9, trivial⟩ ?_
      refine xe_then ?_
      refine x_false rfl ?_
      refine x_r [(14, .call [(true, .any), (true, .any)] true (I (costF (at_ a t16.toNat) (at_ b t27.toNat))))] [0, 1, 2, 7, 8, 15, 16, 26, 27] [13, 8401] [slFeat false a, slFeat false b, I band, .arr 13, I t16, I (a.length : Int), I t16, I (b.length : Int), I t27] [some (.oar [8401] 1 tb'.length (oLI 8401 tb')), some (.fam tb'.length 1 (mLI tb') (fun q => bif Nat.beq q t16.toNat then (fun q => bif Nat.beq q t27.toNat then [I ((lb3 tb' t16 t27) + (costF (at_ a t16.toNat) (at_ b t27.toNat)))] else (gLI tb') t16.toNat q) else (gLI tb') q))] [(0 : Int) ≤ t16 ∧ t16 < (tb'.length : Int), t16.toNat < tb'.length, (0 : Int) ≤ t16 ∧ t16 < (a.length : Int), (0 : Int) ≤ t27 ∧ t27 < (b.length : Int), Con Try.prog 72 [agFeat (at_ a t16.toNat), agFeat (at_ b t27.toNat)] true (I (costF (at_ a t16.toNat) (at_ b t27.toNat))) ∧ True, inR .i64 ((lb3 tb' t16 t27) + (costF (at_ a t16.toNat) (at_ b t27.toNat))), t16.toNat < tb'.length ∧ (0 : Int) ≤ t27 ∧ t27 < (((at_ tb' t16.toNat).length) : Int), t16.toNat < tb'.length ∧ t27.toNat < (at_ tb' t16.toNat).length] ⟨⟨(by omega), (by omega)⟩, (by omega), ⟨(by omega), (by omega)⟩, ⟨(by omega), (by omega)⟩, ⟨(featCost_ok (at_ a t16.toNat) (at_ b t27.toNat) (by first | exact hab.1 _ (by omega) | exact hab.2.1 _ (by omega)) (by first | exact hab.1 _ (by omega) | exact hab.2.1 _ (by omega))), trivial⟩, (inR_i64 (by omega) (by omega)), ⟨(by omega), (by omega), (by omega)⟩, ⟨(by omega), (by omega)⟩, trivial⟩ ?_
      refine xe_block 3 ?_
      refine xe_then ?_
      refine x_weak [] (T := [(0, slFeat false a), (1, slFeat false b), (2, I band), (7, .arr 13), (8, I t16), (15, I (a.length : Int)), (16, I t16), (26, I (b.length : Int)), (27, I t27)]) (O := [(13, .oar [8401] 1 ((tb'.set t16.toNat ((at_ tb' t16.toNat).set t27.toNat ((lb3 tb' t16 t27) + (costF (at_ a t16.toNat) (at_ b t27.toNat))))).length) (oLI 8401 (tb'.set t16.toNat ((at_ tb' t16.toNat).set t27.toNat ((lb3 tb' t16 t27) + (costF (at_ a t16.toNat) (at_ b t27.toNat))))))), (8401, .fam (tb'.set t16.toNat ((at_ tb' t16.toNat).set t27.toNat ((lb3 tb' t16 t27) + (costF (at_ a t16.toNat) (at_ b t27.toNat))))).length 1 (mLI (tb'.set t16.toNat ((at_ tb' t16.toNat).set t27.toNat ((lb3 tb' t16 t27) + (costF (at_ a t16.toNat) (at_ b t27.toNat)))))) (gLI (tb'.set t16.toNat ((at_ tb' t16.toNat).set t27.toNat ((lb3 tb' t16 t27) + (costF (at_ a t16.toNat) (at_ b t27.toNat)))))))]) rfl (⟨.inl rfl, .inl rfl, .inl rfl, .inl rfl, .inl rfl, .inl rfl, .inl rfl, .inl rfl, .inl rfl, trivial⟩) (⟨.inr ⟨rfl, rfl, (by first | rfl | (simp; done) | omega), fun i_ hi_ => .inl (osetLI 8401 t16.toNat tb' ((at_ tb' t16.toNat).set t27.toNat ((lb3 tb' t16 t27) + (costF (at_ a t16.toNat) (at_ b t27.toNat)))) i_)⟩, .inr (fsetLI (P := t16.toNat) (k := t27.toNat) ((by omega)) ((by omega)) (by simp only [Nat.beq_refl, cond_true]; try rfl) (by intro i hi; simp only [Nat.beq_refl, cond_true, beq_ne hi, cond_false]; try rfl) (by intro p hp; simp only [beq_ne hp, cond_false])), trivial⟩) ?_
      refine x_r [] [0, 1, 2, 7, 8, 15, 16, 26, 27] [13, 8401] [slFeat false a, slFeat false b, I band, .arr 13, I t16, I (a.length : Int), I t16, I (b.length : Int), I (t27 + 1)] [some (.oar [8401] 1 ((tb'.set t16.toNat ((at_ tb' t16.toNat).set t27.toNat ((lb3 tb' t16 t27) + (costF (at_ a t16.toNat) (at_ b t27.toNat))))).length) (oLI 8401 (tb'.set t16.toNat ((at_ tb' t16.toNat).set t27.toNat ((lb3 tb' t16 t27) + (costF (at_ a t16.toNat) (at_ b t27.toNat))))))), some (.fam (tb'.set t16.toNat ((at_ tb' t16.toNat).set t27.toNat ((lb3 tb' t16 t27) + (costF (at_ a t16.toNat) (at_ b t27.toNat))))).length 1 (mLI (tb'.set t16.toNat ((at_ tb' t16.toNat).set t27.toNat ((lb3 tb' t16 t27) + (costF (at_ a t16.toNat) (at_ b t27.toNat)))))) (gLI (tb'.set t16.toNat ((at_ tb' t16.toNat).set t27.toNat ((lb3 tb' t16 t27) + (costF (at_ a t16.toNat) (at_ b t27.toNat)))))))] [inR .i64 (t27 + 1)] ⟨(inR_i64 (by omega) (by omega)), trivial⟩ ?_
      exact xe_again ((t27 + 1), (tb'.set t16.toNat ((at_ tb' t16.toNat).set t27.toNat ((lb3 tb' t16 t27) + (costF (at_ a t16.toNat) (at_ b t27.toNat)))))) rfl (show (0 ≤ (t27 + 1) ∧ (t27 + 1) ≤ (b.length : Int)) ∧ (tbOk a b band (tb'.set t16.toNat ((at_ tb' t16.toNat).set t27.toNat ((lb3 tb' t16 t27) + (costF (at_ a t16.toNat) (at_ b t27.toNat))))) t16.toNat ∧ rowOk a b band (at_ (tb'.set t16.toNat ((at_ tb' t16.toNat).set t27.toNat ((lb3 tb' t16 t27) + (costF (at_ a t16.toNat) (at_ b t27.toNat))))) t16.toNat) t16.toNat (t27 + 1).toNat) ∧ True from ⟨(by omega), (by rw [show (t27 + 1).toNat = t27.toNat + 1 from by omega]; exact tb_step hin.1 hin.2 hi hj (by rw [hlb.2]; first | exact (stp_far (by first | (left; rw [hix, hjx]; omega) | (right; (try rw [if_neg (by omega)]); (try rw [if_pos (by omega)]); omega))).symm | (rw [stp_add (by rw [hix, hjx]; omega) (by first | (rw [if_neg (by omega)]; omega) | (rw [if_pos (by omega)]; decide))]; first | rw [if_neg (by omega)] | rw [if_pos (by omega)]))), trivial⟩) (by first | (show (((b.length : Int) - (t27 + 1)).toNat : Nat) < ((b.length : Int) - t27).toNat; omega) | (dsimp only; omega))
     have hje : t27.toNat = b.length := by omega
     refine x_r [(0, .dec false)] [0, 1, 2, 7, 8, 15, 16, 26, 27, 28] [13, 8401] [slFeat false a, slFeat false b, I band, .arr 13, I t16, I (a.length : Int), I t16, I (b.length : Int), I t27, Bv false] [some (.oar [8401] 1 tb'.length (oLI 8401 tb')), some (.fam tb'.length 1 (mLI tb') (gLI tb'))] [¬ (t27 < (b.length : Int))] ⟨h2, trivial⟩ ?_
     refine xe_then ?_
     refine x_seq ?_
     refine x_false rfl ?_
     refine x_exit ?_
     refine xe_exit_then ?_
     refine xe_loop_exit ?_
     refine xe_exit_same ?_
     refine xe_block 1 ?_
     refine xe_then ?_
     refine x_r [] [0, 1, 2, 7, 15, 16] [13, 8401] [slFeat false a, slFeat false b, I band, .arr 13, I (a.length : Int), I (t16 + 1)] [some (.oar [8401] 1 tb'.length (oLI 8401 tb')), some (.fam tb'.length 1 (mLI tb') (gLI tb'))] [inR .i64 (t16 + 1)] ⟨(inR_i64 (by omega) (by omega)), trivial⟩ ?_
     exact xe_again ((t16 + 1), tb') rfl (show (0 ≤ (t16 + 1) ∧ (t16 + 1) ≤ (a.length : Int)) ∧ (tbOk a b band tb' (t16 + 1).toNat) ∧ True from ⟨(by omega), (by rw [show (t16 + 1).toNat = t16.toNat + 1 from by omega]; exact tb_done hin.1 hin.2 hje), trivial⟩) (by first | (show (((a.length : Int) - (t16 + 1)).toNat : Nat) < ((a.length : Int) - t16).toNat; omega) | (dsimp only; omega))
    have hie : t16.toNat = a.length := by omega
    rw [hie] at htb
    refine x_r [(0, .dec false)] [0, 1, 2, 7, 15, 16, 17] [13, 8401] [slFeat false a, slFeat false b, I band, .arr 13, I (a.length : Int), I t16, Bv false] [some (.oar [8401] 1 tb.length (oLI 8401 tb)), some (.fam tb.length 1 (mLI tb) (gLI tb))] [¬ (t16 < (a.length : Int))] ⟨h1, trivial⟩ ?_
    refine xe_then ?_
    refine x_seq ?_
    refine x_false rfl ?_
    refine x_exit ?_
    refine xe_exit_then ?_
    refine xe_loop_exit ?_
    refine xe_exit_same ?_
    refine xe_then ?_
    refine xR [] [6] [13, 8401] [.arr 13] [some (.oar [8401] 1 tb.length (oLI 8401 tb)), some (.fam tb.length 1 (mLI tb) (gLI tb))] [] trivial ?_
    refine x_ret ?_
    refine xe_end tb (show (tbOk a b band tb a.length) ∧ (True) from ⟨(by first | assumption | exact htb), trivial⟩) (trivial) (.arr 13) (by kernel_rfl) (.inr ⟨(fun _ => rfl), rfl, rfl, oleLI _ _ rfl⟩) (fun _ => rfl) (fun _ => (tagLI true _))
  obtain ⟨v, ⟨hh0, _⟩, hc⟩ := hh
  exact ⟨v, hh0, hc⟩


abbrev farS : Int := 1000000000
/-- The first k cells of the table in one list. -/
def flOk (a b : List Feat) (band : Int) (out : List Int) (k : Nat) : Prop := out.length = a.length * b.length ∧ ∀ p q, p < a.length → q < b.length → p * b.length + q < k → at_ out (p * b.length + q) = cv farS a b band p q
def sb0 (i j : Int) : Int := if i = 0 ∧ j = 0 then 0 else 1000000000
def sb1 (out : List Int) (m i j : Int) : Int := if 0 < i ∧ 0 < j then min (sb0 i j) (at_ out ((i - 1) * m + j - 1).toNat) else sb0 i j
def sb2 (out : List Int) (m i j : Int) : Int := if 0 < i then min (sb1 out m i j) (at_ out ((i - 1) * m + j).toNat) else sb1 out m i j
def sb3 (out : List Int) (m i j : Int) : Int := if 0 < j then min (sb2 out m i j) (at_ out (i * m + j - 1).toNat) else sb2 out m i j
theorem fl_lt {p q i j m : Nat} (h : p < i) (hq : q < m) : p * m + q < i * m + j := by
  have : (p + 1) * m ≤ i * m := Nat.mul_le_mul_right _ h
  rw [Nat.succ_mul] at this
  omega
theorem ix_up {i j : Nat} {m : Nat} : (((i + 1 : Nat) : Int) - 1) * (m : Int) = ((i * m : Nat) : Int) := by
  rw [show ((i + 1 : Nat) : Int) - 1 = (i : Int) from by omega, Int.natCast_mul]
theorem cv_le {far : Int} (hf : 1000000000 ≤ far) {a b : List Feat} (band : Int) (hab : okAB a b) {i j : Nat} (hi : i < a.length) (hj : j < b.length) : cv far a b band i j = far ∨ cv far a b band i j ≤ 87000 := by
  by_cases h : band < (((i : Int) - (j : Int)).natAbs : Int)
  · exact .inl (cv_out h)
  · have := (cv_in (band := band) hab hf hf (i + j) i j rfl hi hj (by omega)).2.2
    have hl := hab.2.2
    right; omega
/-- What the pairs ahead cost. -/
theorem sb_at {a b : List Feat} {band : Int} {out : List Int} {i j : Nat} (hab : okAB a b) (h : flOk a b band out (i * b.length + j)) (hi : i < a.length) (hj : j < b.length) :
    (0 ≤ sb3 out b.length i j ∧ (sb3 out b.length i j ≤ 87000 ∨ sb3 out b.length i j = 1000000000)) ∧ cv farS a b band i j = (if sb3 out b.length i j = 1000000000 ∨ band < (((i : Int) - (j : Int)).natAbs : Int) then 1000000000 else sb3 out b.length i j + costF (at_ a i) (at_ b j)) := by
  have hF : farS = 1000000000 := rfl
  have e1 : ∀ p q : Nat, p < i → q < b.length → at_ out (p * b.length + q) = cv farS a b band p q ∧ 0 ≤ cv farS a b band p q ∧ (cv farS a b band p q = farS ∨ cv farS a b band p q ≤ 87000) := fun p q hp hq => ⟨h.2 p q (by omega) hq (fl_lt hp hq), cv_nn (by decide) band hab p q (by omega) hq, cv_le (by decide) band hab (by omega) hq⟩
  have e2 : ∀ q : Nat, q < j → at_ out (i * b.length + q) = cv farS a b band i q ∧ 0 ≤ cv farS a b band i q ∧ (cv farS a b band i q = farS ∨ cv farS a b band i q ≤ 87000) := fun q hq => ⟨h.2 i q hi (by omega) (by omega), cv_nn (by decide) band hab i q hi (by omega), cv_le (by decide) band hab hi (by omega)⟩
  have hst : ∀ x c : Int, x ≤ farS → stp farS band i j x c = (if x = 1000000000 ∨ band < (((i : Int) - (j : Int)).natAbs : Int) then 1000000000 else x + c) := fun x c hx => by
    unfold stp; split <;> split <;> omega
  rcases i with _ | i <;> rcases j with _ | j
  · have e : sb3 out b.length (0 : Nat) (0 : Nat) = 0 := by simp [sb3, sb2, sb1, sb0]
    rw [e]
    refine ⟨by omega, ?_⟩
    rw [cv, hst _ _ (by omega)]
  · have q := e2 j (by omega)
    have e : sb3 out b.length (0 : Nat) ((j + 1 : Nat) : Int) = min farS (cv farS a b band 0 j) := by
      unfold sb3 sb2 sb1 sb0
      rw [if_pos (by omega), if_neg (by omega), if_neg (by omega), if_neg (by omega), show (((0 : Nat) : Int) * (b.length : Int) + ((j + 1 : Nat) : Int) - 1).toNat = 0 * b.length + j from by rw [show ((0 : Nat) : Int) * (b.length : Int) = 0 from Int.zero_mul _, Nat.zero_mul]; omega, q.1]
    rw [e]
    refine ⟨by omega, ?_⟩
    rw [cv, hst _ _ (by omega)]
  · have q := e1 i 0 (by omega) hj
    have e : sb3 out b.length ((i + 1 : Nat) : Int) (0 : Nat) = min farS (cv farS a b band i 0) := by
      unfold sb3 sb2 sb1 sb0
      rw [if_neg (by omega), if_pos (by omega), if_neg (by omega), if_neg (by omega), ix_up (j := 0), show (((i * b.length : Nat) : Int) + ((0 : Nat) : Int)).toNat = i * b.length + 0 from by omega, q.1]
    rw [e]
    refine ⟨by omega, ?_⟩
    rw [cv, hst _ _ (by omega)]
  · have q1 := e1 i j (by omega) (by omega)
    have q2 := e1 i (j + 1) (by omega) hj
    have q3 := e2 j (by omega)
    have e : sb3 out b.length ((i + 1 : Nat) : Int) ((j + 1 : Nat) : Int) = min (min (min farS (cv farS a b band i j)) (cv farS a b band i (j + 1))) (cv farS a b band (i + 1) j) := by
      unfold sb3 sb2 sb1 sb0
      rw [if_pos (by omega), if_pos (by omega), if_pos (by omega), if_neg (by omega), ix_up (j := 0), show (((i * b.length : Nat) : Int) + ((j + 1 : Nat) : Int) - 1).toNat = i * b.length + j from by omega, show (((i * b.length : Nat) : Int) + ((j + 1 : Nat) : Int)).toNat = i * b.length + (j + 1) from by omega, show (((i + 1 : Nat) : Int) * (b.length : Int) + ((j + 1 : Nat) : Int) - 1).toNat = (i + 1) * b.length + j from by rw [← Int.natCast_mul]; omega, q1.1, q2.1, q3.1]
    rw [e]
    refine ⟨by omega, ?_⟩
    rw [cv, hst _ _ (by omega)]
theorem fl_nn {a b : List Feat} {band : Int} {out : List Int} {k0 k : Nat} (hab : okAB a b) (h : flOk a b band out k0) (hM : 0 < b.length) (hk : k < k0) (hk2 : k < a.length * b.length) : 0 ≤ at_ out k := by
  have h1 := Nat.div_add_mod k b.length
  have h2 := Nat.mod_lt k hM
  have h3 : k / b.length < a.length := (Nat.div_lt_iff_lt_mul hM).2 hk2
  rw [Nat.mul_comm] at h1
  rw [← h1, h.2 _ _ h3 h2 (by omega)]
  exact cv_nn (by decide) band hab _ _ h3 h2
theorem fl_uniq {p q i j m : Nat} (hq : q < m) (hj : j < m) (h : p * m + q = i * m + j) : p = i ∧ q = j := by
  have hp : p = i := by
    rcases Nat.lt_trichotomy p i with e | e | e
    · have := fl_lt (j := j) e hq; omega
    · exact e
    · have := fl_lt (j := q) e hj; omega
  subst hp
  exact ⟨rfl, by omega⟩
theorem fl_step {a b : List Feat} {band v : Int} {out : List Int} {i j : Nat} {k : Nat} (h : flOk a b band out (i * b.length + j)) (hi : i < a.length) (hj : j < b.length) (hk : k = i * b.length + j) (hv : v = cv farS a b band i j) : flOk a b band (out.set k v) (i * b.length + (j + 1)) := by
  subst hk
  refine ⟨by rw [List.length_set]; exact h.1, fun p q hp hq hk => ?_⟩
  by_cases e : p * b.length + q = i * b.length + j
  · obtain ⟨rfl, rfl⟩ := fl_uniq hq hj e
    have : p * b.length + q < a.length * b.length + 0 := fl_lt hi hj
    rw [at_set_same (by rw [h.1]; omega)]; exact hv
  · rw [at_set_oth e]; exact h.2 p q hp hq (by omega)
theorem fl_done {a b : List Feat} {band : Int} {out : List Int} {i n : Nat} (h : flOk a b band out (i * b.length + n)) (hn : n = b.length) : flOk a b band out ((i + 1) * b.length) := by
  subst hn; rw [Nat.succ_mul]; exact h
theorem fl_all {a b : List Feat} {band : Int} {out : List Int} {i j : Nat} (h : flOk a b band out (a.length * b.length)) (hi : i < a.length) (hj : j < b.length) : at_ out (i * b.length + j) = cv farS a b band i j := h.2 i j hi hj (by have := fl_lt (j := 0) hi hj; omega)

/-- The pair ahead on a path of least cost. -/
def nx (a b : List Feat) (band : Int) (i j : Nat) : Nat × Nat :=
  if (0 < i ∧ 0 < j) ∧ cv farS a b band (i - 1) (j - 1) = cv farS a b band i j - costF (at_ a i) (at_ b j) then (i - 1, j - 1)
  else if 0 < i ∧ cv farS a b band (i - 1) j = cv farS a b band i j - costF (at_ a i) (at_ b j) then (i - 1, j) else (i, j - 1)
def inBd (band : Int) (i j : Nat) : Prop := (((i : Int) - (j : Int)).natAbs : Int) ≤ band
theorem cv_fin {a b : List Feat} {band : Int} {i j : Nat} (hab : okAB a b) (hi : i < a.length) (hj : j < b.length) : (inBd band i j ∧ cv farI a b band i j = cv farS a b band i j ∧ 0 ≤ cv farS a b band i j ∧ cv farS a b band i j ≤ 87000) ∨ (¬ inBd band i j ∧ cv farI a b band i j = 1099511627776 ∧ cv farS a b band i j = 1000000000) := by
  have hl := hab.2.2
  by_cases h : inBd band i j
  · have q := cv_in (band := band) hab (f1 := farS) (f2 := farI) (by decide) (by decide) (i + j) i j rfl hi hj h
    exact .inl ⟨h, q.1.symm, q.2.1, by omega⟩
  · unfold inBd at h
    exact .inr ⟨h, cv_out (by omega), cv_out (by omega)⟩
/-- The cost of a pair within the band is that of one ahead and its own. -/
theorem cv_add {far : Int} (hf : 1000000000 ≤ far) {a b : List Feat} {band : Int} {i j : Nat} (hab : okAB a b) (hi : i < a.length) (hj : j < b.length) (hb : inBd band i j) (h0 : ¬ (i = 0 ∧ j = 0)) :
    ∃ x, cv far a b band i j = x + costF (at_ a i) (at_ b j) ∧ x < far ∧ ((0 < i ∧ 0 < j) ∧ x = cv far a b band (i - 1) (j - 1) ∨ 0 < i ∧ x = cv far a b band (i - 1) j ∨ 0 < j ∧ x = cv far a b band i (j - 1)) ∧ (0 < i → 0 < j → x ≤ cv far a b band (i - 1) (j - 1)) ∧ (0 < i → x ≤ cv far a b band (i - 1) j) ∧ (0 < j → x ≤ cv far a b band i (j - 1)) := by
  have q := cv_in (band := band) hab hf hf (i + j) i j rfl hi hj hb
  have hl := hab.2.2
  have hc := costF_bd (hab.1 i hi) (hab.2.1 j hj)
  unfold inBd at hb
  rcases i with _ | i <;> rcases j with _ | j
  · exact absurd ⟨rfl, rfl⟩ h0
  · obtain ⟨v, e⟩ : ∃ v, v = cv far a b band 0 (j + 1) := ⟨_, rfl⟩
    rw [← e] at q ⊢
    rw [cv] at e
    unfold stp at e
    split at e
    · omega
    · refine ⟨_, e, by omega, ?_, by omega, by omega, fun _ => by simp only [Nat.add_sub_cancel]; omega⟩
      right; right; refine ⟨by omega, ?_⟩; simp only [Nat.add_sub_cancel]; omega
  · obtain ⟨v, e⟩ : ∃ v, v = cv far a b band (i + 1) 0 := ⟨_, rfl⟩
    rw [← e] at q ⊢
    rw [cv] at e
    unfold stp at e
    split at e
    · omega
    · refine ⟨_, e, by omega, ?_, by omega, fun _ => by simp only [Nat.add_sub_cancel]; omega, by omega⟩
      right; left; refine ⟨by omega, ?_⟩; simp only [Nat.add_sub_cancel]; omega
  · obtain ⟨v, e⟩ : ∃ v, v = cv far a b band (i + 1) (j + 1) := ⟨_, rfl⟩
    rw [← e] at q ⊢
    rw [cv] at e
    unfold stp at e
    split at e
    · omega
    · refine ⟨_, e, by omega, ?_, fun _ _ => by simp only [Nat.add_sub_cancel]; omega, fun _ => by simp only [Nat.add_sub_cancel]; omega, fun _ => by simp only [Nat.add_sub_cancel]; omega⟩
      simp only [Nat.add_sub_cancel]
      omega

theorem okAB_of {a b : List Feat} (ha : okFeats a 72 = true) (hb : okFeats b 72 = true) : okAB a b := ⟨fun i hi => okFeats_at ha hi, fun j hj => okFeats_at hb hj, by have := okFeats_n ha; omega, by have := okFeats_n hb; omega⟩
theorem inBd_end {band : Int} {n m : Nat} (h : inBd band n m) (hn : 1 ≤ n) (hm : 1 ≤ m) : inBd band (n - 1) (m - 1) := by unfold inBd at *; omega

def elCode (a b : List Feat) (band : Int) : Int := if okFeats a 72 = true ∧ okFeats b 72 = true then (if (inB band 0 72 && decide ((((a.length : Int) - (b.length : Int)).natAbs : Int) ≤ band)) = true then 0 else 2) else 1
def elR (a b : List Feat) (band : Int) : Int × Int := if elCode a b band = 0 then (cv farS a b band (a.length - 1) (b.length - 1), 0) else (0, elCode a b band)
theorem elCode_0 {a b : List Feat} {band : Int} (h : elCode a b band = 0) : okFeats a 72 = true ∧ okFeats b 72 = true ∧ (0 ≤ band ∧ band ≤ 72) ∧ inBd band a.length b.length := by
  unfold elCode at h
  split at h
  · rename_i g
    split at h
    · rename_i g2
      simp only [Bool.and_eq_true, decide_eq_true_eq, inB] at g2
      refine ⟨g.1, g.2, g2.1, ?_⟩
      unfold inBd; omega
    · omega
  · omega
theorem elCode_any {a b : List Feat} (ha : okFeats a 72 = true) (hb : okFeats b 72 = true) : elCode a b 72 = 0 := by
  have h1 := okFeats_n ha
  have h2 := okFeats_n hb
  unfold elCode
  rw [if_pos ⟨ha, hb⟩, if_pos (by simp only [Bool.and_eq_true, decide_eq_true_eq, inB]; omega)]
theorem elR_any {a b : List Feat} (ha : okFeats a 72 = true) (hb : okFeats b 72 = true) : elR a b 72 = (cv farS a b 72 (a.length - 1) (b.length - 1), 0) := if_pos (elCode_any ha hb)
theorem fl_last {a b : List Feat} {band : Int} {out : List Int} (h : flOk a b band out (a.length * b.length)) (ha : 1 ≤ a.length) (hb : 1 ≤ b.length) : at_ out (out.length - 1) = cv farS a b band (a.length - 1) (b.length - 1) ∧ 1 ≤ out.length := by
  have e : a.length * b.length = (a.length - 1) * b.length + b.length := by
    obtain ⟨n, hn⟩ : ∃ n, a.length = n + 1 := ⟨a.length - 1, by omega⟩
    rw [hn, Nat.add_sub_cancel, Nat.succ_mul]
  have q := h.2 (a.length - 1) (b.length - 1) (by omega) (by omega) (by omega)
  have l := h.1
  rw [← q]
  refine ⟨?_, by omega⟩
  congr 1; omega

theorem tb_last {a b : List Feat} {band : Int} {tb : List (List Int)} (h : tbOk a b band tb a.length) (ha : 1 ≤ a.length) (hb : 1 ≤ b.length) : (tb.length = a.length ∧ (at_ tb (a.length - 1)).length = b.length) ∧ at_ (at_ tb (a.length - 1)) (b.length - 1) = cv farI a b band (a.length - 1) (b.length - 1) :=
  ⟨⟨h.1, (h.2 _ (by omega)).1⟩, (h.2 _ (by omega)).2 _ (by omega)⟩

-- impl.elastic
theorem elastic_ok (a : List Feat) (b : List Feat) (band : Int) (hab : okAB a b) (hbd : 0 ≤ band ∧ band ≤ 1000) (h1 : 1 ≤ a.length ∧ 1 ≤ b.length) : ∃ (v : Int), (v = cv farI a b band (a.length - 1) (b.length - 1)) ∧ Con Try.prog 27 [slFeat false a, slFeat false b, I band] true (I v) := by
  have hla := hab.2.2
  have hh : ∃ r : Int, ((r = cv farI a b band (a.length - 1) (b.length - 1)) ∧ (True)) ∧ CallOK Try.prog 27 [slFeat false a, slFeat false b, I band] (lookO []) true (I r) (lookO []) := by
    refine fn_okX (Φ := fun r : Int => (r = cv farI a b band (a.length - 1) (b.length - 1)) ∧ (True)) [] (fun r => []) (fn := Try.f27) (nt := 21) Try.func27 rfl rfl (args := [slFeat false a, slFeat false b, I band]) rfl (allcons (.inl ⟨rfl, tagFeat false _⟩) (allcons (.inl ⟨rfl, tagFeat false _⟩) (allcons (.inl ⟨rfl, trivial⟩) allnil))) (res := fun r => I r) ?_
    refine xR [] [0, 1, 2] [] [slFeat false a, slFeat false b, I band] [] [] trivial ?_
    refine x_seq ?_
    obtain ⟨v_1, hx1_0, hc1⟩ := costTable_ok a b band hab (by omega)
    have htl := tb_last hx1_0 h1.1 h1.2
    have hq1 : ((a.length : Int) - 1).toNat = a.length - 1 := by omega
    have hq2 : ((b.length : Int) - 1).toNat = b.length - 1 := by omega
    rw [← hq1] at htl
    refine x_r [(3, .call [(true, .any), (true, .any), (true, .any)] true (slLI true v_1))] [6] [] [I (at_ (at_ v_1 (((a.length : Int) - 1).toNat)) (((b.length : Int) - 1).toNat))] [] [Con Try.prog 48 [slFeat false a, slFeat false b, I band] true (slLI true v_1) ∧ True, inR .i64 ((a.length : Int) - 1), (0 : Int) ≤ ((a.length : Int) - 1) ∧ ((a.length : Int) - 1) < (v_1.length : Int), inR .i64 ((b.length : Int) - 1), (0 : Int) ≤ ((b.length : Int) - 1) ∧ ((b.length : Int) - 1) < (((at_ v_1 (((a.length : Int) - 1).toNat)).length) : Int)] ⟨⟨hc1, trivial⟩, (inR_i64 (by omega) (by omega)), ⟨(by omega), (by omega)⟩, (inR_i64 (by omega) (by omega)), ⟨(by omega), (by omega)⟩, trivial⟩ ?_
    refine xe_then ?_
    refine x_ret ?_
    refine xe_end (at_ (at_ v_1 (((a.length : Int) - 1).toNat)) (((b.length : Int) - 1).toNat)) (show ((at_ (at_ v_1 (((a.length : Int) - 1).toNat)) (((b.length : Int) - 1).toNat)) = cv farI a b band (a.length - 1) (b.length - 1)) ∧ (True) from ⟨(by (rw [hq2, htl.2, hq1])), trivial⟩) (trivial) (I (at_ (at_ v_1 (((a.length : Int) - 1).toNat)) (((b.length : Int) - 1).toNat))) (by kernel_rfl) (.inl rfl) (fun _ => rfl) (fun _ => trivial)
  obtain ⟨v, ⟨hh0, _⟩, hc⟩ := hh
  exact ⟨v, hh0, hc⟩


def cmpI (a b : Int) : Int := if a < b then -1 else if b < a then 1 else 0
theorem cmpI_neg {a b : Int} : cmpI a b < 0 ↔ a < b := by unfold cmpI; split <;> (try split) <;> omega
theorem cmpI_zero {a b : Int} : cmpI a b = 0 ↔ a = b := by unfold cmpI; split <;> (try split) <;> omega
theorem cmpI_bd (a b : Int) : -1 ≤ cmpI a b ∧ cmpI a b ≤ 1 := by unfold cmpI; split <;> (try split) <;> omega
/-- A list with x at place j. -/
def shfL {α : Type} (p : List α) (x : α) (j : Nat) : List α := p.take j ++ x :: p.drop j
theorem shf_len {α : Type} {p : List α} {x : α} {j : Nat} (h : j ≤ p.length) : (shfL p x j).length = p.length + 1 := by
  simp [shfL]; omega
theorem shf_end {α : Type} (p : List α) (x : α) : shfL p x p.length = p ++ [x] := by simp [shfL]
theorem shf_at {α : Type} [Inhabited α] {p r : List α} {x : α} {j : Nat} (h : j ≤ p.length) : at_ (shfL p x j ++ r) j = x := by
  have hl : (p.take j).length = j := by simp; omega
  rw [shfL, List.append_assoc, at_right (by omega), hl, Nat.sub_self]; simp [at_]
theorem shf_below {α : Type} [Inhabited α] {p r : List α} {x : α} {j k : Nat} (h : j ≤ p.length) (hk : k < j) : at_ (shfL p x j ++ r) k = at_ p k := by
  have hl : (p.take j).length = j := by simp; omega
  rw [shfL, List.append_assoc, at_left (by omega), at_eq (by omega), at_eq (by omega), List.getElem_take]
theorem at_cons {α : Type} [Inhabited α] (x : α) (l : List α) (k : Nat) : at_ (x :: l) (k + 1) = at_ l k := by simp [at_]
theorem at_drop {α : Type} [Inhabited α] (l : List α) (j k : Nat) : at_ (l.drop j) k = at_ l (j + k) := by simp [at_, List.getElem?_drop]
theorem shf_above {α : Type} [Inhabited α] {p r : List α} {x : α} {j k : Nat} (h : j ≤ p.length) (hk : j < k) : at_ (shfL p x j ++ r) k = at_ (p ++ r) (k - 1) := by
  have hl : (p.take j).length = j := by simp; omega
  have e : k - j = (k - 1 - j) + 1 := by omega
  rw [shfL, List.append_assoc, at_right (by omega), hl, e, List.cons_append, at_cons]
  by_cases c : k - 1 < p.length
  · rw [at_left (by simp; omega), at_left c, at_drop]; congr 1; omega
  · rw [at_right (by simp; omega), at_right (by omega)]; congr 1; simp; omega
theorem shf_step {α : Type} [Inhabited α] {p r : List α} {x : α} {j : Nat} (h : j + 1 ≤ p.length) : ((shfL p x (j + 1) ++ r).set (j + 1) (at_ p j)).set j x = shfL p x j ++ r := by
  refine ext_at (by simp [shf_len h, shf_len (show j ≤ p.length by omega)]) fun k hk => ?_
  have hl : (shfL p x (j + 1) ++ r).length = p.length + 1 + r.length := by rw [List.length_append, shf_len h]
  rw [List.length_set, List.length_set, hl] at hk
  by_cases e1 : k = j
  · rw [e1, at_set_same (by rw [List.length_set, hl]; omega), shf_at (by omega)]
  · rw [at_set_oth e1]
    by_cases e2 : k = j + 1
    · rw [e2, at_set_same (by rw [hl]; omega), shf_above (by omega) (by omega), at_left (by omega)]; rfl
    · rw [at_set_oth e2]
      by_cases c : k < j
      · rw [shf_below h (by omega), shf_below (by omega) c]
      · rw [shf_above h (by omega), shf_above (by omega) (by omega)]
/-- Where x goes among the first j of p. -/
def posL {α : Type} [Inhabited α] (c : α → α → Int) (x : α) (p : List α) : Nat → Nat
  | 0 => 0
  | j + 1 => if c x (at_ p j) < 0 then posL c x p j else j + 1
theorem posL_le {α : Type} [Inhabited α] (c : α → α → Int) (x : α) (p : List α) : ∀ j : Nat, posL c x p j ≤ j
  | 0 => Nat.le_refl _
  | j + 1 => by unfold posL; split; exact Nat.le_succ_of_le (posL_le c x p j); exact Nat.le_refl _
def insL {α : Type} [Inhabited α] (c : α → α → Int) (p : List α) (x : α) : List α := shfL p x (posL c x p p.length)
/-- The first k elements, sorted. -/
def isoL {α : Type} [Inhabited α] (c : α → α → Int) (xs : List α) : Nat → List α
  | 0 => []
  | k + 1 => insL c (isoL c xs k) (at_ xs k)
theorem isoL_len {α : Type} [Inhabited α] (c : α → α → Int) (xs : List α) : ∀ k : Nat, (isoL c xs k).length = k
  | 0 => rfl
  | k + 1 => by unfold isoL insL; rw [shf_len (posL_le _ _ _ _), isoL_len c xs k]
theorem isoL_one {α : Type} [Inhabited α] (c : α → α → Int) (xs : List α) : isoL c xs 1 = [at_ xs 0] := rfl
theorem pos_hit {α : Type} [Inhabited α] {c : α → α → Int} {x : α} {p : List α} {j : Nat} (h : ∀ k : Nat, j ≤ k → k < p.length → c x (at_ p k) < 0) (hj : j ≤ p.length) (h2 : j = 0 ∨ ¬ c x (at_ p (j - 1)) < 0) : posL c x p p.length = j := by
  have : ∀ m : Nat, m + j ≤ p.length → posL c x p (j + m) = j := fun m => by
    induction m with
    | zero =>
      intro _
      rcases h2 with e | e
      · subst e; rfl
      · cases j with
        | zero => rfl
        | succ j => exact if_neg e
    | succ m ih => intro hm; exact (if_pos (h (j + m) (by omega) (by omega))).trans (ih (by omega))
  have := this (p.length - j) (by omega)
  rwa [show j + (p.length - j) = p.length from by omega] at this
theorem shf_perm {α : Type} (p : List α) (x : α) (j : Nat) : List.Perm (shfL p x j) (p ++ [x]) := by
  unfold shfL
  refine List.perm_middle.trans ?_
  rw [List.take_append_drop]
  exact (List.perm_append_singleton x p).symm
theorem isoL_perm {α : Type} [Inhabited α] (c : α → α → Int) (xs : List α) : ∀ k : Nat, k ≤ xs.length → List.Perm (isoL c xs k) (xs.take k)
  | 0, _ => by simp [isoL]
  | k + 1, h => by
    rw [List.take_succ_eq_append_getElem (by omega), ← at_eq (by omega)]
    exact (shf_perm _ _ _).trans ((isoL_perm c xs k (by omega)).append_right _)
/-- Two elements are in order: by the comparison, and where it is even by B. -/
def ordR {α : Type} (c : α → α → Int) (B : α → α → Prop) (x y : α) : Prop := c x y < 0 ∨ c x y = 0 ∧ B x y
/-- A comparison that orders. -/
structure CmpW {α : Type} (c : α → α → Int) : Prop where
  anti : ∀ x y, c x y < 0 ↔ 0 < c y x
  trans : ∀ x y z, c x y ≤ 0 → c y z < 0 → c x z < 0
theorem CmpW.refl {α : Type} {c : α → α → Int} (h : CmpW c) (x : α) : c x x = 0 := by have := h.anti x x; omega
theorem CmpW.zero {α : Type} {c : α → α → Int} (h : CmpW c) {x y : α} (e : c x y = 0) : c y x = 0 := by have h1 := h.anti x y; have h2 := h.anti y x; omega
theorem CmpW.le {α : Type} {c : α → α → Int} (h : CmpW c) {x y z : α} (h1 : c x y ≤ 0) (h2 : c y z ≤ 0) : c x z ≤ 0 := by
  rcases Int.lt_or_le 0 (c x z) with g | g
  · have q := (h.anti z x).2 g
    have q2 : c y x < 0 := h.trans y z x h2 q
    have := (h.anti y x).1 q2; omega
  · exact g
theorem pos_lo {α : Type} [Inhabited α] {c : α → α → Int} {x : α} {p : List α} : ∀ (n k : Nat), posL c x p n ≤ k → k < n → c x (at_ p k) < 0
  | 0, k, _, h => absurd h (Nat.not_lt_zero _)
  | n + 1, k, h1, h2 => by
    unfold posL at h1
    split at h1
    · rename_i g
      by_cases e : k = n
      · subst e; exact g
      · exact pos_lo n k h1 (by omega)
    · omega
theorem pos_at {α : Type} [Inhabited α] {c : α → α → Int} {x : α} {p : List α} : ∀ n : Nat, posL c x p n = 0 ∨ ¬ c x (at_ p (posL c x p n - 1)) < 0
  | 0 => .inl rfl
  | n + 1 => by
    unfold posL
    split
    · exact pos_at n
    · right; assumption
/-- The list is in order, where all of xs are in order by B. -/
theorem isoL_ord {α : Type} [Inhabited α] {c : α → α → Int} (hc : CmpW c) {B : α → α → Prop} {xs : List α} (hB : xs.Pairwise B) : ∀ k : Nat, k ≤ xs.length → (isoL c xs k).Pairwise (ordR c B)
  | 0, _ => by simp [isoL]
  | k + 1, h => by
    have ih := isoL_ord hc hB k (by omega)
    have hp := isoL_perm c xs k (by omega)
    have hl := isoL_len c xs k
    obtain ⟨p, hpe⟩ : ∃ p, p = isoL c xs k := ⟨_, rfl⟩
    obtain ⟨x, hx⟩ : ∃ x, x = at_ xs k := ⟨_, rfl⟩
    rw [isoL, ← hpe, ← hx]
    rw [← hpe] at ih hp hl
    have hbx : ∀ y ∈ p, B y x := fun y hy => by
      have hm := hp.mem_iff.1 hy
      obtain ⟨i, hi, e⟩ := List.getElem_of_mem hm
      rw [List.length_take] at hi
      rw [List.getElem_take] at e
      rw [← e, hx, at_eq (by omega)]
      exact (List.pairwise_iff_getElem.1 hB) i k (by omega) (by omega) (by omega)
    unfold insL shfL
    have hj := posL_le c x p p.length
    have lo := fun k hk hk2 => pos_lo (c := c) (x := x) (p := p) p.length k hk hk2
    have hi := pos_at (c := c) (x := x) (p := p) p.length
    generalize posL c x p p.length = j at hj lo hi ⊢
    have hle : ∀ y ∈ p.take j, c y x ≤ 0 := fun y hy => by
      obtain ⟨i, hi2, e⟩ := List.getElem_of_mem hy
      rw [List.length_take] at hi2
      rw [List.getElem_take] at e
      rcases hi with e0 | e0
      · omega
      · have h3 : c (at_ p (j - 1)) x ≤ 0 := by
          rcases Int.lt_or_le 0 (c (at_ p (j - 1)) x) with g | g
          · exact absurd ((hc.anti _ _).2 g) e0
          · exact g
        rw [← e]
        by_cases ei : i = j - 1
        · have : p[i] = at_ p (j - 1) := by rw [at_eq (by omega)]; congr 1
          rw [this]; exact h3
        · have q := (List.pairwise_iff_getElem.1 ih) i (j - 1) (by omega) (by omega) (by omega)
          rw [← at_eq (show j - 1 < p.length by omega)] at q
          refine hc.le ?_ h3
          rcases q with q | q
          · omega
          · omega
    have hgt : ∀ y ∈ p.drop j, c x y < 0 := fun y hy => by
      obtain ⟨i, hi2, e⟩ := List.getElem_of_mem hy
      rw [List.length_drop] at hi2
      rw [List.getElem_drop] at e
      rw [← e, ← at_eq (by omega)]
      exact lo _ (by omega) (by omega)
    rw [List.pairwise_append]
    refine ⟨ih.sublist (List.take_sublist _ _), List.pairwise_cons.2 ⟨fun y hy => .inl (hgt y hy), ih.sublist (List.drop_sublist _ _)⟩, fun a ha b hb => ?_⟩
    rcases List.mem_cons.1 hb with e | e
    · subst e
      have := hle a ha
      by_cases z : c a b = 0
      · exact .inr ⟨z, hbx a (List.mem_of_mem_take ha)⟩
      · exact .inl (by omega)
    · exact .inl (hc.trans a x b (hle a ha) (hgt b e))
theorem isoL_mem {α : Type} [Inhabited α] {c : α → α → Int} {xs : List α} {x : α} : x ∈ isoL c xs xs.length ↔ x ∈ xs := by
  have := (isoL_perm c xs xs.length (Nat.le_refl _)).mem_iff (a := x)
  rwa [List.take_of_length_le (Nat.le_refl _)] at this
/-- The data in the midst of sorting. -/
theorem iso_start {α : Type} [Inhabited α] (c : α → α → Int) (xs : List α) : xs = isoL c xs (min 1 xs.length) ++ xs.drop 1 := by
  cases xs with
  | nil => rfl
  | cons x r => show x :: r = isoL c (x :: r) (min 1 (r.length + 1)) ++ r; rw [show min 1 (r.length + 1) = 1 from by omega, isoL_one]; rfl
theorem iso_in {α : Type} [Inhabited α] {c : α → α → Int} {xs : List α} {i : Nat} (hi : i < xs.length) : isoL c xs i ++ xs.drop i = shfL (isoL c xs i) (at_ xs i) i ++ xs.drop (i + 1) := by
  have hl := isoL_len c xs i
  have e : shfL (isoL c xs i) (at_ xs i) i = isoL c xs i ++ [at_ xs i] := by
    have := shf_end (isoL c xs i) (at_ xs i); rwa [hl] at this
  rw [e, List.append_assoc, at_eq hi, List.singleton_append, ← List.drop_eq_getElem_cons hi]
theorem iso_out {α : Type} [Inhabited α] {c : α → α → Int} {xs : List α} {i j : Nat} (hj : j ≤ i) (h : ∀ k : Nat, j ≤ k → k < i → c (at_ xs i) (at_ (isoL c xs i) k) < 0) (h2 : j = 0 ∨ ¬ c (at_ xs i) (at_ (isoL c xs i) (j - 1)) < 0) :
    shfL (isoL c xs i) (at_ xs i) j = isoL c xs (i + 1) := by
  have hl := isoL_len c xs i
  have := pos_hit (c := c) (x := at_ xs i) (p := isoL c xs i) (j := j) (fun k h3 h4 => h k h3 (by omega)) (by omega) h2
  show _ = insL c (isoL c xs i) (at_ xs i)
  unfold insL; rw [this]

def cmpM (x y : Match) : Int := cmpI x.Cost y.Cost
theorem cmpW_of {α : Type} (f : α → Int) : CmpW (fun x y => cmpI (f x) (f y)) := ⟨fun x y => by have h1 := @cmpI_neg (f x) (f y); unfold cmpI; split <;> (try split) <;> (try split) <;> omega, fun x y z h1 h2 => by
  rw [cmpI_neg] at *
  have := @cmpI_neg (f y) (f x)
  have := @cmpI_zero (f x) (f y)
  have := @cmpI_neg (f x) (f y)
  omega⟩
theorem cmpM_ok : CmpW cmpM := cmpW_of Match.Cost

/-- Whether a template takes part. -/
def inS (s : Store) (fs : List Feat) (j : Nat) : Bool := inB s.Band 0 72 && decide ((((fs.length : Int) - ((at_ s.Templates j).Feats.length : Int)).natAbs : Int) ≤ s.Band)
def mtM (s : Store) (fs : List Feat) (j : Nat) : Match := ⟨(j : Int), cv farS fs (at_ s.Templates j).Feats s.Band (fs.length - 1) ((at_ s.Templates j).Feats.length - 1)⟩
/-- The matches of the first k templates. -/
def mtS (s : Store) (fs : List Feat) : Nat → List Match
  | 0 => []
  | k + 1 => if inS s fs k = true then mtS s fs k ++ [mtM s fs k] else mtS s fs k
theorem mt_y {s : Store} {fs : List Feat} {k : Nat} (h : inS s fs k = true) : mtS s fs (k + 1) = mtS s fs k ++ [mtM s fs k] := if_pos h
theorem mt_n {s : Store} {fs : List Feat} {k : Nat} (h : ¬ inS s fs k = true) : mtS s fs (k + 1) = mtS s fs k := if_neg h
theorem mtS_len (s : Store) (fs : List Feat) : ∀ k : Nat, (mtS s fs k).length ≤ k
  | 0 => Nat.le_refl _
  | k + 1 => by
    have := mtS_len s fs k
    unfold mtS; split
    · rw [List.length_append]; simp; omega
    · omega
theorem mtS_mem {s : Store} {fs : List Feat} {x : Match} : ∀ {k : Nat}, x ∈ mtS s fs k → ∃ j, j < k ∧ inS s fs j = true ∧ x = mtM s fs j
  | 0, h => by simp [mtS] at h
  | k + 1, h => by
    unfold mtS at h
    split at h
    · rename_i g
      rcases List.mem_append.1 h with e | e
      · obtain ⟨j, h1, h2, h3⟩ := mtS_mem e; exact ⟨j, by omega, h2, h3⟩
      · simp only [List.mem_singleton] at e; exact ⟨k, by omega, g, e⟩
    · obtain ⟨j, h1, h2, h3⟩ := mtS_mem h; exact ⟨j, by omega, h2, h3⟩
theorem mtS_pw (s : Store) (fs : List Feat) : ∀ k : Nat, (mtS s fs k).Pairwise fun x y => x.Index < y.Index
  | 0 => by simp [mtS]
  | k + 1 => by
    have ih := mtS_pw s fs k
    unfold mtS; split
    · rw [List.pairwise_append]
      refine ⟨ih, by simp, fun a ha b hb => ?_⟩
      obtain ⟨j, h1, _, h3⟩ := mtS_mem ha
      simp only [List.mem_singleton] at hb
      subst hb h3
      show (j : Int) < (k : Int); omega
    · exact ih
theorem mt_cv {s : Store} {fs : List Feat} {j : Nat} (hf : okFeats fs 72 = true) (ht : okTm (at_ s.Templates j) = true) (h : inS s fs j = true) : (0 ≤ s.Band ∧ s.Band ≤ 72) ∧ elR fs (at_ s.Templates j).Feats s.Band = ((mtM s fs j).Cost, 0) ∧ cv farI fs (at_ s.Templates j).Feats s.Band (fs.length - 1) ((at_ s.Templates j).Feats.length - 1) = (mtM s fs j).Cost ∧ 0 ≤ (mtM s fs j).Cost ∧ (mtM s fs j).Cost ≤ 87000 := by
  have hg : okFeats (at_ s.Templates j).Feats 72 = true := by simp only [okTm, Bool.and_eq_true] at ht; exact ht.2
  have h1 := okFeats_n hf
  have h2 := okFeats_n hg
  have hq := h
  simp only [inS, Bool.and_eq_true, decide_eq_true_eq, inB] at h
  have hb : inBd s.Band fs.length (at_ s.Templates j).Feats.length := by unfold inBd; exact h.2
  have he := inBd_end hb h1.1 h2.1
  refine ⟨h.1, ?_, ?_⟩
  · unfold elR
    rw [if_pos (show elCode fs (at_ s.Templates j).Feats s.Band = 0 by unfold elCode; rw [if_pos ⟨hf, hg⟩]; unfold inS at hq; rw [if_pos hq])]; rfl
  · rcases cv_fin (band := s.Band) (i := fs.length - 1) (j := (at_ s.Templates j).Feats.length - 1) (okAB_of hf hg) (by omega) (by omega) with g | g
    · exact ⟨g.2.1, g.2.2.1, g.2.2.2⟩
    · exact absurd he g.1
/-- The nearest matches. -/
def nsL (s : Store) (fs : List Feat) (k : Int) : List Match := (isoL cmpM (mtS s fs s.Templates.length) (mtS s fs s.Templates.length).length).take (min k ((mtS s fs s.Templates.length).length : Int)).toNat
theorem nsL_len {s : Store} {fs : List Feat} {k : Int} (h : 0 ≤ k) : ((nsL s fs k).length : Int) = min k ((mtS s fs s.Templates.length).length : Int) := by
  unfold nsL; rw [List.length_take, isoL_len]; omega
theorem nsL_mem {s : Store} {fs : List Feat} {k : Int} {x : Match} (h : x ∈ nsL s fs k) : ∃ j, j < s.Templates.length ∧ inS s fs j = true ∧ x = mtM s fs j := mtS_mem (isoL_mem.1 (List.mem_of_mem_take h))
theorem ns_pw (s : Store) (fs : List Feat) : (isoL cmpM (mtS s fs s.Templates.length) (mtS s fs s.Templates.length).length).Pairwise (ordR cmpM fun x y => x.Index < y.Index) := isoL_ord cmpM_ok (mtS_pw s fs _) _ (Nat.le_refl _)
theorem nsL_ord {s : Store} {fs : List Feat} {k : Int} {i : Nat} (h0 : 0 < i) (h : i < (nsL s fs k).length) : (at_ (nsL s fs k) (i - 1)).Cost < (at_ (nsL s fs k) i).Cost ∨ (at_ (nsL s fs k) (i - 1)).Cost = (at_ (nsL s fs k) i).Cost ∧ (at_ (nsL s fs k) (i - 1)).Index < (at_ (nsL s fs k) i).Index := by
  have hp : (nsL s fs k).Pairwise (ordR cmpM fun x y => x.Index < y.Index) := (ns_pw s fs).sublist (List.take_sublist _ _)
  have q := (List.pairwise_iff_getElem.1 hp) (i - 1) i (by omega) h (by omega)
  rw [← at_eq (by omega), ← at_eq h] at q
  unfold ordR cmpM at q
  rw [cmpI_neg, cmpI_zero] at q
  exact q
theorem nsL_has {s : Store} {fs : List Feat} {k : Int} {x : Match} (hk : 1 ≤ k) (hx : x ∈ mtS s fs s.Templates.length) (hl : ((nsL s fs k).length : Int) = k) (h : x.Cost < (at_ (nsL s fs k) (k - 1).toNat).Cost) : x ∈ nsL s fs k := by
  have hm : x ∈ isoL cmpM (mtS s fs s.Templates.length) (mtS s fs s.Templates.length).length := isoL_mem.2 hx
  obtain ⟨i, hi, e⟩ := List.getElem_of_mem hm
  have hlen := nsL_len (s := s) (fs := fs) (k := k) (by omega)
  have hmin : (min k ((mtS s fs s.Templates.length).length : Int)).toNat = k.toNat := by omega
  have il := isoL_len cmpM (mtS s fs s.Templates.length) (mtS s fs s.Templates.length).length
  by_cases c : i < k.toNat
  · unfold nsL
    rw [hmin, ← e]
    exact List.mem_iff_getElem.2 ⟨i, by rw [List.length_take]; omega, by rw [List.getElem_take]⟩
  · exfalso
    have q := (List.pairwise_iff_getElem.1 (ns_pw s fs)) (k - 1).toNat i (by omega) hi (by omega)
    have e2 : at_ (nsL s fs k) (k - 1).toNat = (isoL cmpM (mtS s fs s.Templates.length) (mtS s fs s.Templates.length).length)[(k - 1).toNat]'(by omega) := by
      rw [at_eq (by omega)]; unfold nsL; rw [List.getElem_take]
    rw [← e2, e] at q
    unfold ordR cmpM at q
    rw [cmpI_neg, cmpI_zero] at q
    omega
theorem nsL_sub {s : Store} {fs : List Feat} {k : Int} (hk : 1 ≤ k) (h : 0 < (mtS s fs s.Templates.length).length) : 0 < (nsL s fs k).length ∧ 0 < (nsL s fs 1).length ∧ at_ (nsL s fs k) 0 = at_ (nsL s fs 1) 0 := by
  have l1 := nsL_len (s := s) (fs := fs) (k := k) (by omega)
  have l2 := nsL_len (s := s) (fs := fs) (k := 1) (by omega)
  refine ⟨by omega, by omega, ?_⟩
  rw [at_eq (by omega), at_eq (by omega)]
  unfold nsL
  rw [List.getElem_take, List.getElem_take]

-- impl.matchesOf
theorem matchesOf_ok (s : Store) (feats : List Feat) (hst : okStore' s = true) (okf : okFeats feats 72 = true) (h18 : s.Templates.length ≤ 18) : ∃ (ms : List Match), (ms = mtS s feats s.Templates.length) ∧ CallOK Try.prog 36 [agStore s, slFeat false feats] (lookO []) false (.arr 7211) (lookO [(7211, .arr 2 ms.length (fMatch ms))]) := by
  have hh : ∃ r : (List Match), ((r = mtS s feats s.Templates.length) ∧ (True)) ∧ CallOK Try.prog 36 [agStore s, slFeat false feats] (lookO []) false (.arr 7211) (lookO [(7211, .arr 2 r.length (fMatch r))]) := by
    refine fn_okX (Φ := fun r : (List Match) => (r = mtS s feats s.Templates.length) ∧ (True)) [] (fun r => [(7211, .arr 2 r.length (fMatch r))]) (fn := Try.f36) (nt := 37) Try.func36 rfl rfl (args := [agStore s, slFeat false feats]) rfl (allcons (.inl ⟨rfl, by simp [tagged, taggedL, tagTemplate]⟩) (allcons (.inl ⟨rfl, tagFeat false _⟩) allnil)) (res := fun r => .arr 7211) ?_
    refine xR [(0, .new 2)] [1, 2] [2] [slFeat false feats, .ref 2 0] [some (bxStore s)] [] trivial ?_
    refine xR [] [1, 2, 5] [2] [slFeat false feats, .ref 2 0, nilA] [some (bxStore s)] [] trivial ?_
    refine x_seq ?_
    refine xR [] [1, 2, 5, 9, 10, 11] [2] [slFeat false feats, .ref 2 0, nilA, slTemplate false s.Templates, I (s.Templates.length : Int), I 0] [some (bxStore s)] [] trivial ?_
    refine x_block ?_
    refine x_nil 5 705 2 (fun _ => []) (by kernel_rfl) ?_
    refine x_weak [] (T := [(1, slFeat false feats), (2, .ref 2 0), (5, .arr 705), (9, slTemplate false s.Templates), (10, I (s.Templates.length : Int)), (11, I 0)]) (O := [(2, bxStore s), (705, .arr 2 (([] : List Match).length) (fMatch ([] : List Match)))]) rfl (⟨.inl rfl, .inl rfl, .inl rfl, .inl rfl, .inl rfl, .inl rfl, trivial⟩) (⟨.inl rfl, .inr ⟨rfl, (by first | rfl | (simp; done) | (simp; omega) | omega), fun i_ hi_ => absurd hi_ (Nat.not_lt_zero _)⟩, trivial⟩) ?_
    refine x_loop (X := (List Match) × Int) (fun x => mkS [(1, slFeat false feats), (2, .ref 2 0), (5, .arr 705), (9, slTemplate false s.Templates), (10, I (s.Templates.length : Int)), (11, I x.2)] [(2, bxStore s), (705, .arr 2 x.1.length (fMatch x.1))]) (fun x => (0 ≤ x.2 ∧ x.2 ≤ (s.Templates.length : Int)) ∧ (x.1 = mtS s feats x.2.toNat) ∧ True) (fun x => ((s.Templates.length : Int) - x.2).toNat) (([] : List Match), 0) rfl (show (0 ≤ (0 : Int) ∧ (0 : Int) ≤ (s.Templates.length : Int)) ∧ (([] : List Match) = mtS s feats (0 : Int).toNat) ∧ True from ⟨(by omega), (by rfl), trivial⟩) (fun x hI => ?_)
    obtain ⟨ls, t11⟩ := x
    obtain ⟨hi0, hls, _⟩ : (0 ≤ t11 ∧ t11 ≤ (s.Templates.length : Int)) ∧ (ls = mtS s feats t11.toNat) ∧ True := hI
    show XW _ _ _ _ (mkS [(1, slFeat false feats), (2, .ref 2 0), (5, .arr 705), (9, slTemplate false s.Templates), (10, I (s.Templates.length : Int)), (11, I t11)] [(2, bxStore s), (705, .arr 2 ls.length (fMatch ls))]) _ _
    refine x_seq ?_
    by_cases h1 : t11 < (s.Templates.length : Int)
    ·have hi : t11.toNat < s.Templates.length := by omega
     have hix : ((t11.toNat : Nat) : Int) = t11 := by omega
     have htm := (okStore_iff.1 hst).2.2 _ hi
     have hts : okFeats (at_ s.Templates t11.toNat).Feats 72 = true := by simp only [okTm, Bool.and_eq_true] at htm; exact htm.2
     have htn := okFeats_n hts
     have hfn := okFeats_n okf
     have hml : ls.length ≤ t11.toNat := by rw [hls]; exact mtS_len s feats _
     have hnx : (t11 + 1).toNat = t11.toNat + 1 := by omega
     refine x_r [(0, .dec true)] [1, 2, 5, 9, 10, 11, 12] [2, 705] [slFeat false feats, .ref 2 0, .arr 705, slTemplate false s.Templates, I (s.Templates.length : Int), I t11, Bv true] [some (bxStore s), some (.arr 2 ls.length (fMatch ls))] [t11 < (s.Templates.length : Int)] ⟨h1, trivial⟩ ?_
     refine xe_then ?_
     refine x_seq ?_
     refine x_true rfl ?_
     refine x_skip ?_
     refine xe_then ?_
     refine x_seq ?_
     refine x_block ?_
     refine xR [(3, .new 7)] [1, 2, 5, 6, 7, 9, 10, 11] [2, 7, 705] [slFeat false feats, .ref 2 0, .arr 705, I t11, .ref 7 0, slTemplate false s.Templates, I (s.Templates.length : Int), I t11] [some (bxStore s), some (bxTemplate (at_ s.Templates t11.toNat)), some (.arr 2 ls.length (fMatch ls))] [(0 : Int) ≤ t11 ∧ t11 < (s.Templates.length : Int)] ⟨⟨(by omega), (by omega)⟩, trivial⟩ ?_
     refine x_seq ?_
     rcases Bool.eq_false_or_eq_true (inB s.Band 0 72 && decide ((((feats.length : Int) - ((((at_ s.Templates t11.toNat).Feats).length) : Int)).natAbs : Int) ≤ s.Band)) with h2 | h2
     ·have hin : inS s feats t11.toNat = true := h2
      have hcv := mt_cv okf htm hin
      have hms := mt_y hin
      refine x_r [(7, .call [(true, .any), (true, .any), (true, .any)] true (Bv true))] [1, 2, 5, 6, 7, 9, 10, 11, 23] [2, 7, 705] [slFeat false feats, .ref 2 0, .arr 705, I t11, .ref 7 0, slTemplate false s.Templates, I (s.Templates.length : Int), I t11, Bv true] [some (bxStore s), some (bxTemplate (at_ s.Templates t11.toNat)), some (.arr 2 ls.length (fMatch ls))] [Con Try.prog 25 [I s.Band, I (feats.length : Int), I ((((at_ s.Templates t11.toNat).Feats).length) : Int)] true (Bv true) ∧ True] ⟨⟨(con_bool h2 (isBand_ok s.Band (feats.length : Int) ((((at_ s.Templates t11.toNat).Feats).length) : Int) (by omega) (by omega))), trivial⟩, trivial⟩ ?_
      refine xe_then ?_
      refine x_true rfl ?_
      obtain ⟨v_1, hx1_0, hc1⟩ := elastic_ok feats ((at_ s.Templates t11.toNat).Feats) s.Band (okAB_of okf hts) (by omega) (by omega)
      have hel : v_1 = (mtM s feats t11.toNat).Cost := hx1_0.trans hcv.2.2.1
      refine x_r [(7, .call [(true, .any), (true, .any), (true, .any)] true (I v_1)), (9, .new 33), (10, .new 34)] [1, 2, 5, 9, 10, 11] [2, 34] [slFeat false feats, .ref 2 0, .arr 34, slTemplate false s.Templates, I (s.Templates.length : Int), I t11] [some (bxStore s), some (.arr 2 (ls.length + 1) (catF ls.length (fMatch ls) (litF [I t11, I v_1] 2)))] [Con Try.prog 27 [slFeat false feats, slFeat false ((at_ s.Templates t11.toNat).Feats), I s.Band] true (I v_1) ∧ True, (ls.length + 1) * 16 ≤ 140737488355328] ⟨⟨hc1, trivial⟩, (by omega), trivial⟩ ?_
      refine xe_block 1 ?_
      refine xe_then ?_
      refine x_r [] [1, 2, 5, 9, 10, 11] [2, 34] [slFeat false feats, .ref 2 0, .arr 34, slTemplate false s.Templates, I (s.Templates.length : Int), I (t11 + 1)] [some (bxStore s), some (.arr 2 (ls.length + 1) (catF ls.length (fMatch ls) (litF [I t11, I v_1] 2)))] [inR .i64 (t11 + 1)] ⟨(inR_i64 (by omega) (by omega)), trivial⟩ ?_
      refine xe_weak [(705, 34)] (T := [(1, slFeat false feats), (2, .ref 2 0), (5, .arr 705), (9, slTemplate false s.Templates), (10, I (s.Templates.length : Int)), (11, I (t11 + 1))]) (O := [(2, bxStore s), (705, .arr 2 ((ls ++ [(Match.mk t11 v_1)]).length) (fMatch (ls ++ [(Match.mk t11 v_1)])))]) rfl (⟨.inl rfl, .inl rfl, .inl rfl, .inl rfl, .inl rfl, .inl rfl, trivial⟩) (⟨.inl rfl, .inr ⟨rfl, (by first | rfl | (simp; done) | (simp; omega) | omega), fun i_ hi_ => .inl (cat_snoc (enc := cMatch) (xs := ls) rfl i_ hi_)⟩, trivial⟩) (xe_again ((ls ++ [(Match.mk t11 v_1)]), (t11 + 1)) rfl (show (0 ≤ (t11 + 1) ∧ (t11 + 1) ≤ (s.Templates.length : Int)) ∧ ((ls ++ [(Match.mk t11 v_1)]) = mtS s feats (t11 + 1).toNat) ∧ True from ⟨(by omega), (by (rw [hnx, hls, hms]; first | done | rfl | (rw [hel]; unfold mtM; rw [hix]))), trivial⟩) (by first | (show (((s.Templates.length : Int) - (t11 + 1)).toNat : Nat) < ((s.Templates.length : Int) - t11).toNat; omega) | (dsimp only; omega)))
     have hin : ¬ inS s feats t11.toNat = true := by unfold inS; rw [h2]; decide
     have hms := mt_n hin
     refine x_r [(7, .call [(true, .any), (true, .any), (true, .any)] true (Bv false))] [1, 2, 5, 6, 7, 9, 10, 11, 23] [2, 7, 705] [slFeat false feats, .ref 2 0, .arr 705, I t11, .ref 7 0, slTemplate false s.Templates, I (s.Templates.length : Int), I t11, Bv false] [some (bxStore s), some (bxTemplate (at_ s.Templates t11.toNat)), some (.arr 2 ls.length (fMatch ls))] [Con Try.prog 25 [I s.Band, I (feats.length : Int), I ((((at_ s.Templates t11.toNat).Feats).length) : Int)] true (Bv false) ∧ True] ⟨⟨(con_bool h2 (isBand_ok s.Band (feats.length : Int) ((((at_ s.Templates t11.toNat).Feats).length) : Int) (by omega) (by omega))), trivial⟩, trivial⟩ ?_
     refine xe_then ?_
     refine x_false rfl ?_
     refine x_skip ?_
     refine xe_block 1 ?_
     refine xe_then ?_
     refine x_r [] [1, 2, 5, 9, 10, 11] [2, 705] [slFeat false feats, .ref 2 0, .arr 705, slTemplate false s.Templates, I (s.Templates.length : Int), I (t11 + 1)] [some (bxStore s), some (.arr 2 ls.length (fMatch ls))] [inR .i64 (t11 + 1)] ⟨(inR_i64 (by omega) (by omega)), trivial⟩ ?_
     exact xe_again (ls, (t11 + 1)) rfl (show (0 ≤ (t11 + 1) ∧ (t11 + 1) ≤ (s.Templates.length : Int)) ∧ (ls = mtS s feats (t11 + 1).toNat) ∧ True from ⟨(by omega), (by (rw [hnx, hls, hms]; first | done | rfl | (rw [hel]; unfold mtM; rw [hix]))), trivial⟩) (by first | (show (((s.Templates.length : Int) - (t11 + 1)).toNat : Nat) < ((s.Templates.length : Int) - t11).toNat; omega) | (dsimp only; omega))
    have hie : t11.toNat = s.Templates.length := by omega
    refine x_r [(0, .dec false)] [1, 2, 5, 9, 10, 11, 12] [2, 705] [slFeat false feats, .ref 2 0, .arr 705, slTemplate false s.Templates, I (s.Templates.length : Int), I t11, Bv false] [some (bxStore s), some (.arr 2 ls.length (fMatch ls))] [¬ (t11 < (s.Templates.length : Int))] ⟨h1, trivial⟩ ?_
    refine xe_then ?_
    refine x_seq ?_
    refine x_false rfl ?_
    refine x_exit ?_
    refine xe_exit_then ?_
    refine xe_loop_exit ?_
    refine xe_exit_same ?_
    refine xe_then ?_
    refine xR [] [4] [705] [.arr 705] [some (.arr 2 ls.length (fMatch ls))] [] trivial ?_
    refine x_ret ?_
    refine xe_weak [(7211, 705)] (T := [(4, .arr 7211)]) (O := [(7211, .arr 2 ls.length (fMatch ls))]) rfl (⟨.inl rfl, trivial⟩) (⟨.inl rfl, trivial⟩) ?_
    refine xe_end ls (show (ls = mtS s feats s.Templates.length) ∧ (True) from ⟨(by (rw [hls, hie])), trivial⟩) (⟨.inl rfl, trivial⟩) (.arr 7211) (by kernel_rfl) (.inl rfl) (fun h => by cases h) (fun h => by cases h)
  obtain ⟨ms, ⟨hh0, _⟩, hc⟩ := hh
  exact ⟨ms, hh0, hc⟩


-- impl.MatchesOf
theorem MatchesOf_ok (s : Store) (feats : List Feat) (hst : okStore' s = true) (okf : okFeats feats 72 = true) (h18 : s.Templates.length ≤ 18) (oks_ : okStore s) : ∃ (v : List Match) (c : Int), (v = mtS s feats s.Templates.length) ∧ (c = 0) ∧ Con Try.prog 16 [agStore s, slFeat false feats] true (.tup [slMatch true v, I c]) := by
  have hh : ∃ r : (List Match) × Int, ((r.1 = mtS s feats s.Templates.length) ∧ (r.2 = 0) ∧ (True)) ∧ CallOK Try.prog 16 [agStore s, slFeat false feats] (lookO []) true (.tup [slMatch true r.1, I r.2]) (lookO []) := by
    refine fn_okX (Φ := fun r : (List Match) × Int => (r.1 = mtS s feats s.Templates.length) ∧ (r.2 = 0) ∧ (True)) [] (fun r => []) (fn := Try.f16) (nt := 17) Try.func16 rfl rfl (args := [agStore s, slFeat false feats]) rfl (allcons (.inl ⟨rfl, by simp [tagged, taggedL, tagTemplate]⟩) (allcons (.inl ⟨rfl, tagFeat false _⟩) allnil)) (res := fun r => .tup [slMatch true r.1, I r.2]) ?_
    refine xR [(0, .new 2)] [1, 2] [2] [slFeat false feats, .ref 2 0] [some (bxStore s)] [] trivial ?_
    refine x_seq ?_
    refine xR [(1, .call [(true, .any)] true (Bv true)), (5, .call [(true, .any)] true (Bv true))] [1, 2, 13] [2] [slFeat false feats, .ref 2 0, Bv false] [some (bxStore s)] [Con Try.prog 34 [agStore s] true (Bv true) ∧ True, Con Try.prog 35 [slFeat false feats] true (Bv true) ∧ True] ⟨⟨(con_bool hst (ValidStore_ok s oks_)), trivial⟩, ⟨(con_bool okf (ValidSeq_ok feats)), trivial⟩, trivial⟩ ?_
    refine x_false rfl ?_
    refine x_skip ?_
    refine xe_then ?_
    refine x_seq ?_
    obtain ⟨ms_1, hx1_0, hc1⟩ := matchesOf_ok s feats hst okf h18
    refine x_r [(2, .lend [] [(7211, .arr 2 ms_1.length (fMatch ms_1))] [(true, .any), (true, .any)] false (.arr 7211))] [4, 5] [7211] [.arr 7211, I 0] [some (.arr 2 ms_1.length (fMatch ms_1))] [CallOK Try.prog 36 [agStore s, slFeat false feats] (lookO []) false (.arr 7211) (lookO [(7211, .arr 2 ms_1.length (fMatch ms_1))]) ∧ True] ⟨⟨hc1, trivial⟩, trivial⟩ ?_
    refine xe_then ?_
    refine x_ret ?_
    refine xe_end (ms_1, 0) (show (ms_1 = mtS s feats s.Templates.length) ∧ (0 = 0) ∧ (True) from ⟨(by first | assumption | rfl), (by first | assumption | rfl), trivial⟩) (trivial) (.tup [.arr 7211, I 0]) (by kernel_rfl) (.inr ⟨⟨(fun _ => rfl), rfl, rfl, fun i _ => .inl rfl⟩, ⟨rfl, rfl⟩⟩) (fun _ => rfl) (fun _ => (by simp [tagged, taggedL, tagMatch]))
  obtain ⟨⟨v, c⟩, ⟨hh0, hh1, _⟩, hc⟩ := hh
  exact ⟨v, c, hh0, hh1, hc⟩


-- cmp.isNaN[int64]
theorem isNaNI_ok (x : Int) : Con Try.prog 50 [I x] true (Bv false) := by
  refine fn_ok (fn := Try.f50) (nt := 6) Try.func50 rfl rfl rfl rfl (by simp [taggedL, tagged]) fun B hB => ?_
  refine aR [] [0] [] [I x] [] [] hB trivial ?_
  refine aR [(2, .dec false)] [2] [] [Bv false] [] [¬ (x ≠ x)] hB ⟨(fun hq => hq rfl), trivial⟩ ?_
  refine aw_ret ?_
  refine ae_ret hB (Bv false) (by kernel_rfl) (.inl rfl) rfl (fun _ => trivial)


-- cmp.Compare[int64]
theorem CompareI_ok (x : Int) (y : Int) : Con Try.prog 30 [I x, I y] true (I (cmpI x y)) := by
  refine fn_ok (fn := Try.f30) (nt := 20) Try.func30 rfl rfl rfl rfl (by simp [taggedL, tagged]) fun B hB => ?_
  refine aR [] [0, 1] [] [I x, I y] [] [] hB trivial ?_
  refine aR [(1, .call [(true, .any)] true (Bv false))] [0, 1, 5] [] [I x, I y, Bv false] [] [Con Try.prog 50 [I x] true (Bv false) ∧ True] hB ⟨⟨(isNaNI_ok x), trivial⟩, trivial⟩ ?_
  refine aR [(1, .call [(true, .any)] true (Bv false))] [0, 1, 5, 6] [] [I x, I y, Bv false, Bv false] [] [Con Try.prog 50 [I y] true (Bv false) ∧ True] hB ⟨⟨(isNaNI_ok y), trivial⟩, trivial⟩ ?_
  refine aw_seq ?_
  refine aR [] [0, 1, 6, 11] [] [I x, I y, Bv false, Bv false] [] [] hB trivial ?_
  refine aw_false rfl ?_
  refine aw_skip ?_
  refine ae_then ?_
  refine aw_seq ?_
  refine aR [] [0, 1, 13] [] [I x, I y, Bv false] [] [] hB trivial ?_
  refine aw_false rfl ?_
  refine aw_skip ?_
  refine ae_then ?_
  refine aw_seq ?_
  refine aw_seq ?_
  by_cases h1 : x < y
  ·refine aw_r [(2, .dec true)] [0, 1, 16] [] [I x, I y, Bv true] [] [x < y] hB ⟨h1, trivial⟩ ?_
   refine ae_then ?_
   refine aw_true rfl ?_
   refine aR [] [4] [] [I (-1)] [] [] hB trivial ?_
   refine aw_ret ?_
   refine ae_ret_then ?_
   refine ae_ret hB (I (-1)) (by kernel_rfl) (.inl (by refine congrArg I ?_; unfold cmpI; first | (rw [if_pos (by omega)]; done) | (rw [if_neg (by omega), if_pos (by omega)]; done) | (rw [if_neg (by omega), if_neg (by omega)]; done))) rfl (fun _ => trivial)
  refine aw_r [(2, .dec false)] [0, 1, 16] [] [I x, I y, Bv false] [] [¬ (x < y)] hB ⟨h1, trivial⟩ ?_
  refine ae_then ?_
  refine aw_false rfl ?_
  refine aw_skip ?_
  refine ae_then ?_
  refine aw_seq ?_
  refine aw_seq ?_
  by_cases h2 : y < x
  ·refine aw_r [(2, .dec true)] [19] [] [Bv true] [] [y < x] hB ⟨h2, trivial⟩ ?_
   refine ae_then ?_
   refine aw_true rfl ?_
   refine aR [] [4] [] [I 1] [] [] hB trivial ?_
   refine aw_ret ?_
   refine ae_ret_then ?_
   refine ae_ret hB (I 1) (by kernel_rfl) (.inl (by refine congrArg I ?_; unfold cmpI; first | (rw [if_pos (by omega)]; done) | (rw [if_neg (by omega), if_pos (by omega)]; done) | (rw [if_neg (by omega), if_neg (by omega)]; done))) rfl (fun _ => trivial)
  refine aw_r [(2, .dec false)] [19] [] [Bv false] [] [¬ (y < x)] hB ⟨h2, trivial⟩ ?_
  refine ae_then ?_
  refine aw_false rfl ?_
  refine aw_skip ?_
  refine ae_then ?_
  refine aR [] [4] [] [I 0] [] [] hB trivial ?_
  refine aw_ret ?_
  refine ae_ret hB (I 0) (by kernel_rfl) (.inl (by refine congrArg I ?_; unfold cmpI; first | (rw [if_pos (by omega)]; done) | (rw [if_neg (by omega), if_pos (by omega)]; done) | (rw [if_neg (by omega), if_neg (by omega)]; done))) rfl (fun _ => trivial)


-- impl.nearest$1
theorem nearest1_ok (a : Match) (b : Match) : Con Try.prog 63 [agMatch a, agMatch b] true (I (cmpM a b)) := by
  refine fn_ok (fn := Try.f63) (nt := 10) Try.func63 rfl rfl rfl rfl (by simp [taggedL, tagged]) fun B hB => ?_
  refine aR [(0, .new 2), (1, .new 3)] [2, 3] [2, 3] [.ref 2 0, .ref 3 0] [some (bxMatch a), some (bxMatch b)] [] hB trivial ?_
  refine aR [(4, .call [(true, .any), (true, .any)] true (I (cmpI a.Cost b.Cost)))] [4] [] [I (cmpI a.Cost b.Cost)] [] [Con Try.prog 30 [I a.Cost, I b.Cost] true (I (cmpI a.Cost b.Cost)) ∧ True] hB ⟨⟨(CompareI_ok a.Cost b.Cost), trivial⟩, trivial⟩ ?_
  refine aw_ret ?_
  refine ae_ret hB (I (cmpI a.Cost b.Cost)) (by kernel_rfl) (.inl (by first | rfl | (refine congrArg Bv ?_; simp [*]; done) | (refine congrArg Bv ?_; simp [*]; omega) | (refine congrArg Bv ?_; simp_all []; done) | (refine congrArg Bv ?_; simp_all []; omega))) rfl (fun _ => trivial)


-- impl.nearest
theorem stMins_ok (data : List Match) (a : Int) (b : Int) (hb : a = 0 ∧ b = (data.length : Int)) (hl : data.length < 20) : ∃ (data' : List Match), (data' = isoL cmpM data data.length) ∧ CallOK Try.prog 92 [.arr 7211, I a, I b, .fn 63 []] (lookO [(7211, .arr 2 data.length (fMatch data))]) true (.tup []) (lookO [(7211, .arr 2 data'.length (fMatch data'))]) := by
  have hh : ∃ r : (List Match), ((r = isoL cmpM data data.length) ∧ (True)) ∧ CallOK Try.prog 92 [.arr 7211, I a, I b, .fn 63 []] (lookO [(7211, .arr 2 data.length (fMatch data))]) true (.tup []) (lookO [(7211, .arr 2 r.length (fMatch r))]) := by
    refine fn_okX (Φ := fun r : (List Match) => (r = isoL cmpM data data.length) ∧ (True)) [(7211, .arr 2 data.length (fMatch data))] (fun r => [(7211, .arr 2 r.length (fMatch r))]) (fn := Try.f92) (nt := 53) Try.func92 rfl rfl (args := [.arr 7211, I a, I b, .fn 63 []]) rfl (allcons (.inr trivial) (allcons (.inl ⟨rfl, trivial⟩) (allcons (.inl ⟨rfl, trivial⟩) (allcons (.inl ⟨rfl, trivial⟩) allnil)))) (res := fun r => .tup []) ?_
    refine xR [] [0, 1, 2, 3, 8] [7211] [.arr 7211, I a, I b, .fn 63 [], I (a + 1)] [some (.arr 2 data.length (fMatch data))] [inR .i64 (a + 1)] ⟨(inR_i64 (by omega) (by omega)), trivial⟩ ?_
    refine x_block ?_
    refine x_loop (X := Int × (List Match)) (fun x => mkS [(0, .arr 7211), (1, I a), (2, I b), (3, .fn 63 []), (8, I x.1)] [(7211, .arr 2 x.2.length (fMatch x.2))]) (fun x => (1 ≤ x.1 ∧ (x.1 ≤ (data.length : Int) ∨ x.1 = 1)) ∧ (x.2 = isoL cmpM data (min x.1.toNat data.length) ++ data.drop x.1.toNat) ∧ True) (fun x => ((data.length : Int) - x.1).toNat) ((a + 1), data) rfl (show (1 ≤ (a + 1) ∧ ((a + 1) ≤ (data.length : Int) ∨ (a + 1) = 1)) ∧ (data = isoL cmpM data (min (a + 1).toNat data.length) ++ data.drop (a + 1).toNat) ∧ True from ⟨(by omega), (by first | exact iso_start _ _ | (rw [show (a + 1).toNat = 1 from by omega]; exact iso_start _ _)), trivial⟩) (fun x hI => ?_)
    obtain ⟨i, ys⟩ := x
    obtain ⟨hi0, hys, _⟩ : (1 ≤ i ∧ (i ≤ (data.length : Int) ∨ i = 1)) ∧ (ys = isoL cmpM data (min i.toNat data.length) ++ data.drop i.toNat) ∧ True := hI
    show XW _ _ _ _ (mkS [(0, .arr 7211), (1, I a), (2, I b), (3, .fn 63 []), (8, I i)] [(7211, .arr 2 ys.length (fMatch ys))]) _ _
    refine x_seq ?_
    refine x_seq ?_
    by_cases h1 : i < b
    ·have hi : i.toNat < data.length := by omega
     have hmi : min i.toNat data.length = i.toNat := by omega
     rw [hmi, iso_in hi] at hys
     have hpl := isoL_len cmpM data i.toNat
     have hyl : ys.length = data.length := by rw [hys, List.length_append, shf_len (by omega), List.length_drop, hpl]; omega
     refine x_r [(2, .dec true)] [0, 1, 2, 3, 8, 14] [7211] [.arr 7211, I a, I b, .fn 63 [], I i, Bv true] [some (.arr 2 ys.length (fMatch ys))] [i < b] ⟨h1, trivial⟩ ?_
     refine xe_then ?_
     refine x_true rfl ?_
     refine x_skip ?_
     refine xe_then ?_
     refine x_seq ?_
     refine x_block ?_
     refine xR [] [0, 1, 2, 3, 8, 9] [7211] [.arr 7211, I a, I b, .fn 63 [], I i, I i] [some (.arr 2 ys.length (fMatch ys))] [] trivial ?_
     refine x_block ?_
     refine x_loop (X := Int × (List Match)) (fun x => mkS [(0, .arr 7211), (1, I a), (2, I b), (3, .fn 63 []), (8, I i), (9, I x.1)] [(7211, .arr 2 x.2.length (fMatch x.2))]) (fun x => (0 ≤ x.1 ∧ x.1 ≤ i) ∧ (x.2 = shfL (isoL cmpM data i.toNat) (at_ data i.toNat) x.1.toNat ++ data.drop (i.toNat + 1)) ∧ (∀ k : Nat, x.1 ≤ (k : Int) → (k : Int) < i → cmpM (at_ data i.toNat) (at_ (isoL cmpM data i.toNat) k) < 0) ∧ True) (fun x => x.1.toNat) (i, ys) rfl (show (0 ≤ i ∧ i ≤ i) ∧ (ys = shfL (isoL cmpM data i.toNat) (at_ data i.toNat) i.toNat ++ data.drop (i.toNat + 1)) ∧ (∀ k : Nat, i ≤ (k : Int) → (k : Int) < i → cmpM (at_ data i.toNat) (at_ (isoL cmpM data i.toNat) k) < 0) ∧ True from ⟨(by omega), (by first | exact hys | (rw [hys]; done)), (by intro k h1 h2; omega), trivial⟩) (fun x hI => ?_)
     obtain ⟨j, ys'⟩ := x
     obtain ⟨hj0, hin, hgt, _⟩ : (0 ≤ j ∧ j ≤ i) ∧ (ys' = shfL (isoL cmpM data i.toNat) (at_ data i.toNat) j.toNat ++ data.drop (i.toNat + 1)) ∧ (∀ k : Nat, j ≤ (k : Int) → (k : Int) < i → cmpM (at_ data i.toNat) (at_ (isoL cmpM data i.toNat) k) < 0) ∧ True := hI
     show XW _ _ _ _ (mkS [(0, .arr 7211), (1, I a), (2, I b), (3, .fn 63 []), (8, I i), (9, I j)] [(7211, .arr 2 ys'.length (fMatch ys'))]) _ _
     refine x_seq ?_
     refine x_seq ?_
     by_cases h2 : a < j
     ·have hyl' : ys'.length = data.length := by rw [hin, List.length_append, shf_len (by omega), List.length_drop, hpl]; omega
      have e1 : at_ ys' j.toNat = (at_ data i.toNat) := by rw [hin]; exact shf_at (by omega)
      have e2 : at_ ys' (j - 1).toNat = at_ (isoL cmpM data i.toNat) (j.toNat - 1) := by rw [hin, shf_below (by omega) (by omega)]; congr 1; omega
      by_cases h3 : (cmpM (at_ ys' j.toNat) (at_ ys' ((j - 1).toNat))) < 0
      ·have hq := h3
       rw [e1, e2] at hq
       have hst : (ys'.set j.toNat (at_ ys' (j - 1).toNat)).set (j - 1).toNat (at_ ys' j.toNat) = shfL (isoL cmpM data i.toNat) (at_ data i.toNat) (j - 1).toNat ++ data.drop (i.toNat + 1) := by have q := shf_step (p := (isoL cmpM data i.toNat)) (x := (at_ data i.toNat)) (r := data.drop (i.toNat + 1)) (j := (j - 1).toNat) (by omega); rw [show (j - 1).toNat + 1 = j.toNat from by omega] at q; rw [e1, e2, hin, ← q, show j.toNat - 1 = (j - 1).toNat from by omega]
       have hgn : ∀ k : Nat, j - 1 ≤ (k : Int) → (k : Int) < i → cmpM (at_ data i.toNat) (at_ (isoL cmpM data i.toNat) k) < 0 := fun k h1 h2 => by by_cases e : (k : Int) = j - 1; (rw [show k = j.toNat - 1 from by omega]; exact hq); exact hgt k (by omega) h2
       refine x_r [(2, .dec true), (14, .call [(true, .any), (true, .any)] true (I (cmpM (at_ ys' j.toNat) (at_ ys' ((j - 1).toNat))))), (15, .dec true)] [0, 1, 2, 3, 8, 9, 34] [7211] [.arr 7211, I a, I b, .fn 63 [], I i, I j, Bv true] [some (.arr 2 ys'.length (fMatch ys'))] [a < j, (0 : Int) ≤ j ∧ j < (ys'.length : Int), j.toNat < ys'.length, inR .i64 (j - 1), (0 : Int) ≤ (j - 1) ∧ (j - 1) < (ys'.length : Int), (j - 1).toNat < ys'.length, Con Try.prog 63 [agMatch (at_ ys' j.toNat), agMatch (at_ ys' ((j - 1).toNat))] true (I (cmpM (at_ ys' j.toNat) (at_ ys' ((j - 1).toNat)))) ∧ True, (cmpM (at_ ys' j.toNat) (at_ ys' ((j - 1).toNat))) < 0] ⟨h2, ⟨(by omega), (by omega)⟩, (by omega), (inR_i64 (by omega) (by omega)), ⟨(by omega), (by omega)⟩, (by omega), ⟨(nearest1_ok (at_ ys' j.toNat) (at_ ys' ((j - 1).toNat))), trivial⟩, h3, trivial⟩ ?_
       refine xe_then ?_
       refine x_true rfl ?_
       refine x_skip ?_
       refine xe_then ?_
       refine x_seq ?_
       refine x_block ?_
       refine x_r [] [0, 1, 2, 3, 8, 9] [7211] [.arr 7211, I a, I b, .fn 63 [], I i, I j] [some (.arr 2 ys'.length (fun q => bif Nat.beq q ((j - 1).toNat) then spl ((fun q => bif Nat.beq q j.toNat then [I ((at_ ys' ((j - 1).toNat)).Index), I ((at_ ys' ((j - 1).toNat)).Cost)] else (fMatch ys') q) ((j - 1).toNat)) 0 [I ((at_ ys' j.toNat).Index), I ((at_ ys' j.toNat).Cost)] else (fun q => bif Nat.beq q j.toNat then [I ((at_ ys' ((j - 1).toNat)).Index), I ((at_ ys' ((j - 1).toNat)).Cost)] else (fMatch ys') q) q))] [inR .i64 (j - 1), inR .i64 (j - 1), (0 : Int) ≤ (j - 1) ∧ (j - 1) < (ys'.length : Int), (j - 1).toNat < ys'.length, (0 : Int) ≤ j ∧ j < (ys'.length : Int), j.toNat < ys'.length, (0 : Int) ≤ j ∧ j < (ys'.length : Int), j.toNat < ys'.length, (0 : Int) ≤ (j - 1) ∧ (j - 1) < (ys'.length : Int), (j - 1).toNat < ys'.length] ⟨(inR_i64 (by omega) (by omega)), (inR_i64 (by omega) (by omega)), ⟨(by omega), (by omega)⟩, (by omega), ⟨(by omega), (by omega)⟩, (by omega), ⟨(by omega), (by omega)⟩, (by omega), ⟨(by omega), (by omega)⟩, (by omega), trivial⟩ ?_
       refine xe_block 3 ?_
       refine xe_then ?_
       refine x_r [] [0, 1, 2, 3, 8, 9] [7211] [.arr 7211, I a, I b, .fn 63 [], I i, I (j - 1)] [some (.arr 2 ys'.length (fun q => bif Nat.beq q ((j - 1).toNat) then spl ((fun q => bif Nat.beq q j.toNat then [I ((at_ ys' ((j - 1).toNat)).Index), I ((at_ ys' ((j - 1).toNat)).Cost)] else (fMatch ys') q) ((j - 1).toNat)) 0 [I ((at_ ys' j.toNat).Index), I ((at_ ys' j.toNat).Cost)] else (fun q => bif Nat.beq q j.toNat then [I ((at_ ys' ((j - 1).toNat)).Index), I ((at_ ys' ((j - 1).toNat)).Cost)] else (fMatch ys') q) q))] [inR .i64 (j - 1)] ⟨(inR_i64 (by omega) (by omega)), trivial⟩ ?_
       refine xe_weak [] (T := [(0, .arr 7211), (1, I a), (2, I b), (3, .fn 63 []), (8, I i), (9, I (j - 1))]) (O := [(7211, .arr 2 (((ys'.set j.toNat (at_ ys' ((j - 1).toNat))).set ((j - 1).toNat) (at_ ys' j.toNat)).length) (fMatch ((ys'.set j.toNat (at_ ys' ((j - 1).toNat))).set ((j - 1).toNat) (at_ ys' j.toNat))))]) rfl (⟨.inl rfl, .inl rfl, .inl rfl, .inl rfl, .inl rfl, .inl rfl, trivial⟩) (⟨.inr ⟨rfl, (by first | rfl | (simp; done) | (simp; omega) | omega), fun i_ hi_ => .inl (upd_spl (enc := cMatch) (fun i_ hi_ => (upd_enc (enc := cMatch) rfl i_ hi_)) ((by first | omega | (simp only [List.length_set]; omega))) rfl i_ hi_)⟩, trivial⟩) (xe_again ((j - 1), ((ys'.set j.toNat (at_ ys' ((j - 1).toNat))).set ((j - 1).toNat) (at_ ys' j.toNat))) rfl (show (0 ≤ (j - 1) ∧ (j - 1) ≤ i) ∧ (((ys'.set j.toNat (at_ ys' ((j - 1).toNat))).set ((j - 1).toNat) (at_ ys' j.toNat)) = shfL (isoL cmpM data i.toNat) (at_ data i.toNat) (j - 1).toNat ++ data.drop (i.toNat + 1)) ∧ (∀ k : Nat, (j - 1) ≤ (k : Int) → (k : Int) < i → cmpM (at_ data i.toNat) (at_ (isoL cmpM data i.toNat) k) < 0) ∧ True from ⟨(by omega), (by exact hst), (by exact hgn), trivial⟩) (by first | (show ((j - 1).toNat : Nat) < j.toNat; omega) | (dsimp only; omega)))
      have hq := h3
      rw [e1, e2] at hq
      have hio := iso_out (c := cmpM) (xs := data) (i := i.toNat) (j := j.toNat) (by omega) (fun k h1 h2 => hgt k (by omega) (by omega)) (Or.inr hq)
      rw [hio] at hin
      refine x_r [(2, .dec true), (14, .call [(true, .any), (true, .any)] true (I (cmpM (at_ ys' j.toNat) (at_ ys' ((j - 1).toNat))))), (15, .dec false)] [0, 1, 2, 3, 8, 9, 34] [7211] [.arr 7211, I a, I b, .fn 63 [], I i, I j, Bv false] [some (.arr 2 ys'.length (fMatch ys'))] [a < j, (0 : Int) ≤ j ∧ j < (ys'.length : Int), j.toNat < ys'.length, inR .i64 (j - 1), (0 : Int) ≤ (j - 1) ∧ (j - 1) < (ys'.length : Int), (j - 1).toNat < ys'.length, Con Try.prog 63 [agMatch (at_ ys' j.toNat), agMatch (at_ ys' ((j - 1).toNat))] true (I (cmpM (at_ ys' j.toNat) (at_ ys' ((j - 1).toNat)))) ∧ True, ¬ ((cmpM (at_ ys' j.toNat) (at_ ys' ((j - 1).toNat))) < 0)] ⟨h2, ⟨(by omega), (by omega)⟩, (by omega), (inR_i64 (by omega) (by omega)), ⟨(by omega), (by omega)⟩, (by omega), ⟨(nearest1_ok (at_ ys' j.toNat) (at_ ys' ((j - 1).toNat))), trivial⟩, h3, trivial⟩ ?_
      refine xe_then ?_
      refine x_false rfl ?_
      refine x_exit ?_
      refine xe_exit_then ?_
      refine xe_loop_exit ?_
      refine xe_exit_same ?_
      refine xe_block 1 ?_
      refine xe_then ?_
      refine x_r [] [0, 1, 2, 3, 8] [7211] [.arr 7211, I a, I b, .fn 63 [], I (i + 1)] [some (.arr 2 ys'.length (fMatch ys'))] [inR .i64 (i + 1)] ⟨(inR_i64 (by omega) (by omega)), trivial⟩ ?_
      exact xe_again ((i + 1), ys') rfl (show (1 ≤ (i + 1) ∧ ((i + 1) ≤ (data.length : Int) ∨ (i + 1) = 1)) ∧ (ys' = isoL cmpM data (min (i + 1).toNat data.length) ++ data.drop (i + 1).toNat) ∧ True from ⟨(by omega), (by rw [hin, show (i + 1).toNat = i.toNat + 1 from by omega, show min (i.toNat + 1) data.length = i.toNat + 1 from by omega]), trivial⟩) (by first | (show (((data.length : Int) - (i + 1)).toNat : Nat) < ((data.length : Int) - i).toNat; omega) | (dsimp only; omega))
     have hio := iso_out (c := cmpM) (xs := data) (i := i.toNat) (j := j.toNat) (by omega) (fun k h1 h2 => hgt k (by omega) (by omega)) (Or.inl (by omega))
     rw [hio] at hin
     refine x_r [(2, .dec false)] [0, 1, 2, 3, 8, 9, 34] [7211] [.arr 7211, I a, I b, .fn 63 [], I i, I j, Bv false] [some (.arr 2 ys'.length (fMatch ys'))] [¬ (a < j)] ⟨h2, trivial⟩ ?_
     refine xe_then ?_
     refine x_false rfl ?_
     refine x_exit ?_
     refine xe_exit_then ?_
     refine xe_loop_exit ?_
     refine xe_exit_same ?_
     refine xe_block 1 ?_
     refine xe_then ?_
     refine x_r [] [0, 1, 2, 3, 8] [7211] [.arr 7211, I a, I b, .fn 63 [], I (i + 1)] [some (.arr 2 ys'.length (fMatch ys'))] [inR .i64 (i + 1)] ⟨(inR_i64 (by omega) (by omega)), trivial⟩ ?_
     exact xe_again ((i + 1), ys') rfl (show (1 ≤ (i + 1) ∧ ((i + 1) ≤ (data.length : Int) ∨ (i + 1) = 1)) ∧ (ys' = isoL cmpM data (min (i + 1).toNat data.length) ++ data.drop (i + 1).toNat) ∧ True from ⟨(by omega), (by rw [hin, show (i + 1).toNat = i.toNat + 1 from by omega, show min (i.toNat + 1) data.length = i.toNat + 1 from by omega]), trivial⟩) (by first | (show (((data.length : Int) - (i + 1)).toNat : Nat) < ((data.length : Int) - i).toNat; omega) | (dsimp only; omega))
    have hyf : ys = isoL cmpM data data.length := by rw [hys, show min i.toNat data.length = data.length from by omega, List.drop_eq_nil_of_le (by omega), List.append_nil]
    refine x_r [(2, .dec false)] [0, 1, 2, 3, 8, 14] [7211] [.arr 7211, I a, I b, .fn 63 [], I i, Bv false] [some (.arr 2 ys.length (fMatch ys))] [¬ (i < b)] ⟨h1, trivial⟩ ?_
    refine xe_then ?_
    refine x_false rfl ?_
    refine x_exit ?_
    refine xe_exit_then ?_
    refine xe_loop_exit ?_
    refine xe_exit_same ?_
    refine xe_norm ys (show (ys = isoL cmpM data data.length) ∧ (True) from ⟨(by exact hyf), trivial⟩) (⟨.inl rfl, trivial⟩) (.tup []) (by kernel_rfl) (.inl rfl) (fun _ => rfl) (fun _ => (by simp [tagged, taggedL]))
  obtain ⟨data', ⟨hh0, _⟩, hc⟩ := hh
  exact ⟨data', hh0, hc⟩

theorem stMstb_ok (data : List Match) (n : Int) (hb : n = (data.length : Int)) (hl : data.length < 20) : ∃ (data' : List Match), (data' = isoL cmpM data data.length) ∧ CallOK Try.prog 85 [.arr 7211, I n, .fn 63 []] (lookO [(7211, .arr 2 data.length (fMatch data))]) true (.tup []) (lookO [(7211, .arr 2 data'.length (fMatch data'))]) := by
  have hh : ∃ r : (List Match), ((r = isoL cmpM data data.length) ∧ (True)) ∧ CallOK Try.prog 85 [.arr 7211, I n, .fn 63 []] (lookO [(7211, .arr 2 data.length (fMatch data))]) true (.tup []) (lookO [(7211, .arr 2 r.length (fMatch r))]) := by
    refine fn_okX (Φ := fun r : (List Match) => (r = isoL cmpM data data.length) ∧ (True)) [(7211, .arr 2 data.length (fMatch data))] (fun r => [(7211, .arr 2 r.length (fMatch r))]) (fn := Try.f85) (nt := 63) Try.func85 rfl rfl (args := [.arr 7211, I n, .fn 63 []]) rfl (allcons (.inr trivial) (allcons (.inl ⟨rfl, trivial⟩) (allcons (.inl ⟨rfl, trivial⟩) allnil))) (res := fun r => .tup []) ?_
    refine xR [] [0, 1, 2, 6] [7211] [.arr 7211, I n, .fn 63 [], I 20] [some (.arr 2 data.length (fMatch data))] [] trivial ?_
    refine xR [] [0, 1, 2, 6, 7, 8] [7211] [.arr 7211, I n, .fn 63 [], I 20, I 0, I 20] [some (.arr 2 data.length (fMatch data))] [] trivial ?_
    refine x_seq ?_
    refine x_block ?_
    refine x_loop (X := Int × Int × (List Match)) (fun x => mkS [(0, .arr 7211), (1, I n), (2, .fn 63 []), (6, I 20), (7, I x.1), (8, I x.2.1)] [(7211, .arr 2 x.2.2.length (fMatch x.2.2))]) (fun x => (x.1 = 0 ∧ x.2.1 = 20) ∧ (x.2.2 = data) ∧ True) (fun x => (0 : Nat)) (0, 20, data) rfl (show ((0 : Int) = 0 ∧ (20 : Int) = 20) ∧ (data = data) ∧ True from ⟨(by omega), (by rfl), trivial⟩) (fun x hI => ?_)
    obtain ⟨a, b, ys⟩ := x
    obtain ⟨hab, hyd, _⟩ : (a = 0 ∧ b = 20) ∧ (ys = data) ∧ True := hI
    show XW _ _ _ _ (mkS [(0, .arr 7211), (1, I n), (2, .fn 63 []), (6, I 20), (7, I a), (8, I b)] [(7211, .arr 2 ys.length (fMatch ys))]) _ _
    refine x_seq ?_
    refine xR [(2, .dec false)] [0, 1, 2, 6, 7, 8, 13] [7211] [.arr 7211, I n, .fn 63 [], I 20, I a, I b, Bv false] [some (.arr 2 ys.length (fMatch ys))] [¬ (b ≤ n)] ⟨(by omega), trivial⟩ ?_
    refine x_false rfl ?_
    refine x_exit ?_
    refine xe_exit_then ?_
    refine xe_loop_exit ?_
    refine xe_exit_same ?_
    refine xe_then ?_
    refine x_seq ?_
    obtain ⟨data'_1, hx1_0, hc1⟩ := stMins_ok ys a n (by first | omega | (subst_vars; omega)) (by first | omega | (subst_vars; omega))
    refine x_r [(4, .lend [(7211, .arr 2 ys.length (fMatch ys), .arr 2 data'_1.length (fMatch data'_1))] [] [(true, .any), (true, .any), (true, .any), (true, .any)] true (.tup []))] [0, 1, 2, 6] [7211] [.arr 7211, I n, .fn 63 [], I 20] [some (.arr 2 data'_1.length (fMatch data'_1))] [CallOK Try.prog 92 [.arr 7211, I a, I n, .fn 63 []] (lookO [(7211, .arr 2 ys.length (fMatch ys))]) true (.tup []) (lookO [(7211, .arr 2 data'_1.length (fMatch data'_1))]) ∧ (((.arr 2 ys.length (fMatch ys) : Ob) = .arr 2 ys.length (fMatch ys) ∨ obLe noOb true (.arr 2 ys.length (fMatch ys)) (.arr 2 ys.length (fMatch ys))) ∧ taggedO false (.arr 2 ys.length (fMatch ys))) ∧ True] ⟨⟨hc1, ⟨.inl rfl, fun _ _ => tagcMatch false _⟩, trivial⟩, trivial⟩ ?_
    refine xe_then ?_
    refine x_block ?_
    refine x_loop (X := Int) (fun x => mkS [(0, .arr 7211), (1, I n), (2, .fn 63 []), (6, I x)] [(7211, .arr 2 data'_1.length (fMatch data'_1))]) (fun x => (x = 20) ∧ True) (fun x => (0 : Nat)) 20 rfl (show ((20 : Int) = 20) ∧ True from ⟨(by first | rfl | omega), trivial⟩) (fun x hI => ?_)
    obtain ⟨blockSize, hxx⟩ : ∃ blockSize : Int, blockSize = x := ⟨x, rfl⟩
    subst hxx
    obtain ⟨hbs, _⟩ : (blockSize = 20) ∧ True := hI
    show XW _ _ _ _ (mkS [(0, .arr 7211), (1, I n), (2, .fn 63 []), (6, I blockSize)] [(7211, .arr 2 data'_1.length (fMatch data'_1))]) _ _
    refine x_seq ?_
    refine xR [(2, .dec false)] [0, 1, 2, 6, 30] [7211] [.arr 7211, I n, .fn 63 [], I blockSize, Bv false] [some (.arr 2 data'_1.length (fMatch data'_1))] [¬ (blockSize < n)] ⟨(by omega), trivial⟩ ?_
    refine x_false rfl ?_
    refine x_exit ?_
    refine xe_exit_then ?_
    refine xe_loop_exit ?_
    refine xe_exit_same ?_
    refine xe_norm data'_1 (show (data'_1 = isoL cmpM data data.length) ∧ (True) from ⟨(by first | assumption | (rw [hx1_0, hyd])), trivial⟩) (⟨.inl rfl, trivial⟩) (.tup []) (by kernel_rfl) (.inl rfl) (fun _ => rfl) (fun _ => (by simp [tagged, taggedL]))
  obtain ⟨data', ⟨hh0, _⟩, hc⟩ := hh
  exact ⟨data', hh0, hc⟩

theorem stMsort_ok (data : List Match) (hl : data.length < 20) : ∃ (data' : List Match), (data' = isoL cmpM data data.length) ∧ CallOK Try.prog 62 [.arr 7211, .fn 63 []] (lookO [(7211, .arr 2 data.length (fMatch data))]) true (.tup []) (lookO [(7211, .arr 2 data'.length (fMatch data'))]) := by
  have hh : ∃ r : (List Match), ((r = isoL cmpM data data.length) ∧ (True)) ∧ CallOK Try.prog 62 [.arr 7211, .fn 63 []] (lookO [(7211, .arr 2 data.length (fMatch data))]) true (.tup []) (lookO [(7211, .arr 2 r.length (fMatch r))]) := by
    refine fn_okX (Φ := fun r : (List Match) => (r = isoL cmpM data data.length) ∧ (True)) [(7211, .arr 2 data.length (fMatch data))] (fun r => [(7211, .arr 2 r.length (fMatch r))]) (fn := Try.f62) (nt := 9) Try.func62 rfl rfl (args := [.arr 7211, .fn 63 []]) rfl (allcons (.inr trivial) (allcons (.inl ⟨rfl, trivial⟩) allnil)) (res := fun r => .tup []) ?_
    obtain ⟨data'_1, hx1_0, hc1⟩ := stMstb_ok data (data.length : Int) (by first | rfl | omega) (by omega)
    refine x_r [(4, .lend [(7211, .arr 2 data.length (fMatch data), .arr 2 data'_1.length (fMatch data'_1))] [] [(true, .any), (true, .any), (true, .any)] true (.tup []))] [] [7211] [] [some (.arr 2 data'_1.length (fMatch data'_1))] [CallOK Try.prog 85 [.arr 7211, I (data.length : Int), .fn 63 []] (lookO [(7211, .arr 2 data.length (fMatch data))]) true (.tup []) (lookO [(7211, .arr 2 data'_1.length (fMatch data'_1))]) ∧ (((.arr 2 data.length (fMatch data) : Ob) = .arr 2 data.length (fMatch data) ∨ obLe noOb true (.arr 2 data.length (fMatch data)) (.arr 2 data.length (fMatch data))) ∧ taggedO false (.arr 2 data.length (fMatch data))) ∧ True] ⟨⟨hc1, ⟨.inl rfl, fun _ _ => tagcMatch false _⟩, trivial⟩, trivial⟩ ?_
    refine xe_norm data'_1 (show (data'_1 = isoL cmpM data data.length) ∧ (True) from ⟨(by first | assumption | omega), trivial⟩) (⟨.inl rfl, trivial⟩) (.tup []) (by kernel_rfl) (.inl rfl) (fun _ => rfl) (fun _ => (by simp [tagged, taggedL]))
  obtain ⟨data', ⟨hh0, _⟩, hc⟩ := hh
  exact ⟨data', hh0, hc⟩

theorem nearest_ok (s : Store) (feats : List Feat) (k : Int) (hst : okStore' s = true) (okf : okFeats feats 72 = true) (h18 : s.Templates.length ≤ 18) (hk : 1 ≤ k ∧ k ≤ 40) : ∃ (v : List Match), (v = nsL s feats k) ∧ Con Try.prog 38 [agStore s, slFeat false feats, I k] true (slMatch true v) := by
  have hh : ∃ r : (List Match), ((r = nsL s feats k) ∧ (True)) ∧ CallOK Try.prog 38 [agStore s, slFeat false feats, I k] (lookO []) true (slMatch true r) (lookO []) := by
    refine fn_okX (Φ := fun r : (List Match) => (r = nsL s feats k) ∧ (True)) [] (fun r => []) (fn := Try.f38) (nt := 19) Try.func38 rfl rfl (args := [agStore s, slFeat false feats, I k]) rfl (allcons (.inl ⟨rfl, by simp [tagged, taggedL, tagTemplate]⟩) (allcons (.inl ⟨rfl, tagFeat false _⟩) (allcons (.inl ⟨rfl, trivial⟩) allnil))) (res := fun r => slMatch true r) ?_
    refine xR [(0, .new 3)] [1, 2, 3] [3] [slFeat false feats, I k, .ref 3 0] [some (bxStore s)] [] trivial ?_
    refine x_seq ?_
    obtain ⟨ms_1, hx1_0, hc1⟩ := matchesOf_ok s feats hst okf h18
    have hml := mtS_len s feats s.Templates.length
    rw [← hx1_0] at hml
    have hms0 := hx1_0
    refine x_r [(2, .lend [] [(7211, .arr 2 ms_1.length (fMatch ms_1))] [(true, .any), (true, .any)] false (.arr 7211))] [2, 7] [7211] [I k, .arr 7211] [some (.arr 2 ms_1.length (fMatch ms_1))] [CallOK Try.prog 36 [agStore s, slFeat false feats] (lookO []) false (.arr 7211) (lookO [(7211, .arr 2 ms_1.length (fMatch ms_1))]) ∧ True] ⟨⟨hc1, trivial⟩, trivial⟩ ?_
    refine xe_then ?_
    refine x_seq ?_
    obtain ⟨data'_2, hx2_0, hc2⟩ := stMsort_ok ms_1 (by omega)
    have hsl : data'_2.length = ms_1.length := by rw [hx2_0, isoL_len]
    refine x_r [(1, .lend [(7211, .arr 2 ms_1.length (fMatch ms_1), .arr 2 data'_2.length (fMatch data'_2))] [] [(true, .any), (true, .any)] true (.tup []))] [2, 7] [7211] [I k, .arr 7211] [some (.arr 2 data'_2.length (fMatch data'_2))] [CallOK Try.prog 62 [.arr 7211, .fn 63 []] (lookO [(7211, .arr 2 ms_1.length (fMatch ms_1))]) true (.tup []) (lookO [(7211, .arr 2 data'_2.length (fMatch data'_2))]) ∧ (((.arr 2 ms_1.length (fMatch ms_1) : Ob) = .arr 2 ms_1.length (fMatch ms_1) ∨ obLe noOb true (.arr 2 ms_1.length (fMatch ms_1)) (.arr 2 ms_1.length (fMatch ms_1))) ∧ taggedO false (.arr 2 ms_1.length (fMatch ms_1))) ∧ True] ⟨⟨hc2, ⟨.inl rfl, fun _ _ => tagcMatch false _⟩, trivial⟩, trivial⟩ ?_
    refine xe_then ?_
    refine xR [] [6] [] [.sl true 2 ((min k (data'_2.length : Int)).toNat - 0) (cutF 0 (fMatch data'_2))] [] [(0 : Int) ≤ 0 ∧ (0 : Int) ≤ (min k (data'_2.length : Int)) ∧ (min k (data'_2.length : Int)) ≤ (data'_2.length : Int)] ⟨⟨(by omega), (by omega), (by omega)⟩, trivial⟩ ?_
    refine x_ret ?_
    refine xe_end (data'_2.take ((min k (data'_2.length : Int)).toNat)) (show ((data'_2.take ((min k (data'_2.length : Int)).toNat)) = nsL s feats k) ∧ (True) from ⟨(by (unfold nsL; simp only [← hms0]; rw [hx2_0, isoL_len])), trivial⟩) (trivial) (.sl true 2 ((min k (data'_2.length : Int)).toNat - 0) (cutF 0 (fMatch data'_2))) (by kernel_rfl) (.inr ⟨(fun _ => rfl), rfl, (by first | rfl | (simp; done) | (simp; omega) | omega), fun i_ hi_ => .inl (cut_take (enc := cMatch) hi_)⟩) (fun _ => rfl) (fun _ => (tagMatch true _))
  obtain ⟨v, ⟨hh0, _⟩, hc⟩ := hh
  exact ⟨v, hh0, hc⟩


-- impl.Nearest
theorem Nearest_ok (s : Store) (feats : List Feat) (k : Int) (hst : okStore' s = true) (okf : okFeats feats 72 = true) (h18 : s.Templates.length ≤ 18) (hk : 1 ≤ k ∧ k ≤ 40) (oks_ : okStore s) : ∃ (v : List Match) (c : Int), (v = nsL s feats k) ∧ (c = 0) ∧ Con Try.prog 17 [agStore s, slFeat false feats, I k] true (.tup [slMatch true v, I c]) := by
  have hh : ∃ r : (List Match) × Int, ((r.1 = nsL s feats k) ∧ (r.2 = 0) ∧ (True)) ∧ CallOK Try.prog 17 [agStore s, slFeat false feats, I k] (lookO []) true (.tup [slMatch true r.1, I r.2]) (lookO []) := by
    refine fn_okX (Φ := fun r : (List Match) × Int => (r.1 = nsL s feats k) ∧ (r.2 = 0) ∧ (True)) [] (fun r => []) (fn := Try.f17) (nt := 23) Try.func17 rfl rfl (args := [agStore s, slFeat false feats, I k]) rfl (allcons (.inl ⟨rfl, by simp [tagged, taggedL, tagTemplate]⟩) (allcons (.inl ⟨rfl, tagFeat false _⟩) (allcons (.inl ⟨rfl, trivial⟩) allnil))) (res := fun r => .tup [slMatch true r.1, I r.2]) ?_
    refine xR [(0, .new 3)] [1, 2, 3] [3] [slFeat false feats, I k, .ref 3 0] [some (bxStore s)] [] trivial ?_
    refine x_seq ?_
    refine xR [(1, .call [(true, .any)] true (Bv true)), (5, .call [(true, .any)] true (Bv true))] [1, 2, 3, 15] [3] [slFeat false feats, I k, .ref 3 0, Bv false] [some (bxStore s)] [Con Try.prog 34 [agStore s] true (Bv true) ∧ True, Con Try.prog 35 [slFeat false feats] true (Bv true) ∧ True] ⟨⟨(con_bool hst (ValidStore_ok s oks_)), trivial⟩, ⟨(con_bool okf (ValidSeq_ok feats)), trivial⟩, trivial⟩ ?_
    refine x_false rfl ?_
    refine x_skip ?_
    refine xe_then ?_
    refine x_seq ?_
    refine xR [(1, .call [(true, .any), (true, .any), (true, .any)] true (Bv true))] [1, 2, 3, 18] [3] [slFeat false feats, I k, .ref 3 0, Bv false] [some (bxStore s)] [Con Try.prog 37 [I k, I 1, I 40] true (Bv true) ∧ True] ⟨⟨(con_bool (inB_iff.2 (by omega)) (within_ok k 1 40)), trivial⟩, trivial⟩ ?_
    refine x_false rfl ?_
    refine x_skip ?_
    refine xe_then ?_
    refine x_seq ?_
    obtain ⟨v_1, hx1_0, hc1⟩ := nearest_ok s feats k hst okf h18 (by omega)
    refine x_r [(3, .call [(true, .any), (true, .any), (true, .any)] true (slMatch true v_1))] [6, 7] [] [slMatch true v_1, I 0] [] [Con Try.prog 38 [agStore s, slFeat false feats, I k] true (slMatch true v_1) ∧ True] ⟨⟨hc1, trivial⟩, trivial⟩ ?_
    refine xe_then ?_
    refine x_ret ?_
    refine xe_end (v_1, 0) (show (v_1 = nsL s feats k) ∧ (0 = 0) ∧ (True) from ⟨(by first | assumption | rfl), (by first | assumption | rfl), trivial⟩) (trivial) (.tup [slMatch true v_1, I 0]) (by kernel_rfl) (.inl rfl) (fun _ => rfl) (fun _ => (by simp [tagged, taggedL, tagMatch]))
  obtain ⟨⟨v, c⟩, ⟨hh0, hh1, _⟩, hc⟩ := hh
  exact ⟨v, c, hh0, hh1, hc⟩


/-- The vote of the nearest template. -/
def votL (s : Store) (fs : List Feat) : ByteArray := (at_ s.Templates (at_ (nsL s fs 1) 0).Index.toNat).Label
def votS (s : Store) (fs : List Feat) : ByteArray := if (nsL s fs 1).length = 0 then ⟨#[]⟩ else votL s fs
theorem at_one {α : Type} [Inhabited α] (p : α) : at_ [p] 0 = p := rfl
theorem firstN_0 (p : Nat → Bool) : firstN 0 p = -1 := rfl
/-- The polls after one vote. -/
theorem polls_1 {l : ByteArray} {c : Int} : (([poll.mk l 0 0] : List poll).set 0 (poll.mk l (0 + 1) 0)).set 0 (poll.mk l (0 + 1) (0 + c)) = [poll.mk l 1 c] := by simp
theorem nsL_at {s : Store} {fs : List Feat} {k : Int} {i : Nat} (h : i < (nsL s fs k).length) : ∃ j, j < s.Templates.length ∧ inS s fs j = true ∧ at_ (nsL s fs k) i = mtM s fs j := nsL_mem (at_mem h)

-- impl.vote$1
theorem vote1_ok (p : poll) (label : ByteArray) : Con Try.prog 65 [agpoll p, .ptr false [Sv label]] true (Bv (decide (p.label = label))) := by
  refine fn_ok (fn := Try.f65) (nt := 8) Try.func65 rfl rfl rfl rfl (by simp [taggedL, tagged]) fun B hB => ?_
  refine aR [(0, .new 2)] [1, 2] [2] [.ptr false [Sv label], .ref 2 0] [some (bxpoll p)] [] hB trivial ?_
  refine aR [] [3] [] [Bv (decide (p.label = label))] [] [] hB trivial ?_
  refine aw_ret ?_
  refine ae_ret hB (Bv (decide (p.label = label))) (by kernel_rfl) (.inl rfl) rfl (fun _ => trivial)


-- cmp.isNaN[string]
theorem isNaNS_ok (x : ByteArray) : Con Try.prog 86 [Sv x] true (Bv false) := by
  refine fn_ok (fn := Try.f86) (nt := 6) Try.func86 rfl rfl rfl rfl (by simp [taggedL, tagged]) fun B hB => ?_
  refine aR [] [0] [] [Sv x] [] [] hB trivial ?_
  refine aR [(2, .dec false)] [2] [] [Bv false] [] [¬ (x ≠ x)] hB ⟨(fun hq => hq rfl), trivial⟩ ?_
  refine aw_ret ?_
  refine ae_ret hB (Bv false) (by kernel_rfl) (.inl rfl) rfl (fun _ => trivial)


/-- Strings compared. -/
def cmpS (a b : ByteArray) : Int := if sless a b = true then -1 else if sless a b = false ∧ a ≠ b then 1 else 0
/-- The first number that is not 0. -/
def orL : List Int → Int
  | [] => 0
  | x :: r => if x = 0 then orL r else x
theorem orL_at [Inhabited Int] {xs : List Int} : ∀ {k : Nat}, k < xs.length → (∀ j, j < k → at_ xs j = 0) → at_ xs k ≠ 0 → orL xs = at_ xs k := by
  induction xs with
  | nil => intro k h; simp at h
  | cons x r ih =>
    intro k h h0 hk
    cases k with
    | zero => have e : at_ (x :: r) 0 = x := rfl; rw [e] at hk ⊢; exact if_neg hk
    | succ k =>
      have e : at_ (x :: r) (k + 1) = at_ r k := by simp [at_]
      have e0 : x = 0 := h0 0 (by omega)
      rw [e] at hk ⊢
      unfold orL; rw [if_pos e0]
      refine ih (by simpa using h) (fun j hj => ?_) hk
      have := h0 (j + 1) (by omega)
      simpa [at_] using this
theorem orL_none [Inhabited Int] {xs : List Int} : (∀ j, j < xs.length → at_ xs j = 0) → orL xs = 0 := by
  induction xs with
  | nil => intro _; rfl
  | cons x r ih =>
    intro h
    have e0 : x = 0 := h 0 (by simp)
    unfold orL; rw [if_pos e0]
    refine ih fun j hj => ?_
    have := h (j + 1) (by simp; omega)
    simpa [at_] using this

-- cmp.Compare[string]
theorem CompareS_ok (x : ByteArray) (y : ByteArray) : Con Try.prog 69 [Sv x, Sv y] true (I (cmpS x y)) := by
  refine fn_ok (fn := Try.f69) (nt := 20) Try.func69 rfl rfl rfl rfl (by simp [taggedL, tagged]) fun B hB => ?_
  refine aR [] [0, 1] [] [Sv x, Sv y] [] [] hB trivial ?_
  refine aR [(1, .call [(true, .any)] true (Bv false))] [0, 1, 5] [] [Sv x, Sv y, Bv false] [] [Con Try.prog 86 [Sv x] true (Bv false) ∧ True] hB ⟨⟨(isNaNS_ok x), trivial⟩, trivial⟩ ?_
  refine aR [(1, .call [(true, .any)] true (Bv false))] [0, 1, 5, 6] [] [Sv x, Sv y, Bv false, Bv false] [] [Con Try.prog 86 [Sv y] true (Bv false) ∧ True] hB ⟨⟨(isNaNS_ok y), trivial⟩, trivial⟩ ?_
  refine aw_seq ?_
  refine aR [] [0, 1, 6, 11] [] [Sv x, Sv y, Bv false, Bv false] [] [] hB trivial ?_
  refine aw_false rfl ?_
  refine aw_skip ?_
  refine ae_then ?_
  refine aw_seq ?_
  refine aR [] [0, 1, 13] [] [Sv x, Sv y, Bv false] [] [] hB trivial ?_
  refine aw_false rfl ?_
  refine aw_skip ?_
  refine ae_then ?_
  refine aw_seq ?_
  refine aw_seq ?_
  by_cases h1 : sless x y = true
  ·refine aw_r [(2, .dec true)] [0, 1, 16] [] [Sv x, Sv y, Bv true] [] [sless x y = true] hB ⟨h1, trivial⟩ ?_
   refine ae_then ?_
   refine aw_true rfl ?_
   refine aR [] [4] [] [I (-1)] [] [] hB trivial ?_
   refine aw_ret ?_
   refine ae_ret_then ?_
   refine ae_ret hB (I (-1)) (by kernel_rfl) (.inl (by refine congrArg I ?_; unfold cmpS; first | (rw [if_pos (by assumption)]; done) | (rw [if_neg (by assumption), if_pos (by assumption)]; done) | (rw [if_neg (by assumption), if_neg (by assumption)]; done))) rfl (fun _ => trivial)
  refine aw_r [(2, .dec false)] [0, 1, 16] [] [Sv x, Sv y, Bv false] [] [¬ (sless x y = true)] hB ⟨h1, trivial⟩ ?_
  refine ae_then ?_
  refine aw_false rfl ?_
  refine aw_skip ?_
  refine ae_then ?_
  refine aw_seq ?_
  refine aw_seq ?_
  by_cases h2 : sless x y = false ∧ x ≠ y
  ·refine aw_r [(2, .dec true)] [19] [] [Bv true] [] [sless x y = false ∧ x ≠ y] hB ⟨h2, trivial⟩ ?_
   refine ae_then ?_
   refine aw_true rfl ?_
   refine aR [] [4] [] [I 1] [] [] hB trivial ?_
   refine aw_ret ?_
   refine ae_ret_then ?_
   refine ae_ret hB (I 1) (by kernel_rfl) (.inl (by refine congrArg I ?_; unfold cmpS; first | (rw [if_pos (by assumption)]; done) | (rw [if_neg (by assumption), if_pos (by assumption)]; done) | (rw [if_neg (by assumption), if_neg (by assumption)]; done))) rfl (fun _ => trivial)
  refine aw_r [(2, .dec false)] [19] [] [Bv false] [] [¬ (sless x y = false ∧ x ≠ y)] hB ⟨h2, trivial⟩ ?_
  refine ae_then ?_
  refine aw_false rfl ?_
  refine aw_skip ?_
  refine ae_then ?_
  refine aR [] [4] [] [I 0] [] [] hB trivial ?_
  refine aw_ret ?_
  refine ae_ret hB (I 0) (by kernel_rfl) (.inl (by refine congrArg I ?_; unfold cmpS; first | (rw [if_pos (by assumption)]; done) | (rw [if_neg (by assumption), if_pos (by assumption)]; done) | (rw [if_neg (by assumption), if_neg (by assumption)]; done))) rfl (fun _ => trivial)


-- cmp.Or[int]
theorem OrI_ok (vals : List Int) : Con Try.prog 68 [slI false vals] true (I (orL vals)) := by
  refine fn_ok (fn := Try.f68) (nt := 18) Try.func68 rfl rfl rfl rfl (by simp [taggedL, tagged, tagI]) fun B hB => ?_
  refine aw_lens (x := slI false vals) 0 rfl (fun len_vals => ?_)
  simp [LenOK, LenL, cI, fI, slI] at len_vals
  refine aR [] [0] [] [slI false vals] [] [] hB trivial ?_
  refine aR [] [0, 3] [] [slI false vals, I 0] [] [] hB trivial ?_
  refine aw_seq ?_
  refine aR [] [3, 6, 7, 8] [] [I 0, slI false vals, I (vals.length : Int), I 0] [] [] hB trivial ?_
  refine aw_block ?_
  refine aw_loop (fun gn gσ => ∃ (t8 : Int), gn = ((vals.length : Int) - t8).toNat ∧ (0 ≤ t8 ∧ t8 ≤ (vals.length : Int)) ∧ (∀ j : Nat, (j : Int) < t8 → at_ vals j = 0) ∧ gσ = mkS [(3, I 0), (6, slI false vals), (7, I (vals.length : Int)), (8, I t8)] []) (((vals.length : Int) - 0).toNat) ⟨0, rfl, (by omega), (by intro j hj; omega), rfl⟩ (fun gn gσ hI => ?_)
  obtain ⟨t8, rfl, hi0, hz0, rfl⟩ := hI
  refine aw_seq ?_
  by_cases h1 : t8 < (vals.length : Int)
  ·have hi : t8.toNat < vals.length := by omega
   refine aw_r [(0, .dec true)] [3, 6, 7, 8, 9] [] [I 0, slI false vals, I (vals.length : Int), I t8, Bv true] [] [t8 < (vals.length : Int)] hB ⟨h1, trivial⟩ ?_
   refine ae_then ?_
   refine aw_seq ?_
   refine aw_true rfl ?_
   refine aw_skip ?_
   refine ae_then ?_
   refine aw_seq ?_
   refine aw_block ?_
   refine aR [] [3, 5, 6, 7, 8] [] [I 0, I (at_ vals t8.toNat), slI false vals, I (vals.length : Int), I t8] [] [(0 : Int) ≤ t8 ∧ t8 < (vals.length : Int)] hB ⟨⟨(by omega), (by omega)⟩, trivial⟩ ?_
   refine aw_seq ?_
   by_cases h2 : (at_ vals t8.toNat) = 0
   ·refine aw_r [(2, .dec false)] [3, 5, 6, 7, 8, 14] [] [I 0, I (at_ vals t8.toNat), slI false vals, I (vals.length : Int), I t8, Bv false] [] [¬ ((at_ vals t8.toNat) ≠ 0)] hB ⟨(fun hq => hq h2), trivial⟩ ?_
    refine ae_then ?_
    refine aw_false rfl ?_
    refine aw_skip ?_
    refine ae_block 1 ?_
    refine ae_then ?_
    refine aw_r [] [3, 6, 7, 8] [] [I 0, slI false vals, I (vals.length : Int), I (t8 + 1)] [] [inR .i64 (t8 + 1)] hB ⟨(inR_i64 (by omega) (by omega)), trivial⟩ ?_
    exact ae_again _ (by omega) ⟨(t8 + 1), rfl, (by omega), (by intro j hj; by_cases ej : j = t8.toNat; (subst ej; assumption); exact hz0 j (by omega)), rfl⟩
   refine aw_r [(2, .dec true)] [3, 5, 6, 7, 8, 14] [] [I 0, I (at_ vals t8.toNat), slI false vals, I (vals.length : Int), I t8, Bv true] [] [(at_ vals t8.toNat) ≠ 0] hB ⟨h2, trivial⟩ ?_
   refine ae_then ?_
   refine aw_true rfl ?_
   refine aR [] [2] [] [I (at_ vals t8.toNat)] [] [] hB trivial ?_
   refine aw_ret ?_
   refine ae_ret_block (ae_ret_then (ae_ret_then (ae_ret_block (ae_ret_then ?_))))
   refine ae_ret hB (I (at_ vals t8.toNat)) (by kernel_rfl) (.inl (by refine congrArg I ?_; first | (rw [orL_none (fun j hj => hz0 j (by omega))]; done) | (rw [orL_at hi (fun j hj => hz0 j (by omega)) (by assumption)]; done) | (rw [orL_at hi (fun j hj => hz0 j (by omega)) (by assumption)]))) rfl (fun _ => trivial)
  refine aw_r [(0, .dec false)] [3, 6, 7, 8, 9] [] [I 0, slI false vals, I (vals.length : Int), I t8, Bv false] [] [¬ (t8 < (vals.length : Int))] hB ⟨h1, trivial⟩ ?_
  refine ae_then ?_
  refine aw_seq ?_
  refine aw_false rfl ?_
  refine aw_exit ?_
  refine ae_exit_then ?_
  refine ae_exit_then ?_
  refine ae_exit_same ?_
  refine ae_then ?_
  refine aR [] [2] [] [I 0] [] [] hB trivial ?_
  refine aw_ret ?_
  refine ae_ret hB (I 0) (by kernel_rfl) (.inl (by refine congrArg I ?_; first | (rw [orL_none (fun j hj => hz0 j (by omega))]; done) | (rw [orL_at hi (fun j hj => hz0 j (by omega)) (by assumption)]; done) | (rw [orL_at hi (fun j hj => hz0 j (by omega)) (by assumption)]))) rfl (fun _ => trivial)


-- impl.vote
theorem idxPoll_ok (s : List poll) (label : ByteArray) : Con Try.prog 64 [slpoll false s, .fn 65 [.ptr false [Sv label]]] true (I (firstN s.length (fun j => decide ((at_ s j).label = label)))) := by
  refine fn_ok (fn := Try.f64) (nt := 19) Try.func64 rfl rfl rfl rfl (by simp [taggedL, tagged, tagpoll]) fun B hB => ?_
  refine aw_lens (x := slpoll false s) 0 rfl (fun len_s => ?_)
  simp [LenOK, LenL, cpoll, fpoll, slpoll] at len_s
  refine aR [] [0, 1] [] [slpoll false s, .fn 65 [.ptr false [Sv label]]] [] [] hB trivial ?_
  refine aw_seq ?_
  refine aR [] [0, 1, 7, 8] [] [slpoll false s, .fn 65 [.ptr false [Sv label]], I (s.length : Int), I 0] [] [] hB trivial ?_
  refine aw_block ?_
  refine aw_loop (fun gn gσ => ∃ (t8 : Int), gn = ((s.length : Int) - t8).toNat ∧ (0 ≤ t8 ∧ t8 ≤ (s.length : Int)) ∧ (∀ j : Nat, (j : Int) < t8 → decide ((at_ s j).label = label) = false) ∧ gσ = mkS [(0, slpoll false s), (1, .fn 65 [.ptr false [Sv label]]), (7, I (s.length : Int)), (8, I t8)] []) (((s.length : Int) - 0).toNat) ⟨0, rfl, (by omega), (by intro j hj; omega), rfl⟩ (fun gn gσ hI => ?_)
  obtain ⟨t8, rfl, hi0, hall0, rfl⟩ := hI
  refine aw_seq ?_
  by_cases h1 : t8 < (s.length : Int)
  ·have hi : t8.toNat < s.length := by omega
   refine aw_r [(0, .dec true)] [0, 1, 7, 8, 9] [] [slpoll false s, .fn 65 [.ptr false [Sv label]], I (s.length : Int), I t8, Bv true] [] [t8 < (s.length : Int)] hB ⟨h1, trivial⟩ ?_
   refine ae_then ?_
   refine aw_seq ?_
   refine aw_true rfl ?_
   refine aw_skip ?_
   refine ae_then ?_
   refine aw_seq ?_
   refine aw_block ?_
   refine aR [] [0, 1, 5, 7, 8] [] [slpoll false s, .fn 65 [.ptr false [Sv label]], I t8, I (s.length : Int), I t8] [] [] hB trivial ?_
   refine aw_seq ?_
   rcases Bool.eq_false_or_eq_true (decide ((at_ s t8.toNat).label = label)) with h2 | h2
   ·have hfin : firstN s.length (fun j => decide ((at_ s j).label = label)) = t8.toNat := firstN_hit hi h2 (fun j hj => hall0 j (by omega))
    refine aw_r [(5, .call [(true, .any), (true, .any)] true (Bv true))] [0, 1, 5, 7, 8, 16] [] [slpoll false s, .fn 65 [.ptr false [Sv label]], I t8, I (s.length : Int), I t8, Bv true] [] [(0 : Int) ≤ t8 ∧ t8 < (s.length : Int), Con Try.prog 65 [agpoll (at_ s t8.toNat), .ptr false [Sv label]] true (Bv true) ∧ True] hB ⟨⟨(by omega), (by omega)⟩, ⟨(con_bool h2 (vote1_ok (at_ s t8.toNat) label)), trivial⟩, trivial⟩ ?_
    refine ae_then ?_
    refine aw_true rfl ?_
    refine aR [] [4] [] [I t8] [] [] hB trivial ?_
    refine aw_ret ?_
    refine ae_ret_block (ae_ret_then (ae_ret_then (ae_ret_block (ae_ret_then ?_))))
    refine ae_ret hB (I t8) (by kernel_rfl) (.inl (by refine congrArg I ?_; first | (rw [hfin]; done) | (rw [hfin]; omega))) rfl (fun _ => trivial)
   refine aw_r [(5, .call [(true, .any), (true, .any)] true (Bv false))] [0, 1, 5, 7, 8, 16] [] [slpoll false s, .fn 65 [.ptr false [Sv label]], I t8, I (s.length : Int), I t8, Bv false] [] [(0 : Int) ≤ t8 ∧ t8 < (s.length : Int), Con Try.prog 65 [agpoll (at_ s t8.toNat), .ptr false [Sv label]] true (Bv false) ∧ True] hB ⟨⟨(by omega), (by omega)⟩, ⟨(con_bool h2 (vote1_ok (at_ s t8.toNat) label)), trivial⟩, trivial⟩ ?_
   refine ae_then ?_
   refine aw_false rfl ?_
   refine aw_skip ?_
   refine ae_block 1 ?_
   refine ae_then ?_
   refine aw_r [] [0, 1, 7, 8] [] [slpoll false s, .fn 65 [.ptr false [Sv label]], I (s.length : Int), I (t8 + 1)] [] [inR .i64 (t8 + 1)] hB ⟨(inR_i64 (by omega) (by omega)), trivial⟩ ?_
   exact ae_again _ (by omega) ⟨(t8 + 1), rfl, (by omega), (by intro j hj; by_cases ej : j = t8.toNat; (subst ej; assumption); exact hall0 j (by omega)), rfl⟩
  have hfin : firstN s.length (fun j => decide ((at_ s j).label = label)) = -1 := firstN_none (fun j hj => hall0 j (by omega))
  refine aw_r [(0, .dec false)] [0, 1, 7, 8, 9] [] [slpoll false s, .fn 65 [.ptr false [Sv label]], I (s.length : Int), I t8, Bv false] [] [¬ (t8 < (s.length : Int))] hB ⟨h1, trivial⟩ ?_
  refine ae_then ?_
  refine aw_seq ?_
  refine aw_false rfl ?_
  refine aw_exit ?_
  refine ae_exit_then ?_
  refine ae_exit_then ?_
  refine ae_exit_same ?_
  refine ae_then ?_
  refine aR [] [4] [] [I (-1)] [] [] hB trivial ?_
  refine aw_ret ?_
  refine ae_ret hB (I (-1)) (by kernel_rfl) (.inl (by refine congrArg I ?_; first | (rw [hfin]; done) | (rw [hfin]; omega))) rfl (fun _ => trivial)

theorem minPoll_ok (s : List poll) (h1 : s.length = 1) : Con Try.prog 66 [slpoll false s, .fn 67 []] true (agpoll (at_ s 0)) := by
  refine fn_ok (fn := Try.f66) (nt := 33) Try.func66 rfl rfl rfl rfl (by simp [taggedL, tagged, tagpoll]) fun B hB => ?_
  refine aw_lens (x := slpoll false s) 0 rfl (fun len_s => ?_)
  simp [LenOK, LenL, cpoll, fpoll, slpoll] at len_s
  refine aR [(0, .new 4)] [0, 1, 4] [4] [slpoll false s, .fn 67 [], .ref 4 0] [some (.box [Sv (⟨#[]⟩ : ByteArray), I 0, I 0])] [] hB trivial ?_
  refine aw_seq ?_
  refine aR [(2, .dec false)] [0, 1, 4, 9] [4] [slpoll false s, .fn 67 [], .ref 4 0, Bv false] [some (.box [Sv (⟨#[]⟩ : ByteArray), I 0, I 0])] [¬ ((s.length : Int) < 1)] hB ⟨(by omega), trivial⟩ ?_
  refine aw_false rfl ?_
  refine aw_skip ?_
  refine ae_then ?_
  refine aR [(3, .new 5)] [0, 1, 4, 5] [4, 5] [slpoll false s, .fn 67 [], .ref 4 0, .ref 5 0] [some (.box [Sv (⟨#[]⟩ : ByteArray), I 0, I 0]), some (bxpoll (at_ s 0))] [(0 : Int) ≤ 0 ∧ 0 < (s.length : Int)] hB ⟨⟨(by omega), (by omega)⟩, trivial⟩ ?_
  refine aw_seq ?_
  refine aR [] [0, 1, 4, 5, 6] [4, 5] [slpoll false s, .fn 67 [], .ref 4 0, .ref 5 0, I 1] [some (.box [Sv (⟨#[]⟩ : ByteArray), I 0, I 0]), some (bxpoll (at_ s 0))] [] hB trivial ?_
  refine aw_block ?_
  refine aw_loop (fun gn gσ => ∃ (i : Int) (m : poll), gn = (0 : Nat) ∧ (i = 1) ∧ (m = at_ s 0) ∧ gσ = mkS [(0, slpoll false s), (1, .fn 67 []), (4, .ref 4 0), (5, .ref 5 0), (6, I i)] [(4, .box [Sv (⟨#[]⟩ : ByteArray), I 0, I 0]), (5, bxpoll m)]) ((0 : Nat)) ⟨1, (at_ s 0), rfl, (by rfl), (by rfl), rfl⟩ (fun gn gσ hI => ?_)
  obtain ⟨i, m, rfl, hi1, hm0, rfl⟩ := hI
  refine aw_seq ?_
  refine aR [(3, .dec false)] [0, 1, 4, 5, 6, 17] [4, 5] [slpoll false s, .fn 67 [], .ref 4 0, .ref 5 0, I i, Bv false] [some (.box [Sv (⟨#[]⟩ : ByteArray), I 0, I 0]), some (bxpoll m)] [¬ (i < (s.length : Int))] hB ⟨(by omega), trivial⟩ ?_
  refine aw_false rfl ?_
  refine aw_exit ?_
  refine ae_exit_then ?_
  refine ae_exit_then ?_
  refine ae_exit_same ?_
  refine ae_then ?_
  refine aR [] [4] [4] [.ref 4 0] [some (bxpoll m)] [] hB trivial ?_
  refine aw_ret ?_
  refine ae_ret hB (agpoll m) (by kernel_rfl) (.inl (by (rw [hm0]))) rfl (fun _ => (by simp [tagged, taggedL]))

theorem vote_ok (s : Store) (feats : List Feat) (k : Int) (hst : okStore' s = true) (okf : okFeats feats 72 = true) (h18 : s.Templates.length ≤ 18) (hk : k = 1) : ∃ (v : ByteArray), (v = votS s feats) ∧ Con Try.prog 39 [agStore s, slFeat false feats, I k] true (Sv v) := by
  have hh : ∃ r : ByteArray, ((r = votS s feats) ∧ (True)) ∧ CallOK Try.prog 39 [agStore s, slFeat false feats, I k] (lookO []) true (Sv r) (lookO []) := by
    refine fn_okX (Φ := fun r : ByteArray => (r = votS s feats) ∧ (True)) [] (fun r => []) (fn := Try.f39) (nt := 65) Try.func39 rfl rfl (args := [agStore s, slFeat false feats, I k]) rfl (allcons (.inl ⟨rfl, by simp [tagged, taggedL, tagTemplate]⟩) (allcons (.inl ⟨rfl, tagFeat false _⟩) (allcons (.inl ⟨rfl, trivial⟩) allnil))) (res := fun r => Sv r) ?_
    refine xR [(0, .new 3)] [1, 2, 3] [3] [slFeat false feats, I k, .ref 3 0] [some (bxStore s)] [] trivial ?_
    refine xR [] [1, 2, 3, 7] [3] [slFeat false feats, I k, .ref 3 0, nilA] [some (bxStore s)] [] trivial ?_
    refine x_seq ?_
    refine x_seq ?_
    obtain ⟨v_1, hx1_0, hc1⟩ := nearest_ok s feats k hst okf h18 (by omega)
    have hvv : v_1 = nsL s feats 1 := by rw [hx1_0, hk]
    have hvl := nsL_len (s := s) (fs := feats) (k := 1) (by decide)
    rw [← hvv] at hvl
    refine x_r [(3, .call [(true, .any), (true, .any), (true, .any)] true (slMatch true v_1))] [3, 7, 15, 16, 17] [3] [.ref 3 0, nilA, slMatch true v_1, I (v_1.length : Int), I 0] [some (bxStore s)] [Con Try.prog 38 [agStore s, slFeat false feats, I k] true (slMatch true v_1) ∧ True] ⟨⟨hc1, trivial⟩, trivial⟩ ?_
    refine xe_then ?_
    refine x_block ?_
    refine x_nil 7 707 3 (fun _ => []) (by kernel_rfl) ?_
    refine x_weak [] (T := [(3, .ref 3 0), (7, .arr 707), (15, slMatch true v_1), (16, I (v_1.length : Int)), (17, I 0)]) (O := [(3, bxStore s), (707, .arr 3 (([] : List poll).length) (fpoll ([] : List poll)))]) rfl (⟨.inl rfl, .inl rfl, .inl rfl, .inl rfl, .inl rfl, trivial⟩) (⟨.inl rfl, .inr ⟨rfl, (by first | rfl | (simp; done) | (simp; omega) | omega), fun i_ hi_ => absurd hi_ (Nat.not_lt_zero _)⟩, trivial⟩) ?_
    refine x_loop (X := (List poll) × Int) (fun x => mkS [(3, .ref 3 0), (7, .arr 707), (15, slMatch true v_1), (16, I (v_1.length : Int)), (17, I x.2)] [(3, bxStore s), (707, .arr 3 x.1.length (fpoll x.1))]) (fun x => (0 ≤ x.2 ∧ x.2 ≤ (v_1.length : Int)) ∧ ((x.2 = 0 ∧ x.1 = []) ∨ (x.2 = 1 ∧ x.1 = [poll.mk (at_ s.Templates (at_ v_1 0).Index.toNat).Label 1 (at_ v_1 0).Cost])) ∧ True) (fun x => ((v_1.length : Int) - x.2).toNat) (([] : List poll), 0) rfl (show (0 ≤ (0 : Int) ∧ (0 : Int) ≤ (v_1.length : Int)) ∧ (((0 : Int) = 0 ∧ ([] : List poll) = []) ∨ ((0 : Int) = 1 ∧ ([] : List poll) = [poll.mk (at_ s.Templates (at_ v_1 0).Index.toNat).Label 1 (at_ v_1 0).Cost])) ∧ True from ⟨(by omega), (by exact .inl ⟨rfl, rfl⟩), trivial⟩) (fun x hI => ?_)
    obtain ⟨polls, t17⟩ := x
    obtain ⟨hi0, hpl, _⟩ : (0 ≤ t17 ∧ t17 ≤ (v_1.length : Int)) ∧ ((t17 = 0 ∧ polls = []) ∨ (t17 = 1 ∧ polls = [poll.mk (at_ s.Templates (at_ v_1 0).Index.toNat).Label 1 (at_ v_1 0).Cost])) ∧ True := hI
    show XW _ _ _ _ (mkS [(3, .ref 3 0), (7, .arr 707), (15, slMatch true v_1), (16, I (v_1.length : Int)), (17, I t17)] [(3, bxStore s), (707, .arr 3 polls.length (fpoll polls))]) _ _
    refine x_seq ?_
    by_cases h1 : t17 < (v_1.length : Int)
    ·have h17 : t17 = 0 := by omega
     have hpo : polls = [] := by rcases hpl with q | q; (exact q.2); (exact absurd q.1 (by omega))
     have hpn : polls.length = 0 := by rw [hpo]; rfl
     have hn1 : t17.toNat < v_1.length := by omega
     obtain ⟨j, hj1, hj2, hj3⟩ := nsL_at (s := s) (fs := feats) (k := 1) (i := t17.toNat) (by rw [← hvv]; exact hn1)
     rw [← hvv] at hj3
     have hj4 : (at_ v_1 t17.toNat).Index = (j : Int) := by rw [hj3]; rfl
     have hc5 := mt_cv okf ((okStore_iff.1 hst).2.2 j hj1) hj2
     have hj5 : (at_ v_1 t17.toNat).Cost = (mtM s feats j).Cost := by rw [hj3]
     refine x_r [(0, .dec true)] [3, 7, 15, 16, 17, 18] [3, 707] [.ref 3 0, .arr 707, slMatch true v_1, I (v_1.length : Int), I t17, Bv true] [some (bxStore s), some (.arr 3 polls.length (fpoll polls))] [t17 < (v_1.length : Int)] ⟨h1, trivial⟩ ?_
     refine xe_then ?_
     refine x_seq ?_
     refine x_true rfl ?_
     refine x_skip ?_
     refine xe_then ?_
     refine x_seq ?_
     refine x_block ?_
     refine xR [(2, .new 9)] [3, 7, 9, 15, 16, 17] [3, 9, 707] [.ref 3 0, .arr 707, .ref 9 0, slMatch true v_1, I (v_1.length : Int), I t17] [some (bxStore s), some (bxMatch (at_ v_1 t17.toNat)), some (.arr 3 polls.length (fpoll polls))] [(0 : Int) ≤ t17 ∧ t17 < (v_1.length : Int)] ⟨⟨(by (first | omega | (simp only [hpo, List.nil_append, List.length_nil, List.length_cons, List.set_cons_zero, Int.toNat_natCast, at_one, Nat.zero_add]; omega))), (by (first | omega | (simp only [hpo, List.nil_append, List.length_nil, List.length_cons, List.set_cons_zero, Int.toNat_natCast, at_one, Nat.zero_add]; omega)))⟩, trivial⟩ ?_
     refine xR [(7, .new 10)] [3, 7, 9, 10, 15, 16, 17] [3, 9, 10, 707] [.ref 3 0, .arr 707, .ref 9 0, .ref 10 0, slMatch true v_1, I (v_1.length : Int), I t17] [some (bxStore s), some (bxMatch (at_ v_1 t17.toNat)), some (.box [Sv ((at_ s.Templates (((at_ v_1 t17.toNat).Index).toNat)).Label)]), some (.arr 3 polls.length (fpoll polls))] [(0 : Int) ≤ ((at_ v_1 t17.toNat).Index) ∧ ((at_ v_1 t17.toNat).Index) < (s.Templates.length : Int)] ⟨⟨(by (first | omega | (simp only [hpo, List.nil_append, List.length_nil, List.length_cons, List.set_cons_zero, Int.toNat_natCast, at_one, Nat.zero_add]; omega))), (by (first | omega | (simp only [hpo, List.nil_append, List.length_nil, List.length_cons, List.set_cons_zero, Int.toNat_natCast, at_one, Nat.zero_add]; omega)))⟩, trivial⟩ ?_
     refine xR [(2, .call [(false, slpoll false polls), (false, .fn 65 [.ptr false [Sv ((at_ s.Templates (((at_ v_1 t17.toNat).Index).toNat)).Label)]])] true (I (firstN polls.length (fun j => decide ((at_ polls j).label = ((at_ s.Templates (((at_ v_1 t17.toNat).Index).toNat)).Label))))))] [3, 7, 9, 10, 11, 15, 16, 17] [3, 9, 10, 707] [.ref 3 0, .arr 707, .ref 9 0, .ref 10 0, I (firstN polls.length (fun j => decide ((at_ polls j).label = ((at_ s.Templates (((at_ v_1 t17.toNat).Index).toNat)).Label)))), slMatch true v_1, I (v_1.length : Int), I t17] [some (bxStore s), some (bxMatch (at_ v_1 t17.toNat)), some (.box [Sv ((at_ s.Templates (((at_ v_1 t17.toNat).Index).toNat)).Label)]), some (.arr 3 polls.length (fpoll polls))] [Con Try.prog 64 [slpoll false polls, .fn 65 [.ptr false [Sv ((at_ s.Templates (((at_ v_1 t17.toNat).Index).toNat)).Label)]]] true (I (firstN polls.length (fun j => decide ((at_ polls j).label = ((at_ s.Templates (((at_ v_1 t17.toNat).Index).toNat)).Label))))) ∧ ((false = true → true = true) ∧ 3 = 3 ∧ polls.length = polls.length ∧ ∀ i_, i_ < polls.length → (fpoll polls) i_ = (fpoll polls) i_ ∨ (AV.idsL ((fpoll polls) i_) = [] ∧ leL (fun _ => none) false ((fpoll polls) i_) ((fpoll polls) i_))) ∧ (65 = 65 ∧ ((false = true → true = true) ∧ AV.idsL [Sv ((at_ s.Templates (((at_ v_1 t17.toNat).Index).toNat)).Label)] = [] ∧ (valOf (Sv ((at_ s.Templates (((at_ v_1 t17.toNat).Index).toNat)).Label)) = valOf (Sv ((at_ s.Templates (((at_ v_1 t17.toNat).Index).toNat)).Label))) ∧ ([] : List AV) = []) ∧ ([] : List AV) = []) ∧ True] ⟨⟨(idxPoll_ok polls ((at_ s.Templates (((at_ v_1 t17.toNat).Index).toNat)).Label)), ⟨(fun h => by cases h), rfl, rfl, fun i _ => .inl rfl⟩, ⟨rfl, ⟨⟨(fun h => by cases h), rfl, ⟨rfl, rfl⟩⟩, rfl⟩⟩, trivial⟩, trivial⟩ ?_
     refine x_seq ?_
     refine xR [(1, .dec true)] [3, 7, 9, 10, 11, 15, 16, 17, 32] [3, 9, 10, 707] [.ref 3 0, .arr 707, .ref 9 0, .ref 10 0, I (firstN polls.length (fun j => decide ((at_ polls j).label = ((at_ s.Templates (((at_ v_1 t17.toNat).Index).toNat)).Label)))), slMatch true v_1, I (v_1.length : Int), I t17, Bv true] [some (bxStore s), some (bxMatch (at_ v_1 t17.toNat)), some (.box [Sv ((at_ s.Templates (((at_ v_1 t17.toNat).Index).toNat)).Label)]), some (.arr 3 polls.length (fpoll polls))] [(firstN polls.length (fun j => decide ((at_ polls j).label = ((at_ s.Templates (((at_ v_1 t17.toNat).Index).toNat)).Label)))) < 0] ⟨(by rw [hpn, firstN_0]; decide), trivial⟩ ?_
     refine x_true rfl ?_
     refine xR [] [3, 7, 9, 10, 11, 15, 16, 17] [3, 9, 10, 707] [.ref 3 0, .arr 707, .ref 9 0, .ref 10 0, I (polls.length : Int), slMatch true v_1, I (v_1.length : Int), I t17] [some (bxStore s), some (bxMatch (at_ v_1 t17.toNat)), some (.box [Sv ((at_ s.Templates (((at_ v_1 t17.toNat).Index).toNat)).Label)]), some (.arr 3 polls.length (fpoll polls))] [] trivial ?_
     refine x_r [(3, .new 38), (4, .new 39)] [3, 7, 9, 11, 15, 16, 17] [3, 9, 39] [.ref 3 0, .arr 39, .ref 9 0, I (polls.length : Int), slMatch true v_1, I (v_1.length : Int), I t17] [some (bxStore s), some (bxMatch (at_ v_1 t17.toNat)), some (.arr 3 (polls.length + 1) (catF polls.length (fpoll polls) (litF [Sv ((at_ s.Templates (((at_ v_1 t17.toNat).Index).toNat)).Label), I 0, I 0] 3)))] [(polls.length + 1) * 32 ≤ 140737488355328] ⟨(by (first | omega | (simp only [hpo, List.nil_append, List.length_nil, List.length_cons, List.set_cons_zero, Int.toNat_natCast, at_one, Nat.zero_add]; omega))), trivial⟩ ?_
     refine xe_then ?_
     refine x_seq ?_
     refine x_weak [] (T := [(3, .ref 3 0), (7, .arr 39), (9, .ref 9 0), (11, I (polls.length : Int)), (15, slMatch true v_1), (16, I (v_1.length : Int)), (17, I t17)]) (O := [(3, bxStore s), (9, bxMatch (at_ v_1 t17.toNat)), (39, .arr 3 ((polls ++ [(poll.mk ((at_ s.Templates (((at_ v_1 t17.toNat).Index).toNat)).Label) 0 0)]).length) (fpoll (polls ++ [(poll.mk ((at_ s.Templates (((at_ v_1 t17.toNat).Index).toNat)).Label) 0 0)])))]) rfl (⟨.inl rfl, .inl rfl, .inl rfl, .inl rfl, .inl rfl, .inl rfl, .inl rfl, trivial⟩) (⟨.inl rfl, .inl rfl, .inr ⟨rfl, (by first | rfl | (simp; done) | (simp; omega) | omega), fun i_ hi_ => .inl (cat_snoc (enc := cpoll) (xs := polls) rfl i_ hi_)⟩, trivial⟩) ?_
     refine x_r [] [3, 7, 9, 11, 15, 16, 17] [3, 9, 39] [.ref 3 0, .arr 39, .ref 9 0, I (polls.length : Int), slMatch true v_1, I (v_1.length : Int), I t17] [some (bxStore s), some (bxMatch (at_ v_1 t17.toNat)), some (.arr 3 ((polls ++ [(poll.mk ((at_ s.Templates (((at_ v_1 t17.toNat).Index).toNat)).Label) 0 0)]).length) (fun q => bif Nat.beq q ((polls.length : Int).toNat) then [Sv ((at_ (polls ++ [(poll.mk ((at_ s.Templates (((at_ v_1 t17.toNat).Index).toNat)).Label) 0 0)]) ((polls.length : Int).toNat)).label), I (((at_ (polls ++ [(poll.mk ((at_ s.Templates (((at_ v_1 t17.toNat).Index).toNat)).Label) 0 0)]) ((polls.length : Int).toNat)).votes) + 1), I ((at_ (polls ++ [(poll.mk ((at_ s.Templates (((at_ v_1 t17.toNat).Index).toNat)).Label) 0 0)]) ((polls.length : Int).toNat)).costs)] else (fpoll (polls ++ [(poll.mk ((at_ s.Templates (((at_ v_1 t17.toNat).Index).toNat)).Label) 0 0)])) q))] [(0 : Int) ≤ (polls.length : Int) ∧ (polls.length : Int) < (((polls ++ [(poll.mk ((at_ s.Templates (((at_ v_1 t17.toNat).Index).toNat)).Label) 0 0)]).length) : Int), (polls.length : Int).toNat < (polls ++ [(poll.mk ((at_ s.Templates (((at_ v_1 t17.toNat).Index).toNat)).Label) 0 0)]).length, inR .i64 (((at_ (polls ++ [(poll.mk ((at_ s.Templates (((at_ v_1 t17.toNat).Index).toNat)).Label) 0 0)]) ((polls.length : Int).toNat)).votes) + 1), (0 : Int) ≤ (polls.length : Int) ∧ (polls.length : Int) < (((polls ++ [(poll.mk ((at_ s.Templates (((at_ v_1 t17.toNat).Index).toNat)).Label) 0 0)]).length) : Int), (polls.length : Int).toNat < (polls ++ [(poll.mk ((at_ s.Templates (((at_ v_1 t17.toNat).Index).toNat)).Label) 0 0)]).length] ⟨⟨(by first | (first | omega | (simp only [hpo, List.nil_append, List.length_nil, List.length_cons, List.set_cons_zero, Int.toNat_natCast, at_one, Nat.zero_add]; omega)) | (simp; done) | (simp; omega)), (by first | (first | omega | (simp only [hpo, List.nil_append, List.length_nil, List.length_cons, List.set_cons_zero, Int.toNat_natCast, at_one, Nat.zero_add]; omega)) | (simp; done) | (simp; omega))⟩, (by first | (first | omega | (simp only [hpo, List.nil_append, List.length_nil, List.length_cons, List.set_cons_zero, Int.toNat_natCast, at_one, Nat.zero_add]; omega)) | (simp; done) | (simp; omega)), (inR_i64 (by (first | omega | (simp only [hpo, List.nil_append, List.length_nil, List.length_cons, List.set_cons_zero, Int.toNat_natCast, at_one, Nat.zero_add]; omega))) (by (first | omega | (simp only [hpo, List.nil_append, List.length_nil, List.length_cons, List.set_cons_zero, Int.toNat_natCast, at_one, Nat.zero_add]; omega)))), ⟨(by first | (first | omega | (simp only [hpo, List.nil_append, List.length_nil, List.length_cons, List.set_cons_zero, Int.toNat_natCast, at_one, Nat.zero_add]; omega)) | (simp; done) | (simp; omega)), (by first | (first | omega | (simp only [hpo, List.nil_append, List.length_nil, List.length_cons, List.set_cons_zero, Int.toNat_natCast, at_one, Nat.zero_add]; omega)) | (simp; done) | (simp; omega))⟩, (by first | (first | omega | (simp only [hpo, List.nil_append, List.length_nil, List.length_cons, List.set_cons_zero, Int.toNat_natCast, at_one, Nat.zero_add]; omega)) | (simp; done) | (simp; omega)), trivial⟩ ?_
     refine xe_then ?_
     refine x_weak [] (T := [(3, .ref 3 0), (7, .arr 39), (9, .ref 9 0), (11, I (polls.length : Int)), (15, slMatch true v_1), (16, I (v_1.length : Int)), (17, I t17)]) (O := [(3, bxStore s), (9, bxMatch (at_ v_1 t17.toNat)), (39, .arr 3 (((polls ++ [(poll.mk ((at_ s.Templates (((at_ v_1 t17.toNat).Index).toNat)).Label) 0 0)]).set ((polls.length : Int).toNat) (poll.mk ((at_ (polls ++ [(poll.mk ((at_ s.Templates (((at_ v_1 t17.toNat).Index).toNat)).Label) 0 0)]) ((polls.length : Int).toNat)).label) (((at_ (polls ++ [(poll.mk ((at_ s.Templates (((at_ v_1 t17.toNat).Index).toNat)).Label) 0 0)]) ((polls.length : Int).toNat)).votes) + 1) ((at_ (polls ++ [(poll.mk ((at_ s.Templates (((at_ v_1 t17.toNat).Index).toNat)).Label) 0 0)]) ((polls.length : Int).toNat)).costs))).length) (fpoll ((polls ++ [(poll.mk ((at_ s.Templates (((at_ v_1 t17.toNat).Index).toNat)).Label) 0 0)]).set ((polls.length : Int).toNat) (poll.mk ((at_ (polls ++ [(poll.mk ((at_ s.Templates (((at_ v_1 t17.toNat).Index).toNat)).Label) 0 0)]) ((polls.length : Int).toNat)).label) (((at_ (polls ++ [(poll.mk ((at_ s.Templates (((at_ v_1 t17.toNat).Index).toNat)).Label) 0 0)]) ((polls.length : Int).toNat)).votes) + 1) ((at_ (polls ++ [(poll.mk ((at_ s.Templates (((at_ v_1 t17.toNat).Index).toNat)).Label) 0 0)]) ((polls.length : Int).toNat)).costs)))))]) rfl (⟨.inl rfl, .inl rfl, .inl rfl, .inl rfl, .inl rfl, .inl rfl, .inl rfl, trivial⟩) (⟨.inl rfl, .inl rfl, .inr ⟨rfl, (by first | rfl | (simp; done) | (simp; omega) | omega), fun i_ hi_ => .inl (upd_enc (enc := cpoll) rfl i_ hi_)⟩, trivial⟩) ?_
     refine x_r [] [3, 7, 15, 16, 17] [3, 39] [.ref 3 0, .arr 39, slMatch true v_1, I (v_1.length : Int), I t17] [some (bxStore s), some (.arr 3 (((polls ++ [(poll.mk ((at_ s.Templates (((at_ v_1 t17.toNat).Index).toNat)).Label) 0 0)]).set ((polls.length : Int).toNat) (poll.mk ((at_ (polls ++ [(poll.mk ((at_ s.Templates (((at_ v_1 t17.toNat).Index).toNat)).Label) 0 0)]) ((polls.length : Int).toNat)).label) (((at_ (polls ++ [(poll.mk ((at_ s.Templates (((at_ v_1 t17.toNat).Index).toNat)).Label) 0 0)]) ((polls.length : Int).toNat)).votes) + 1) ((at_ (polls ++ [(poll.mk ((at_ s.Templates (((at_ v_1 t17.toNat).Index).toNat)).Label) 0 0)]) ((polls.length : Int).toNat)).costs))).length) (fun q => bif Nat.beq q ((polls.length : Int).toNat) then [Sv ((at_ ((polls ++ [(poll.mk ((at_ s.Templates (((at_ v_1 t17.toNat).Index).toNat)).Label) 0 0)]).set ((polls.length : Int).toNat) (poll.mk ((at_ (polls ++ [(poll.mk ((at_ s.Templates (((at_ v_1 t17.toNat).Index).toNat)).Label) 0 0)]) ((polls.length : Int).toNat)).label) (((at_ (polls ++ [(poll.mk ((at_ s.Templates (((at_ v_1 t17.toNat).Index).toNat)).Label) 0 0)]) ((polls.length : Int).toNat)).votes) + 1) ((at_ (polls ++ [(poll.mk ((at_ s.Templates (((at_ v_1 t17.toNat).Index).toNat)).Label) 0 0)]) ((polls.length : Int).toNat)).costs))) ((polls.length : Int).toNat)).label), I ((at_ ((polls ++ [(poll.mk ((at_ s.Templates (((at_ v_1 t17.toNat).Index).toNat)).Label) 0 0)]).set ((polls.length : Int).toNat) (poll.mk ((at_ (polls ++ [(poll.mk ((at_ s.Templates (((at_ v_1 t17.toNat).Index).toNat)).Label) 0 0)]) ((polls.length : Int).toNat)).label) (((at_ (polls ++ [(poll.mk ((at_ s.Templates (((at_ v_1 t17.toNat).Index).toNat)).Label) 0 0)]) ((polls.length : Int).toNat)).votes) + 1) ((at_ (polls ++ [(poll.mk ((at_ s.Templates (((at_ v_1 t17.toNat).Index).toNat)).Label) 0 0)]) ((polls.length : Int).toNat)).costs))) ((polls.length : Int).toNat)).votes), I (((at_ ((polls ++ [(poll.mk ((at_ s.Templates (((at_ v_1 t17.toNat).Index).toNat)).Label) 0 0)]).set ((polls.length : Int).toNat) (poll.mk ((at_ (polls ++ [(poll.mk ((at_ s.Templates (((at_ v_1 t17.toNat).Index).toNat)).Label) 0 0)]) ((polls.length : Int).toNat)).label) (((at_ (polls ++ [(poll.mk ((at_ s.Templates (((at_ v_1 t17.toNat).Index).toNat)).Label) 0 0)]) ((polls.length : Int).toNat)).votes) + 1) ((at_ (polls ++ [(poll.mk ((at_ s.Templates (((at_ v_1 t17.toNat).Index).toNat)).Label) 0 0)]) ((polls.length : Int).toNat)).costs))) ((polls.length : Int).toNat)).costs) + ((at_ v_1 t17.toNat).Cost))] else (fpoll ((polls ++ [(poll.mk ((at_ s.Templates (((at_ v_1 t17.toNat).Index).toNat)).Label) 0 0)]).set ((polls.length : Int).toNat) (poll.mk ((at_ (polls ++ [(poll.mk ((at_ s.Templates (((at_ v_1 t17.toNat).Index).toNat)).Label) 0 0)]) ((polls.length : Int).toNat)).label) (((at_ (polls ++ [(poll.mk ((at_ s.Templates (((at_ v_1 t17.toNat).Index).toNat)).Label) 0 0)]) ((polls.length : Int).toNat)).votes) + 1) ((at_ (polls ++ [(poll.mk ((at_ s.Templates (((at_ v_1 t17.toNat).Index).toNat)).Label) 0 0)]) ((polls.length : Int).toNat)).costs)))) q))] [(0 : Int) ≤ (polls.length : Int) ∧ (polls.length : Int) < ((((polls ++ [(poll.mk ((at_ s.Templates (((at_ v_1 t17.toNat).Index).toNat)).Label) 0 0)]).set ((polls.length : Int).toNat) (poll.mk ((at_ (polls ++ [(poll.mk ((at_ s.Templates (((at_ v_1 t17.toNat).Index).toNat)).Label) 0 0)]) ((polls.length : Int).toNat)).label) (((at_ (polls ++ [(poll.mk ((at_ s.Templates (((at_ v_1 t17.toNat).Index).toNat)).Label) 0 0)]) ((polls.length : Int).toNat)).votes) + 1) ((at_ (polls ++ [(poll.mk ((at_ s.Templates (((at_ v_1 t17.toNat).Index).toNat)).Label) 0 0)]) ((polls.length : Int).toNat)).costs))).length) : Int), (polls.length : Int).toNat < ((polls ++ [(poll.mk ((at_ s.Templates (((at_ v_1 t17.toNat).Index).toNat)).Label) 0 0)]).set ((polls.length : Int).toNat) (poll.mk ((at_ (polls ++ [(poll.mk ((at_ s.Templates (((at_ v_1 t17.toNat).Index).toNat)).Label) 0 0)]) ((polls.length : Int).toNat)).label) (((at_ (polls ++ [(poll.mk ((at_ s.Templates (((at_ v_1 t17.toNat).Index).toNat)).Label) 0 0)]) ((polls.length : Int).toNat)).votes) + 1) ((at_ (polls ++ [(poll.mk ((at_ s.Templates (((at_ v_1 t17.toNat).Index).toNat)).Label) 0 0)]) ((polls.length : Int).toNat)).costs))).length, inR .i64 (((at_ ((polls ++ [(poll.mk ((at_ s.Templates (((at_ v_1 t17.toNat).Index).toNat)).Label) 0 0)]).set ((polls.length : Int).toNat) (poll.mk ((at_ (polls ++ [(poll.mk ((at_ s.Templates (((at_ v_1 t17.toNat).Index).toNat)).Label) 0 0)]) ((polls.length : Int).toNat)).label) (((at_ (polls ++ [(poll.mk ((at_ s.Templates (((at_ v_1 t17.toNat).Index).toNat)).Label) 0 0)]) ((polls.length : Int).toNat)).votes) + 1) ((at_ (polls ++ [(poll.mk ((at_ s.Templates (((at_ v_1 t17.toNat).Index).toNat)).Label) 0 0)]) ((polls.length : Int).toNat)).costs))) ((polls.length : Int).toNat)).costs) + ((at_ v_1 t17.toNat).Cost)), (0 : Int) ≤ (polls.length : Int) ∧ (polls.length : Int) < ((((polls ++ [(poll.mk ((at_ s.Templates (((at_ v_1 t17.toNat).Index).toNat)).Label) 0 0)]).set ((polls.length : Int).toNat) (poll.mk ((at_ (polls ++ [(poll.mk ((at_ s.Templates (((at_ v_1 t17.toNat).Index).toNat)).Label) 0 0)]) ((polls.length : Int).toNat)).label) (((at_ (polls ++ [(poll.mk ((at_ s.Templates (((at_ v_1 t17.toNat).Index).toNat)).Label) 0 0)]) ((polls.length : Int).toNat)).votes) + 1) ((at_ (polls ++ [(poll.mk ((at_ s.Templates (((at_ v_1 t17.toNat).Index).toNat)).Label) 0 0)]) ((polls.length : Int).toNat)).costs))).length) : Int), (polls.length : Int).toNat < ((polls ++ [(poll.mk ((at_ s.Templates (((at_ v_1 t17.toNat).Index).toNat)).Label) 0 0)]).set ((polls.length : Int).toNat) (poll.mk ((at_ (polls ++ [(poll.mk ((at_ s.Templates (((at_ v_1 t17.toNat).Index).toNat)).Label) 0 0)]) ((polls.length : Int).toNat)).label) (((at_ (polls ++ [(poll.mk ((at_ s.Templates (((at_ v_1 t17.toNat).Index).toNat)).Label) 0 0)]) ((polls.length : Int).toNat)).votes) + 1) ((at_ (polls ++ [(poll.mk ((at_ s.Templates (((at_ v_1 t17.toNat).Index).toNat)).Label) 0 0)]) ((polls.length : Int).toNat)).costs))).length] ⟨⟨(by first | (first | omega | (simp only [hpo, List.nil_append, List.length_nil, List.length_cons, List.set_cons_zero, Int.toNat_natCast, at_one, Nat.zero_add]; omega)) | (simp only [List.length_set]; (first | omega | (simp only [hpo, List.nil_append, List.length_nil, List.length_cons, List.set_cons_zero, Int.toNat_natCast, at_one, Nat.zero_add]; omega)))), (by first | (first | omega | (simp only [hpo, List.nil_append, List.length_nil, List.length_cons, List.set_cons_zero, Int.toNat_natCast, at_one, Nat.zero_add]; omega)) | (simp only [List.length_set]; (first | omega | (simp only [hpo, List.nil_append, List.length_nil, List.length_cons, List.set_cons_zero, Int.toNat_natCast, at_one, Nat.zero_add]; omega))))⟩, (by first | (first | omega | (simp only [hpo, List.nil_append, List.length_nil, List.length_cons, List.set_cons_zero, Int.toNat_natCast, at_one, Nat.zero_add]; omega)) | (simp only [List.length_set]; (first | omega | (simp only [hpo, List.nil_append, List.length_nil, List.length_cons, List.set_cons_zero, Int.toNat_natCast, at_one, Nat.zero_add]; omega)))), (inR_i64 (by (first | omega | (simp only [hpo, List.nil_append, List.length_nil, List.length_cons, List.set_cons_zero, Int.toNat_natCast, at_one, Nat.zero_add]; omega))) (by (first | omega | (simp only [hpo, List.nil_append, List.length_nil, List.length_cons, List.set_cons_zero, Int.toNat_natCast, at_one, Nat.zero_add]; omega)))), ⟨(by first | (first | omega | (simp only [hpo, List.nil_append, List.length_nil, List.length_cons, List.set_cons_zero, Int.toNat_natCast, at_one, Nat.zero_add]; omega)) | (simp only [List.length_set]; (first | omega | (simp only [hpo, List.nil_append, List.length_nil, List.length_cons, List.set_cons_zero, Int.toNat_natCast, at_one, Nat.zero_add]; omega)))), (by first | (first | omega | (simp only [hpo, List.nil_append, List.length_nil, List.length_cons, List.set_cons_zero, Int.toNat_natCast, at_one, Nat.zero_add]; omega)) | (simp only [List.length_set]; (first | omega | (simp only [hpo, List.nil_append, List.length_nil, List.length_cons, List.set_cons_zero, Int.toNat_natCast, at_one, Nat.zero_add]; omega))))⟩, (by first | (first | omega | (simp only [hpo, List.nil_append, List.length_nil, List.length_cons, List.set_cons_zero, Int.toNat_natCast, at_one, Nat.zero_add]; omega)) | (simp only [List.length_set]; (first | omega | (simp only [hpo, List.nil_append, List.length_nil, List.length_cons, List.set_cons_zero, Int.toNat_natCast, at_one, Nat.zero_add]; omega)))), trivial⟩ ?_
     refine xe_block 1 ?_
     refine xe_then ?_
     refine x_weak [] (T := [(3, .ref 3 0), (7, .arr 39), (15, slMatch true v_1), (16, I (v_1.length : Int)), (17, I t17)]) (O := [(3, bxStore s), (39, .arr 3 ((((polls ++ [(poll.mk ((at_ s.Templates (((at_ v_1 t17.toNat).Index).toNat)).Label) 0 0)]).set ((polls.length : Int).toNat) (poll.mk ((at_ (polls ++ [(poll.mk ((at_ s.Templates (((at_ v_1 t17.toNat).Index).toNat)).Label) 0 0)]) ((polls.length : Int).toNat)).label) (((at_ (polls ++ [(poll.mk ((at_ s.Templates (((at_ v_1 t17.toNat).Index).toNat)).Label) 0 0)]) ((polls.length : Int).toNat)).votes) + 1) ((at_ (polls ++ [(poll.mk ((at_ s.Templates (((at_ v_1 t17.toNat).Index).toNat)).Label) 0 0)]) ((polls.length : Int).toNat)).costs))).set ((polls.length : Int).toNat) (poll.mk ((at_ ((polls ++ [(poll.mk ((at_ s.Templates (((at_ v_1 t17.toNat).Index).toNat)).Label) 0 0)]).set ((polls.length : Int).toNat) (poll.mk ((at_ (polls ++ [(poll.mk ((at_ s.Templates (((at_ v_1 t17.toNat).Index).toNat)).Label) 0 0)]) ((polls.length : Int).toNat)).label) (((at_ (polls ++ [(poll.mk ((at_ s.Templates (((at_ v_1 t17.toNat).Index).toNat)).Label) 0 0)]) ((polls.length : Int).toNat)).votes) + 1) ((at_ (polls ++ [(poll.mk ((at_ s.Templates (((at_ v_1 t17.toNat).Index).toNat)).Label) 0 0)]) ((polls.length : Int).toNat)).costs))) ((polls.length : Int).toNat)).label) ((at_ ((polls ++ [(poll.mk ((at_ s.Templates (((at_ v_1 t17.toNat).Index).toNat)).Label) 0 0)]).set ((polls.length : Int).toNat) (poll.mk ((at_ (polls ++ [(poll.mk ((at_ s.Templates (((at_ v_1 t17.toNat).Index).toNat)).Label) 0 0)]) ((polls.length : Int).toNat)).label) (((at_ (polls ++ [(poll.mk ((at_ s.Templates (((at_ v_1 t17.toNat).Index).toNat)).Label) 0 0)]) ((polls.length : Int).toNat)).votes) + 1) ((at_ (polls ++ [(poll.mk ((at_ s.Templates (((at_ v_1 t17.toNat).Index).toNat)).Label) 0 0)]) ((polls.length : Int).toNat)).costs))) ((polls.length : Int).toNat)).votes) (((at_ ((polls ++ [(poll.mk ((at_ s.Templates (((at_ v_1 t17.toNat).Index).toNat)).Label) 0 0)]).set ((polls.length : Int).toNat) (poll.mk ((at_ (polls ++ [(poll.mk ((at_ s.Templates (((at_ v_1 t17.toNat).Index).toNat)).Label) 0 0)]) ((polls.length : Int).toNat)).label) (((at_ (polls ++ [(poll.mk ((at_ s.Templates (((at_ v_1 t17.toNat).Index).toNat)).Label) 0 0)]) ((polls.length : Int).toNat)).votes) + 1) ((at_ (polls ++ [(poll.mk ((at_ s.Templates (((at_ v_1 t17.toNat).Index).toNat)).Label) 0 0)]) ((polls.length : Int).toNat)).costs))) ((polls.length : Int).toNat)).costs) + ((at_ v_1 t17.toNat).Cost)))).length) (fpoll (((polls ++ [(poll.mk ((at_ s.Templates (((at_ v_1 t17.toNat).Index).toNat)).Label) 0 0)]).set ((polls.length : Int).toNat) (poll.mk ((at_ (polls ++ [(poll.mk ((at_ s.Templates (((at_ v_1 t17.toNat).Index).toNat)).Label) 0 0)]) ((polls.length : Int).toNat)).label) (((at_ (polls ++ [(poll.mk ((at_ s.Templates (((at_ v_1 t17.toNat).Index).toNat)).Label) 0 0)]) ((polls.length : Int).toNat)).votes) + 1) ((at_ (polls ++ [(poll.mk ((at_ s.Templates (((at_ v_1 t17.toNat).Index).toNat)).Label) 0 0)]) ((polls.length : Int).toNat)).costs))).set ((polls.length : Int).toNat) (poll.mk ((at_ ((polls ++ [(poll.mk ((at_ s.Templates (((at_ v_1 t17.toNat).Index).toNat)).Label) 0 0)]).set ((polls.length : Int).toNat) (poll.mk ((at_ (polls ++ [(poll.mk ((at_ s.Templates (((at_ v_1 t17.toNat).Index).toNat)).Label) 0 0)]) ((polls.length : Int).toNat)).label) (((at_ (polls ++ [(poll.mk ((at_ s.Templates (((at_ v_1 t17.toNat).Index).toNat)).Label) 0 0)]) ((polls.length : Int).toNat)).votes) + 1) ((at_ (polls ++ [(poll.mk ((at_ s.Templates (((at_ v_1 t17.toNat).Index).toNat)).Label) 0 0)]) ((polls.length : Int).toNat)).costs))) ((polls.length : Int).toNat)).label) ((at_ ((polls ++ [(poll.mk ((at_ s.Templates (((at_ v_1 t17.toNat).Index).toNat)).Label) 0 0)]).set ((polls.length : Int).toNat) (poll.mk ((at_ (polls ++ [(poll.mk ((at_ s.Templates (((at_ v_1 t17.toNat).Index).toNat)).Label) 0 0)]) ((polls.length : Int).toNat)).label) (((at_ (polls ++ [(poll.mk ((at_ s.Templates (((at_ v_1 t17.toNat).Index).toNat)).Label) 0 0)]) ((polls.length : Int).toNat)).votes) + 1) ((at_ (polls ++ [(poll.mk ((at_ s.Templates (((at_ v_1 t17.toNat).Index).toNat)).Label) 0 0)]) ((polls.length : Int).toNat)).costs))) ((polls.length : Int).toNat)).votes) (((at_ ((polls ++ [(poll.mk ((at_ s.Templates (((at_ v_1 t17.toNat).Index).toNat)).Label) 0 0)]).set ((polls.length : Int).toNat) (poll.mk ((at_ (polls ++ [(poll.mk ((at_ s.Templates (((at_ v_1 t17.toNat).Index).toNat)).Label) 0 0)]) ((polls.length : Int).toNat)).label) (((at_ (polls ++ [(poll.mk ((at_ s.Templates (((at_ v_1 t17.toNat).Index).toNat)).Label) 0 0)]) ((polls.length : Int).toNat)).votes) + 1) ((at_ (polls ++ [(poll.mk ((at_ s.Templates (((at_ v_1 t17.toNat).Index).toNat)).Label) 0 0)]) ((polls.length : Int).toNat)).costs))) ((polls.length : Int).toNat)).costs) + ((at_ v_1 t17.toNat).Cost))))))]) rfl (⟨.inl rfl, .inl rfl, .inl rfl, .inl rfl, .inl rfl, trivial⟩) (⟨.inl rfl, .inr ⟨rfl, (by first | rfl | (simp; done) | (simp; omega) | omega), fun i_ hi_ => .inl (upd_enc (enc := cpoll) rfl i_ hi_)⟩, trivial⟩) ?_
     refine x_r [] [3, 7, 15, 16, 17] [3, 39] [.ref 3 0, .arr 39, slMatch true v_1, I (v_1.length : Int), I (t17 + 1)] [some (bxStore s), some (.arr 3 ((((polls ++ [(poll.mk ((at_ s.Templates (((at_ v_1 t17.toNat).Index).toNat)).Label) 0 0)]).set ((polls.length : Int).toNat) (poll.mk ((at_ (polls ++ [(poll.mk ((at_ s.Templates (((at_ v_1 t17.toNat).Index).toNat)).Label) 0 0)]) ((polls.length : Int).toNat)).label) (((at_ (polls ++ [(poll.mk ((at_ s.Templates (((at_ v_1 t17.toNat).Index).toNat)).Label) 0 0)]) ((polls.length : Int).toNat)).votes) + 1) ((at_ (polls ++ [(poll.mk ((at_ s.Templates (((at_ v_1 t17.toNat).Index).toNat)).Label) 0 0)]) ((polls.length : Int).toNat)).costs))).set ((polls.length : Int).toNat) (poll.mk ((at_ ((polls ++ [(poll.mk ((at_ s.Templates (((at_ v_1 t17.toNat).Index).toNat)).Label) 0 0)]).set ((polls.length : Int).toNat) (poll.mk ((at_ (polls ++ [(poll.mk ((at_ s.Templates (((at_ v_1 t17.toNat).Index).toNat)).Label) 0 0)]) ((polls.length : Int).toNat)).label) (((at_ (polls ++ [(poll.mk ((at_ s.Templates (((at_ v_1 t17.toNat).Index).toNat)).Label) 0 0)]) ((polls.length : Int).toNat)).votes) + 1) ((at_ (polls ++ [(poll.mk ((at_ s.Templates (((at_ v_1 t17.toNat).Index).toNat)).Label) 0 0)]) ((polls.length : Int).toNat)).costs))) ((polls.length : Int).toNat)).label) ((at_ ((polls ++ [(poll.mk ((at_ s.Templates (((at_ v_1 t17.toNat).Index).toNat)).Label) 0 0)]).set ((polls.length : Int).toNat) (poll.mk ((at_ (polls ++ [(poll.mk ((at_ s.Templates (((at_ v_1 t17.toNat).Index).toNat)).Label) 0 0)]) ((polls.length : Int).toNat)).label) (((at_ (polls ++ [(poll.mk ((at_ s.Templates (((at_ v_1 t17.toNat).Index).toNat)).Label) 0 0)]) ((polls.length : Int).toNat)).votes) + 1) ((at_ (polls ++ [(poll.mk ((at_ s.Templates (((at_ v_1 t17.toNat).Index).toNat)).Label) 0 0)]) ((polls.length : Int).toNat)).costs))) ((polls.length : Int).toNat)).votes) (((at_ ((polls ++ [(poll.mk ((at_ s.Templates (((at_ v_1 t17.toNat).Index).toNat)).Label) 0 0)]).set ((polls.length : Int).toNat) (poll.mk ((at_ (polls ++ [(poll.mk ((at_ s.Templates (((at_ v_1 t17.toNat).Index).toNat)).Label) 0 0)]) ((polls.length : Int).toNat)).label) (((at_ (polls ++ [(poll.mk ((at_ s.Templates (((at_ v_1 t17.toNat).Index).toNat)).Label) 0 0)]) ((polls.length : Int).toNat)).votes) + 1) ((at_ (polls ++ [(poll.mk ((at_ s.Templates (((at_ v_1 t17.toNat).Index).toNat)).Label) 0 0)]) ((polls.length : Int).toNat)).costs))) ((polls.length : Int).toNat)).costs) + ((at_ v_1 t17.toNat).Cost)))).length) (fpoll (((polls ++ [(poll.mk ((at_ s.Templates (((at_ v_1 t17.toNat).Index).toNat)).Label) 0 0)]).set ((polls.length : Int).toNat) (poll.mk ((at_ (polls ++ [(poll.mk ((at_ s.Templates (((at_ v_1 t17.toNat).Index).toNat)).Label) 0 0)]) ((polls.length : Int).toNat)).label) (((at_ (polls ++ [(poll.mk ((at_ s.Templates (((at_ v_1 t17.toNat).Index).toNat)).Label) 0 0)]) ((polls.length : Int).toNat)).votes) + 1) ((at_ (polls ++ [(poll.mk ((at_ s.Templates (((at_ v_1 t17.toNat).Index).toNat)).Label) 0 0)]) ((polls.length : Int).toNat)).costs))).set ((polls.length : Int).toNat) (poll.mk ((at_ ((polls ++ [(poll.mk ((at_ s.Templates (((at_ v_1 t17.toNat).Index).toNat)).Label) 0 0)]).set ((polls.length : Int).toNat) (poll.mk ((at_ (polls ++ [(poll.mk ((at_ s.Templates (((at_ v_1 t17.toNat).Index).toNat)).Label) 0 0)]) ((polls.length : Int).toNat)).label) (((at_ (polls ++ [(poll.mk ((at_ s.Templates (((at_ v_1 t17.toNat).Index).toNat)).Label) 0 0)]) ((polls.length : Int).toNat)).votes) + 1) ((at_ (polls ++ [(poll.mk ((at_ s.Templates (((at_ v_1 t17.toNat).Index).toNat)).Label) 0 0)]) ((polls.length : Int).toNat)).costs))) ((polls.length : Int).toNat)).label) ((at_ ((polls ++ [(poll.mk ((at_ s.Templates (((at_ v_1 t17.toNat).Index).toNat)).Label) 0 0)]).set ((polls.length : Int).toNat) (poll.mk ((at_ (polls ++ [(poll.mk ((at_ s.Templates (((at_ v_1 t17.toNat).Index).toNat)).Label) 0 0)]) ((polls.length : Int).toNat)).label) (((at_ (polls ++ [(poll.mk ((at_ s.Templates (((at_ v_1 t17.toNat).Index).toNat)).Label) 0 0)]) ((polls.length : Int).toNat)).votes) + 1) ((at_ (polls ++ [(poll.mk ((at_ s.Templates (((at_ v_1 t17.toNat).Index).toNat)).Label) 0 0)]) ((polls.length : Int).toNat)).costs))) ((polls.length : Int).toNat)).votes) (((at_ ((polls ++ [(poll.mk ((at_ s.Templates (((at_ v_1 t17.toNat).Index).toNat)).Label) 0 0)]).set ((polls.length : Int).toNat) (poll.mk ((at_ (polls ++ [(poll.mk ((at_ s.Templates (((at_ v_1 t17.toNat).Index).toNat)).Label) 0 0)]) ((polls.length : Int).toNat)).label) (((at_ (polls ++ [(poll.mk ((at_ s.Templates (((at_ v_1 t17.toNat).Index).toNat)).Label) 0 0)]) ((polls.length : Int).toNat)).votes) + 1) ((at_ (polls ++ [(poll.mk ((at_ s.Templates (((at_ v_1 t17.toNat).Index).toNat)).Label) 0 0)]) ((polls.length : Int).toNat)).costs))) ((polls.length : Int).toNat)).costs) + ((at_ v_1 t17.toNat).Cost))))))] [inR .i64 (t17 + 1)] ⟨(inR_i64 (by (first | omega | (simp only [hpo, List.nil_append, List.length_nil, List.length_cons, List.set_cons_zero, Int.toNat_natCast, at_one, Nat.zero_add]; omega))) (by (first | omega | (simp only [hpo, List.nil_append, List.length_nil, List.length_cons, List.set_cons_zero, Int.toNat_natCast, at_one, Nat.zero_add]; omega)))), trivial⟩ ?_
     refine xe_weak [(707, 39)] (T := [(3, .ref 3 0), (7, .arr 707), (15, slMatch true v_1), (16, I (v_1.length : Int)), (17, I (t17 + 1))]) (O := [(3, bxStore s), (707, .arr 3 ((((polls ++ [(poll.mk ((at_ s.Templates (((at_ v_1 t17.toNat).Index).toNat)).Label) 0 0)]).set ((polls.length : Int).toNat) (poll.mk ((at_ (polls ++ [(poll.mk ((at_ s.Templates (((at_ v_1 t17.toNat).Index).toNat)).Label) 0 0)]) ((polls.length : Int).toNat)).label) (((at_ (polls ++ [(poll.mk ((at_ s.Templates (((at_ v_1 t17.toNat).Index).toNat)).Label) 0 0)]) ((polls.length : Int).toNat)).votes) + 1) ((at_ (polls ++ [(poll.mk ((at_ s.Templates (((at_ v_1 t17.toNat).Index).toNat)).Label) 0 0)]) ((polls.length : Int).toNat)).costs))).set ((polls.length : Int).toNat) (poll.mk ((at_ ((polls ++ [(poll.mk ((at_ s.Templates (((at_ v_1 t17.toNat).Index).toNat)).Label) 0 0)]).set ((polls.length : Int).toNat) (poll.mk ((at_ (polls ++ [(poll.mk ((at_ s.Templates (((at_ v_1 t17.toNat).Index).toNat)).Label) 0 0)]) ((polls.length : Int).toNat)).label) (((at_ (polls ++ [(poll.mk ((at_ s.Templates (((at_ v_1 t17.toNat).Index).toNat)).Label) 0 0)]) ((polls.length : Int).toNat)).votes) + 1) ((at_ (polls ++ [(poll.mk ((at_ s.Templates (((at_ v_1 t17.toNat).Index).toNat)).Label) 0 0)]) ((polls.length : Int).toNat)).costs))) ((polls.length : Int).toNat)).label) ((at_ ((polls ++ [(poll.mk ((at_ s.Templates (((at_ v_1 t17.toNat).Index).toNat)).Label) 0 0)]).set ((polls.length : Int).toNat) (poll.mk ((at_ (polls ++ [(poll.mk ((at_ s.Templates (((at_ v_1 t17.toNat).Index).toNat)).Label) 0 0)]) ((polls.length : Int).toNat)).label) (((at_ (polls ++ [(poll.mk ((at_ s.Templates (((at_ v_1 t17.toNat).Index).toNat)).Label) 0 0)]) ((polls.length : Int).toNat)).votes) + 1) ((at_ (polls ++ [(poll.mk ((at_ s.Templates (((at_ v_1 t17.toNat).Index).toNat)).Label) 0 0)]) ((polls.length : Int).toNat)).costs))) ((polls.length : Int).toNat)).votes) (((at_ ((polls ++ [(poll.mk ((at_ s.Templates (((at_ v_1 t17.toNat).Index).toNat)).Label) 0 0)]).set ((polls.length : Int).toNat) (poll.mk ((at_ (polls ++ [(poll.mk ((at_ s.Templates (((at_ v_1 t17.toNat).Index).toNat)).Label) 0 0)]) ((polls.length : Int).toNat)).label) (((at_ (polls ++ [(poll.mk ((at_ s.Templates (((at_ v_1 t17.toNat).Index).toNat)).Label) 0 0)]) ((polls.length : Int).toNat)).votes) + 1) ((at_ (polls ++ [(poll.mk ((at_ s.Templates (((at_ v_1 t17.toNat).Index).toNat)).Label) 0 0)]) ((polls.length : Int).toNat)).costs))) ((polls.length : Int).toNat)).costs) + ((at_ v_1 t17.toNat).Cost)))).length) (fpoll (((polls ++ [(poll.mk ((at_ s.Templates (((at_ v_1 t17.toNat).Index).toNat)).Label) 0 0)]).set ((polls.length : Int).toNat) (poll.mk ((at_ (polls ++ [(poll.mk ((at_ s.Templates (((at_ v_1 t17.toNat).Index).toNat)).Label) 0 0)]) ((polls.length : Int).toNat)).label) (((at_ (polls ++ [(poll.mk ((at_ s.Templates (((at_ v_1 t17.toNat).Index).toNat)).Label) 0 0)]) ((polls.length : Int).toNat)).votes) + 1) ((at_ (polls ++ [(poll.mk ((at_ s.Templates (((at_ v_1 t17.toNat).Index).toNat)).Label) 0 0)]) ((polls.length : Int).toNat)).costs))).set ((polls.length : Int).toNat) (poll.mk ((at_ ((polls ++ [(poll.mk ((at_ s.Templates (((at_ v_1 t17.toNat).Index).toNat)).Label) 0 0)]).set ((polls.length : Int).toNat) (poll.mk ((at_ (polls ++ [(poll.mk ((at_ s.Templates (((at_ v_1 t17.toNat).Index).toNat)).Label) 0 0)]) ((polls.length : Int).toNat)).label) (((at_ (polls ++ [(poll.mk ((at_ s.Templates (((at_ v_1 t17.toNat).Index).toNat)).Label) 0 0)]) ((polls.length : Int).toNat)).votes) + 1) ((at_ (polls ++ [(poll.mk ((at_ s.Templates (((at_ v_1 t17.toNat).Index).toNat)).Label) 0 0)]) ((polls.length : Int).toNat)).costs))) ((polls.length : Int).toNat)).label) ((at_ ((polls ++ [(poll.mk ((at_ s.Templates (((at_ v_1 t17.toNat).Index).toNat)).Label) 0 0)]).set ((polls.length : Int).toNat) (poll.mk ((at_ (polls ++ [(poll.mk ((at_ s.Templates (((at_ v_1 t17.toNat).Index).toNat)).Label) 0 0)]) ((polls.length : Int).toNat)).label) (((at_ (polls ++ [(poll.mk ((at_ s.Templates (((at_ v_1 t17.toNat).Index).toNat)).Label) 0 0)]) ((polls.length : Int).toNat)).votes) + 1) ((at_ (polls ++ [(poll.mk ((at_ s.Templates (((at_ v_1 t17.toNat).Index).toNat)).Label) 0 0)]) ((polls.length : Int).toNat)).costs))) ((polls.length : Int).toNat)).votes) (((at_ ((polls ++ [(poll.mk ((at_ s.Templates (((at_ v_1 t17.toNat).Index).toNat)).Label) 0 0)]).set ((polls.length : Int).toNat) (poll.mk ((at_ (polls ++ [(poll.mk ((at_ s.Templates (((at_ v_1 t17.toNat).Index).toNat)).Label) 0 0)]) ((polls.length : Int).toNat)).label) (((at_ (polls ++ [(poll.mk ((at_ s.Templates (((at_ v_1 t17.toNat).Index).toNat)).Label) 0 0)]) ((polls.length : Int).toNat)).votes) + 1) ((at_ (polls ++ [(poll.mk ((at_ s.Templates (((at_ v_1 t17.toNat).Index).toNat)).Label) 0 0)]) ((polls.length : Int).toNat)).costs))) ((polls.length : Int).toNat)).costs) + ((at_ v_1 t17.toNat).Cost))))))]) rfl (⟨.inl rfl, .inl rfl, .inl rfl, .inl rfl, .inl rfl, trivial⟩) (⟨.inl rfl, .inl rfl, trivial⟩) (xe_again ((((polls ++ [(poll.mk ((at_ s.Templates (((at_ v_1 t17.toNat).Index).toNat)).Label) 0 0)]).set ((polls.length : Int).toNat) (poll.mk ((at_ (polls ++ [(poll.mk ((at_ s.Templates (((at_ v_1 t17.toNat).Index).toNat)).Label) 0 0)]) ((polls.length : Int).toNat)).label) (((at_ (polls ++ [(poll.mk ((at_ s.Templates (((at_ v_1 t17.toNat).Index).toNat)).Label) 0 0)]) ((polls.length : Int).toNat)).votes) + 1) ((at_ (polls ++ [(poll.mk ((at_ s.Templates (((at_ v_1 t17.toNat).Index).toNat)).Label) 0 0)]) ((polls.length : Int).toNat)).costs))).set ((polls.length : Int).toNat) (poll.mk ((at_ ((polls ++ [(poll.mk ((at_ s.Templates (((at_ v_1 t17.toNat).Index).toNat)).Label) 0 0)]).set ((polls.length : Int).toNat) (poll.mk ((at_ (polls ++ [(poll.mk ((at_ s.Templates (((at_ v_1 t17.toNat).Index).toNat)).Label) 0 0)]) ((polls.length : Int).toNat)).label) (((at_ (polls ++ [(poll.mk ((at_ s.Templates (((at_ v_1 t17.toNat).Index).toNat)).Label) 0 0)]) ((polls.length : Int).toNat)).votes) + 1) ((at_ (polls ++ [(poll.mk ((at_ s.Templates (((at_ v_1 t17.toNat).Index).toNat)).Label) 0 0)]) ((polls.length : Int).toNat)).costs))) ((polls.length : Int).toNat)).label) ((at_ ((polls ++ [(poll.mk ((at_ s.Templates (((at_ v_1 t17.toNat).Index).toNat)).Label) 0 0)]).set ((polls.length : Int).toNat) (poll.mk ((at_ (polls ++ [(poll.mk ((at_ s.Templates (((at_ v_1 t17.toNat).Index).toNat)).Label) 0 0)]) ((polls.length : Int).toNat)).label) (((at_ (polls ++ [(poll.mk ((at_ s.Templates (((at_ v_1 t17.toNat).Index).toNat)).Label) 0 0)]) ((polls.length : Int).toNat)).votes) + 1) ((at_ (polls ++ [(poll.mk ((at_ s.Templates (((at_ v_1 t17.toNat).Index).toNat)).Label) 0 0)]) ((polls.length : Int).toNat)).costs))) ((polls.length : Int).toNat)).votes) (((at_ ((polls ++ [(poll.mk ((at_ s.Templates (((at_ v_1 t17.toNat).Index).toNat)).Label) 0 0)]).set ((polls.length : Int).toNat) (poll.mk ((at_ (polls ++ [(poll.mk ((at_ s.Templates (((at_ v_1 t17.toNat).Index).toNat)).Label) 0 0)]) ((polls.length : Int).toNat)).label) (((at_ (polls ++ [(poll.mk ((at_ s.Templates (((at_ v_1 t17.toNat).Index).toNat)).Label) 0 0)]) ((polls.length : Int).toNat)).votes) + 1) ((at_ (polls ++ [(poll.mk ((at_ s.Templates (((at_ v_1 t17.toNat).Index).toNat)).Label) 0 0)]) ((polls.length : Int).toNat)).costs))) ((polls.length : Int).toNat)).costs) + ((at_ v_1 t17.toNat).Cost)))), (t17 + 1)) rfl (show (0 ≤ (t17 + 1) ∧ (t17 + 1) ≤ (v_1.length : Int)) ∧ (((t17 + 1) = 0 ∧ (((polls ++ [(poll.mk ((at_ s.Templates (((at_ v_1 t17.toNat).Index).toNat)).Label) 0 0)]).set ((polls.length : Int).toNat) (poll.mk ((at_ (polls ++ [(poll.mk ((at_ s.Templates (((at_ v_1 t17.toNat).Index).toNat)).Label) 0 0)]) ((polls.length : Int).toNat)).label) (((at_ (polls ++ [(poll.mk ((at_ s.Templates (((at_ v_1 t17.toNat).Index).toNat)).Label) 0 0)]) ((polls.length : Int).toNat)).votes) + 1) ((at_ (polls ++ [(poll.mk ((at_ s.Templates (((at_ v_1 t17.toNat).Index).toNat)).Label) 0 0)]) ((polls.length : Int).toNat)).costs))).set ((polls.length : Int).toNat) (poll.mk ((at_ ((polls ++ [(poll.mk ((at_ s.Templates (((at_ v_1 t17.toNat).Index).toNat)).Label) 0 0)]).set ((polls.length : Int).toNat) (poll.mk ((at_ (polls ++ [(poll.mk ((at_ s.Templates (((at_ v_1 t17.toNat).Index).toNat)).Label) 0 0)]) ((polls.length : Int).toNat)).label) (((at_ (polls ++ [(poll.mk ((at_ s.Templates (((at_ v_1 t17.toNat).Index).toNat)).Label) 0 0)]) ((polls.length : Int).toNat)).votes) + 1) ((at_ (polls ++ [(poll.mk ((at_ s.Templates (((at_ v_1 t17.toNat).Index).toNat)).Label) 0 0)]) ((polls.length : Int).toNat)).costs))) ((polls.length : Int).toNat)).label) ((at_ ((polls ++ [(poll.mk ((at_ s.Templates (((at_ v_1 t17.toNat).Index).toNat)).Label) 0 0)]).set ((polls.length : Int).toNat) (poll.mk ((at_ (polls ++ [(poll.mk ((at_ s.Templates (((at_ v_1 t17.toNat).Index).toNat)).Label) 0 0)]) ((polls.length : Int).toNat)).label) (((at_ (polls ++ [(poll.mk ((at_ s.Templates (((at_ v_1 t17.toNat).Index).toNat)).Label) 0 0)]) ((polls.length : Int).toNat)).votes) + 1) ((at_ (polls ++ [(poll.mk ((at_ s.Templates (((at_ v_1 t17.toNat).Index).toNat)).Label) 0 0)]) ((polls.length : Int).toNat)).costs))) ((polls.length : Int).toNat)).votes) (((at_ ((polls ++ [(poll.mk ((at_ s.Templates (((at_ v_1 t17.toNat).Index).toNat)).Label) 0 0)]).set ((polls.length : Int).toNat) (poll.mk ((at_ (polls ++ [(poll.mk ((at_ s.Templates (((at_ v_1 t17.toNat).Index).toNat)).Label) 0 0)]) ((polls.length : Int).toNat)).label) (((at_ (polls ++ [(poll.mk ((at_ s.Templates (((at_ v_1 t17.toNat).Index).toNat)).Label) 0 0)]) ((polls.length : Int).toNat)).votes) + 1) ((at_ (polls ++ [(poll.mk ((at_ s.Templates (((at_ v_1 t17.toNat).Index).toNat)).Label) 0 0)]) ((polls.length : Int).toNat)).costs))) ((polls.length : Int).toNat)).costs) + ((at_ v_1 t17.toNat).Cost)))) = []) ∨ ((t17 + 1) = 1 ∧ (((polls ++ [(poll.mk ((at_ s.Templates (((at_ v_1 t17.toNat).Index).toNat)).Label) 0 0)]).set ((polls.length : Int).toNat) (poll.mk ((at_ (polls ++ [(poll.mk ((at_ s.Templates (((at_ v_1 t17.toNat).Index).toNat)).Label) 0 0)]) ((polls.length : Int).toNat)).label) (((at_ (polls ++ [(poll.mk ((at_ s.Templates (((at_ v_1 t17.toNat).Index).toNat)).Label) 0 0)]) ((polls.length : Int).toNat)).votes) + 1) ((at_ (polls ++ [(poll.mk ((at_ s.Templates (((at_ v_1 t17.toNat).Index).toNat)).Label) 0 0)]) ((polls.length : Int).toNat)).costs))).set ((polls.length : Int).toNat) (poll.mk ((at_ ((polls ++ [(poll.mk ((at_ s.Templates (((at_ v_1 t17.toNat).Index).toNat)).Label) 0 0)]).set ((polls.length : Int).toNat) (poll.mk ((at_ (polls ++ [(poll.mk ((at_ s.Templates (((at_ v_1 t17.toNat).Index).toNat)).Label) 0 0)]) ((polls.length : Int).toNat)).label) (((at_ (polls ++ [(poll.mk ((at_ s.Templates (((at_ v_1 t17.toNat).Index).toNat)).Label) 0 0)]) ((polls.length : Int).toNat)).votes) + 1) ((at_ (polls ++ [(poll.mk ((at_ s.Templates (((at_ v_1 t17.toNat).Index).toNat)).Label) 0 0)]) ((polls.length : Int).toNat)).costs))) ((polls.length : Int).toNat)).label) ((at_ ((polls ++ [(poll.mk ((at_ s.Templates (((at_ v_1 t17.toNat).Index).toNat)).Label) 0 0)]).set ((polls.length : Int).toNat) (poll.mk ((at_ (polls ++ [(poll.mk ((at_ s.Templates (((at_ v_1 t17.toNat).Index).toNat)).Label) 0 0)]) ((polls.length : Int).toNat)).label) (((at_ (polls ++ [(poll.mk ((at_ s.Templates (((at_ v_1 t17.toNat).Index).toNat)).Label) 0 0)]) ((polls.length : Int).toNat)).votes) + 1) ((at_ (polls ++ [(poll.mk ((at_ s.Templates (((at_ v_1 t17.toNat).Index).toNat)).Label) 0 0)]) ((polls.length : Int).toNat)).costs))) ((polls.length : Int).toNat)).votes) (((at_ ((polls ++ [(poll.mk ((at_ s.Templates (((at_ v_1 t17.toNat).Index).toNat)).Label) 0 0)]).set ((polls.length : Int).toNat) (poll.mk ((at_ (polls ++ [(poll.mk ((at_ s.Templates (((at_ v_1 t17.toNat).Index).toNat)).Label) 0 0)]) ((polls.length : Int).toNat)).label) (((at_ (polls ++ [(poll.mk ((at_ s.Templates (((at_ v_1 t17.toNat).Index).toNat)).Label) 0 0)]) ((polls.length : Int).toNat)).votes) + 1) ((at_ (polls ++ [(poll.mk ((at_ s.Templates (((at_ v_1 t17.toNat).Index).toNat)).Label) 0 0)]) ((polls.length : Int).toNat)).costs))) ((polls.length : Int).toNat)).costs) + ((at_ v_1 t17.toNat).Cost)))) = [poll.mk (at_ s.Templates (at_ v_1 0).Index.toNat).Label 1 (at_ v_1 0).Cost])) ∧ True from ⟨(by omega), (by exact .inr ⟨by omega, by subst h17; simp only [hpo, List.nil_append, List.length_nil, List.length_cons, List.set_cons_zero, Int.toNat_natCast, at_one, Nat.zero_add]; simp⟩), trivial⟩) (by first | (show (((v_1.length : Int) - (t17 + 1)).toNat : Nat) < ((v_1.length : Int) - t17).toNat; omega) | (dsimp only; omega)))
    have he17 : t17 = (v_1.length : Int) := by omega
    refine x_r [(0, .dec false)] [3, 7, 15, 16, 17, 18] [3, 707] [.ref 3 0, .arr 707, slMatch true v_1, I (v_1.length : Int), I t17, Bv false] [some (bxStore s), some (.arr 3 polls.length (fpoll polls))] [¬ (t17 < (v_1.length : Int))] ⟨h1, trivial⟩ ?_
    refine xe_then ?_
    refine x_seq ?_
    refine x_false rfl ?_
    refine x_exit ?_
    refine xe_exit_then ?_
    refine xe_loop_exit ?_
    refine xe_exit_same ?_
    refine xe_then ?_
    refine x_seq ?_
    refine x_seq ?_
    by_cases h2 : (polls.length : Int) = 0
    ·have hv0 : v_1.length = 0 := by rcases hpl with q | q; (omega); (rw [q.2] at h2; simp at h2)
     refine x_r [(2, .dec true)] [7, 61] [707] [.arr 707, Bv true] [some (.arr 3 polls.length (fpoll polls))] [(polls.length : Int) = 0] ⟨h2, trivial⟩ ?_
     refine xe_then ?_
     refine x_true rfl ?_
     refine xR [] [6] [] [Sv (⟨#[]⟩ : ByteArray)] [] [] trivial ?_
     refine x_ret ?_
     refine xe_ret_then ?_
     refine xe_end (⟨#[]⟩ : ByteArray) (show ((⟨#[]⟩ : ByteArray) = votS s feats) ∧ (True) from ⟨(by first | (unfold votS; rw [← hvv, if_pos hv0]) | (unfold votS votL; rw [← hvv, if_neg (by omega), hv1.2]; rfl)), trivial⟩) (trivial) (Sv (⟨#[]⟩ : ByteArray)) (by kernel_rfl) (.inl rfl) (fun _ => rfl) (fun _ => trivial)
    have hv1 : v_1.length = 1 ∧ polls = [poll.mk (at_ s.Templates (at_ v_1 0).Index.toNat).Label 1 (at_ v_1 0).Cost] := by rcases hpl with q | q; (exact absurd (by rw [q.2]; rfl) h2); (exact ⟨by omega, q.2⟩)
    have hpn1 : polls.length = 1 := by rw [hv1.2]; rfl
    refine x_r [(2, .dec false)] [7, 61] [707] [.arr 707, Bv false] [some (.arr 3 polls.length (fpoll polls))] [¬ ((polls.length : Int) = 0)] ⟨h2, trivial⟩ ?_
    refine xe_then ?_
    refine x_false rfl ?_
    refine x_skip ?_
    refine xe_then ?_
    refine xR [(1, .call [(false, slpoll false polls), (true, .any)] true (agpoll (at_ polls 0)))] [6] [] [Sv ((at_ polls 0).label)] [] [Con Try.prog 66 [slpoll false polls, .fn 67 []] true (agpoll (at_ polls 0)) ∧ ((false = true → true = true) ∧ 3 = 3 ∧ polls.length = polls.length ∧ ∀ i_, i_ < polls.length → (fpoll polls) i_ = (fpoll polls) i_ ∨ (AV.idsL ((fpoll polls) i_) = [] ∧ leL (fun _ => none) false ((fpoll polls) i_) ((fpoll polls) i_))) ∧ True] ⟨⟨(minPoll_ok polls (by omega)), ⟨(fun h => by cases h), rfl, rfl, fun i _ => .inl rfl⟩, trivial⟩, trivial⟩ ?_
    refine x_ret ?_
    refine xe_end ((at_ polls 0).label) (show (((at_ polls 0).label) = votS s feats) ∧ (True) from ⟨(by first | (unfold votS; rw [← hvv, if_pos hv0]) | (unfold votS votL; rw [← hvv, if_neg (by omega), hv1.2]; rfl)), trivial⟩) (trivial) (Sv ((at_ polls 0).label)) (by kernel_rfl) (.inl rfl) (fun _ => rfl) (fun _ => trivial)
  obtain ⟨v, ⟨hh0, _⟩, hc⟩ := hh
  exact ⟨v, hh0, hc⟩


theorem match_ext {a b : Match} (h1 : a.Index = b.Index) (h2 : a.Cost = b.Cost) : a = b := by cases a; cases b; simp_all
theorem mem_at' {α : Type} [Inhabited α] {xs : List α} {x : α} (h : x ∈ xs) : ∃ i, i < xs.length ∧ at_ xs i = x := by
  obtain ⟨i, hi, e⟩ := List.getElem_of_mem h
  exact ⟨i, hi, by rw [at_eq hi]; exact e⟩
theorem okS_size {s : Store} (h : okStore' s = true) : okStore s := fun t ht => by
  obtain ⟨i, hi, rfl⟩ := mem_at' ht
  have q := (okStore_iff.1 h).2.2 i hi
  simp only [okTm, okLabel, Bool.and_eq_true, decide_eq_true_eq] at q
  unfold okTemplate; omega
theorem okS_of {s : Store} (h1 : 2 ≤ s.Band ∧ s.Band ≤ 7) (h2 : s.Templates.length ≤ 6) (h3 : ∀ t ∈ s.Templates, okTm t = true) : okStore' s = true := okStore_iff.2 ⟨by omega, by omega, fun j hj => h3 _ (at_mem hj)⟩
theorem ns_none {s : Store} {fs : List Feat} {k : Int} (hk : 1 ≤ k) : (nsL s fs k).length = 0 ↔ (mtS s fs s.Templates.length).length = 0 := by
  have := nsL_len (s := s) (fs := fs) (k := k) (by omega)
  omega
/-- A nearest match. -/
theorem ns_at {s : Store} {fs : List Feat} {k : Int} {i : Nat} (hs : okStore' s = true) (hf : okFeats fs 72 = true) (h : i < (nsL s fs k).length) : (0 ≤ (at_ (nsL s fs k) i).Index ∧ (at_ (nsL s fs k) i).Index < (s.Templates.length : Int)) ∧ elR fs (at_ s.Templates (at_ (nsL s fs k) i).Index.toNat).Feats s.Band = ((at_ (nsL s fs k) i).Cost, 0) := by
  obtain ⟨j, h1, h2, h3⟩ := nsL_at h
  have c := mt_cv hf ((okStore_iff.1 hs).2.2 j h1) h2
  rw [h3]
  have e : (mtM s fs j).Index = (j : Int) := rfl
  rw [e]
  exact ⟨⟨by omega, by omega⟩, c.2.1⟩
theorem votL_ok {s : Store} {fs : List Feat} (hs : okStore' s = true) (h : (nsL s fs 1).length ≠ 0) : (votL s fs).size = 1 := by
  obtain ⟨j, h1, h2, h3⟩ := nsL_at (s := s) (fs := fs) (k := 1) (i := 0) (by omega)
  have q := (okStore_iff.1 hs).2.2 j h1
  unfold votL
  rw [h3]
  have e : (mtM s fs j).Index = (j : Int) := rfl
  rw [e, Int.toNat_natCast]
  simp only [okTm, okLabel, Bool.and_eq_true, decide_eq_true_eq] at q
  exact q.1.1

-- impl.Vote
theorem Vote_ok (s : Store) (feats : List Feat) (k : Int) (hst : okStore' s = true) (okf : okFeats feats 72 = true) (h18 : s.Templates.length ≤ 18) (hk : k = 1) (oks_ : okStore s) : ∃ (v : ByteArray) (c : Int), (v = votS s feats) ∧ (c = if (nsL s feats 1).length = 0 then 3 else 0) ∧ Con Try.prog 18 [agStore s, slFeat false feats, I k] true (.tup [Sv v, I c]) := by
  have hh : ∃ r : ByteArray × Int, ((r.1 = votS s feats) ∧ (r.2 = if (nsL s feats 1).length = 0 then 3 else 0) ∧ (True)) ∧ CallOK Try.prog 18 [agStore s, slFeat false feats, I k] (lookO []) true (.tup [Sv r.1, I r.2]) (lookO []) := by
    refine fn_okX (Φ := fun r : ByteArray × Int => (r.1 = votS s feats) ∧ (r.2 = if (nsL s feats 1).length = 0 then 3 else 0) ∧ (True)) [] (fun r => []) (fn := Try.f18) (nt := 29) Try.func18 rfl rfl (args := [agStore s, slFeat false feats, I k]) rfl (allcons (.inl ⟨rfl, by simp [tagged, taggedL, tagTemplate]⟩) (allcons (.inl ⟨rfl, tagFeat false _⟩) (allcons (.inl ⟨rfl, trivial⟩) allnil))) (res := fun r => .tup [Sv r.1, I r.2]) ?_
    refine xR [(0, .new 3)] [1, 2, 3] [3] [slFeat false feats, I k, .ref 3 0] [some (bxStore s)] [] trivial ?_
    refine x_seq ?_
    refine x_block ?_
    refine xR [(1, .call [(true, .any)] true (Bv true)), (5, .call [(true, .any)] true (Bv true))] [1, 2, 3, 9] [3] [slFeat false feats, I k, .ref 3 0, Bv false] [some (bxStore s)] [Con Try.prog 34 [agStore s] true (Bv true) ∧ True, Con Try.prog 35 [slFeat false feats] true (Bv true) ∧ True] ⟨⟨(con_bool hst (ValidStore_ok s oks_)), trivial⟩, ⟨(con_bool okf (ValidSeq_ok feats)), trivial⟩, trivial⟩ ?_
    refine x_false rfl ?_
    refine xR [(1, .call [(true, .any), (true, .any), (true, .any)] true (Bv true))] [1, 2, 3, 18] [3] [slFeat false feats, I k, .ref 3 0, Bv false] [some (bxStore s)] [Con Try.prog 37 [I k, I 1, I 40] true (Bv true) ∧ True] ⟨⟨(con_bool (inB_iff.2 (by omega)) (within_ok k 1 40)), trivial⟩, trivial⟩ ?_
    refine x_false rfl ?_
    refine x_skip ?_
    refine xe_block 0 ?_
    refine xe_then ?_
    refine x_seq ?_
    obtain ⟨v_1, hx1_0, hc1⟩ := vote_ok s feats k hst okf h18 (by first | rfl | omega)
    have hvs := hx1_0
    refine x_r [(3, .call [(true, .any), (true, .any), (true, .any)] true (Sv v_1))] [8] [] [Sv v_1] [] [Con Try.prog 39 [agStore s, slFeat false feats, I k] true (Sv v_1) ∧ True] ⟨⟨hc1, trivial⟩, trivial⟩ ?_
    refine xe_then ?_
    refine x_seq ?_
    refine x_seq ?_
    by_cases h1 : v_1 = (⟨#[]⟩ : ByteArray)
    ·have hv0 : (nsL s feats 1).length = 0 := by rcases Nat.eq_zero_or_pos (nsL s feats 1).length with q | q; (exact q); (exfalso; have q2 := votL_ok (fs := feats) hst (by omega); rw [← (show votS s feats = votL s feats from if_neg (by omega)), ← hvs, h1] at q2; exact absurd q2 (by decide))
     refine x_r [(1, .dec true)] [8, 27] [] [Sv v_1, Bv true] [] [v_1 = (⟨#[]⟩ : ByteArray)] ⟨h1, trivial⟩ ?_
     refine xe_then ?_
     refine x_true rfl ?_
     refine xR [] [6, 7] [] [Sv (⟨#[]⟩ : ByteArray), I 3] [] [] trivial ?_
     refine x_ret ?_
     refine xe_ret_then ?_
     refine xe_end ((⟨#[]⟩ : ByteArray), 3) (show ((⟨#[]⟩ : ByteArray) = votS s feats) ∧ (3 = if (nsL s feats 1).length = 0 then 3 else 0) ∧ (True) from ⟨(by first | assumption | (rw [if_pos hv0]; done) | (rw [if_neg hv1]; done) | (show _ = if _ then _ else _; rw [if_pos hv0]) | (show _ = if _ then _ else _; rw [if_neg hv1]) | (unfold votS; rw [if_pos hv0])), (by first | assumption | (rw [if_pos hv0]; done) | (rw [if_neg hv1]; done) | (show _ = if _ then _ else _; rw [if_pos hv0]) | (show _ = if _ then _ else _; rw [if_neg hv1]) | (unfold votS; rw [if_pos hv0])), trivial⟩) (trivial) (.tup [Sv (⟨#[]⟩ : ByteArray), I 3]) (by kernel_rfl) (.inl rfl) (fun _ => rfl) (fun _ => (by simp [tagged, taggedL]))
    have hv1 : ¬ (nsL s feats 1).length = 0 := fun q => h1 (by rw [hvs]; exact if_pos q)
    refine x_r [(1, .dec false)] [8, 27] [] [Sv v_1, Bv false] [] [¬ (v_1 = (⟨#[]⟩ : ByteArray))] ⟨h1, trivial⟩ ?_
    refine xe_then ?_
    refine x_false rfl ?_
    refine x_skip ?_
    refine xe_then ?_
    refine xR [] [6, 7] [] [Sv v_1, I 0] [] [] trivial ?_
    refine x_ret ?_
    refine xe_end (v_1, 0) (show (v_1 = votS s feats) ∧ (0 = if (nsL s feats 1).length = 0 then 3 else 0) ∧ (True) from ⟨(by first | assumption | (rw [if_pos hv0]; done) | (rw [if_neg hv1]; done) | (show _ = if _ then _ else _; rw [if_pos hv0]) | (show _ = if _ then _ else _; rw [if_neg hv1]) | (unfold votS; rw [if_pos hv0])), (by first | assumption | (rw [if_pos hv0]; done) | (rw [if_neg hv1]; done) | (show _ = if _ then _ else _; rw [if_pos hv0]) | (show _ = if _ then _ else _; rw [if_neg hv1]) | (unfold votS; rw [if_pos hv0])), trivial⟩) (trivial) (.tup [Sv v_1, I 0]) (by kernel_rfl) (.inl rfl) (fun _ => rfl) (fun _ => (by simp [tagged, taggedL]))
  obtain ⟨⟨v, c⟩, ⟨hh0, hh1, _⟩, hc⟩ := hh
  exact ⟨v, c, hh0, hh1, hc⟩


-- spec.l00In
theorem l00In_ok (n : Int) (low : Int) (high : Int) : Con Try.prog 52 [I n, I low, I high] true (Bv (inB n low high)) := by
  refine fn_ok (fn := Try.f52) (nt := 15) Try.func52 rfl rfl rfl rfl (by simp [taggedL, tagged]) fun B hB => ?_
  refine aR [] [0, 1, 2] [] [I n, I low, I high] [] [] hB trivial ?_
  refine aw_seq ?_
  by_cases h1 : low ≤ n
  ·refine aw_r [(2, .dec true)] [6] [] [Bv (decide (n ≤ high))] [] [low ≤ n] hB ⟨h1, trivial⟩ ?_
   refine ae_then ?_
   refine aw_ret ?_
   refine ae_ret hB (Bv (decide (n ≤ high))) (by kernel_rfl) (.inl (by first | rfl | (refine congrArg Bv ?_; simp [inB, *]; done) | (refine congrArg Bv ?_; simp [inB, *]; omega) | (refine congrArg Bv ?_; simp_all [inB]; done) | (refine congrArg Bv ?_; simp_all [inB]; omega))) rfl (fun _ => trivial)
  refine aw_r [(2, .dec false)] [6] [] [Bv false] [] [¬ (low ≤ n)] hB ⟨h1, trivial⟩ ?_
  refine ae_then ?_
  refine aw_ret ?_
  refine ae_ret hB (Bv false) (by kernel_rfl) (.inl (by first | rfl | (refine congrArg Bv ?_; simp [inB, *]; done) | (refine congrArg Bv ?_; simp [inB, *]; omega) | (refine congrArg Bv ?_; simp_all [inB]; done) | (refine congrArg Bv ?_; simp_all [inB]; omega))) rfl (fun _ => trivial)


-- spec.l09Feat
theorem l09Feat_ok (f : Feat) : Con Try.prog 76 [agFeat f] true (Bv (okF f)) := by
  refine fn_ok (fn := Try.f76) (nt := 16) Try.func76 rfl rfl rfl rfl (by simp [taggedL, tagged]) fun B hB => ?_
  refine aR [(0, .new 1)] [1] [1] [.ref 1 0] [some (bxFeat f)] [] hB trivial ?_
  refine aw_seq ?_
  rcases Bool.eq_false_or_eq_true (inB f.X 0 255) with h1 | h1
  ·rcases Bool.eq_false_or_eq_true (inB f.Y 0 255) with h2 | h2
   ·refine aw_r [(2, .call [(true, .any), (true, .any), (true, .any)] true (Bv true)), (6, .call [(true, .any), (true, .any), (true, .any)] true (Bv true)), (11, .call [(true, .any), (true, .any), (true, .any)] true (Bv (inB f.D 0 7)))] [2] [] [Bv (inB f.D 0 7)] [] [Con Try.prog 52 [I f.X, I 0, I 255] true (Bv true) ∧ True, Con Try.prog 52 [I f.Y, I 0, I 255] true (Bv true) ∧ True, Con Try.prog 52 [I f.D, I 0, I 7] true (Bv (inB f.D 0 7)) ∧ True] hB ⟨⟨(con_bool h1 (l00In_ok f.X 0 255)), trivial⟩, ⟨(con_bool h2 (l00In_ok f.Y 0 255)), trivial⟩, ⟨(l00In_ok f.D 0 7), trivial⟩, trivial⟩ ?_
    refine ae_then ?_
    refine aw_ret ?_
    refine ae_ret hB (Bv (inB f.D 0 7)) (by kernel_rfl) (.inl (by first | rfl | (refine congrArg Bv ?_; simp [okF, *]; done) | (refine congrArg Bv ?_; simp [okF, *]; omega) | (refine congrArg Bv ?_; simp_all [okF]; done) | (refine congrArg Bv ?_; simp_all [okF]; omega))) rfl (fun _ => trivial)
   refine aw_r [(2, .call [(true, .any), (true, .any), (true, .any)] true (Bv true)), (6, .call [(true, .any), (true, .any), (true, .any)] true (Bv false))] [2] [] [Bv false] [] [Con Try.prog 52 [I f.X, I 0, I 255] true (Bv true) ∧ True, Con Try.prog 52 [I f.Y, I 0, I 255] true (Bv false) ∧ True] hB ⟨⟨(con_bool h1 (l00In_ok f.X 0 255)), trivial⟩, ⟨(con_bool h2 (l00In_ok f.Y 0 255)), trivial⟩, trivial⟩ ?_
   refine ae_then ?_
   refine aw_ret ?_
   refine ae_ret hB (Bv false) (by kernel_rfl) (.inl (by first | rfl | (refine congrArg Bv ?_; simp [okF, *]; done) | (refine congrArg Bv ?_; simp [okF, *]; omega) | (refine congrArg Bv ?_; simp_all [okF]; done) | (refine congrArg Bv ?_; simp_all [okF]; omega))) rfl (fun _ => trivial)
  refine aw_r [(2, .call [(true, .any), (true, .any), (true, .any)] true (Bv false))] [2] [] [Bv false] [] [Con Try.prog 52 [I f.X, I 0, I 255] true (Bv false) ∧ True] hB ⟨⟨(con_bool h1 (l00In_ok f.X 0 255)), trivial⟩, trivial⟩ ?_
  refine ae_then ?_
  refine aw_ret ?_
  refine ae_ret hB (Bv false) (by kernel_rfl) (.inl (by first | rfl | (refine congrArg Bv ?_; simp [okF, *]; done) | (refine congrArg Bv ?_; simp [okF, *]; omega) | (refine congrArg Bv ?_; simp_all [okF]; done) | (refine congrArg Bv ?_; simp_all [okF]; omega))) rfl (fun _ => trivial)


-- spec.l09Ok
theorem l09Ok_ok (list : List Feat) : Con Try.prog 51 [slFeat false list] true (Bv (okFeats list 72)) := by
  refine fn_ok (fn := Try.f51) (nt := 19) Try.func51 rfl rfl rfl rfl (by simp [taggedL, tagged, tagFeat]) fun B hB => ?_
  refine aw_lens (x := slFeat false list) 0 rfl (fun len_list => ?_)
  simp [LenOK, LenL, cFeat, fFeat, slFeat] at len_list
  refine aR [] [0] [] [slFeat false list] [] [] hB trivial ?_
  refine aw_seq ?_
  refine aR [] [0, 3] [] [slFeat false list, I 0] [] [] hB trivial ?_
  refine aw_block ?_
  refine aw_loop (fun gn gσ => ∃ (i : Int), gn = ((list.length : Int) - i).toNat ∧ (0 ≤ i ∧ i ≤ (list.length : Int)) ∧ (∀ j : Nat, (j : Int) < i → okF (at_ list j) = true) ∧ gσ = mkS [(0, slFeat false list), (3, I i)] []) (((list.length : Int) - 0).toNat) ⟨0, rfl, (by omega), (by intro j hj; omega), rfl⟩ (fun gn gσ hI => ?_)
  obtain ⟨i, rfl, hi0, hall0, rfl⟩ := hI
  refine aw_seq ?_
  refine aw_seq ?_
  by_cases h1 : i < (list.length : Int)
  ·have hi : i.toNat < list.length := by omega
   refine aw_r [(3, .dec true)] [0, 3, 7] [] [slFeat false list, I i, Bv true] [] [i < (list.length : Int)] hB ⟨h1, trivial⟩ ?_
   refine ae_then ?_
   refine aw_true rfl ?_
   refine aw_skip ?_
   refine ae_then ?_
   refine aw_seq ?_
   refine aw_block ?_
   refine aw_seq ?_
   rcases Bool.eq_false_or_eq_true (okF (at_ list i.toNat)) with h2 | h2
   ·refine aw_r [(4, .call [(true, .any)] true (Bv true))] [0, 3, 15] [] [slFeat false list, I i, Bv false] [] [(0 : Int) ≤ i ∧ i < (list.length : Int), Con Try.prog 76 [agFeat (at_ list i.toNat)] true (Bv true) ∧ True] hB ⟨⟨(by omega), (by omega)⟩, ⟨(con_bool h2 (l09Feat_ok (at_ list i.toNat))), trivial⟩, trivial⟩ ?_
    refine ae_then ?_
    refine aw_false rfl ?_
    refine aw_skip ?_
    refine ae_block 1 ?_
    refine ae_then ?_
    refine aw_r [] [0, 3] [] [slFeat false list, I (i + 1)] [] [inR .i64 (i + 1)] hB ⟨(inR_i64 (by omega) (by omega)), trivial⟩ ?_
    exact ae_again _ (by omega) ⟨(i + 1), rfl, (by omega), (by intro j hj; by_cases ej : j = i.toNat; (subst ej; first | assumption | exact hok); exact hall0 j (by omega)), rfl⟩
   have hall : allN list.length (fun j => okF (at_ list j)) = false := allN_not hi h2
   refine aw_r [(4, .call [(true, .any)] true (Bv false))] [0, 3, 15] [] [slFeat false list, I i, Bv true] [] [(0 : Int) ≤ i ∧ i < (list.length : Int), Con Try.prog 76 [agFeat (at_ list i.toNat)] true (Bv false) ∧ True] hB ⟨⟨(by omega), (by omega)⟩, ⟨(con_bool h2 (l09Feat_ok (at_ list i.toNat))), trivial⟩, trivial⟩ ?_
   refine ae_then ?_
   refine aw_true rfl ?_
   refine aR [] [2] [] [Bv false] [] [] hB trivial ?_
   refine aw_ret ?_
   refine ae_ret_block (ae_ret_then (ae_ret_then (ae_ret_block (ae_ret_then ?_))))
   refine ae_ret hB (Bv false) (by kernel_rfl) (.inl (by first | rfl | (refine congrArg Bv ?_; simp [okFeats, inB, *]; done) | (refine congrArg Bv ?_; simp [okFeats, inB, *]; omega) | (refine congrArg Bv ?_; simp_all [okFeats, inB]; done) | (refine congrArg Bv ?_; simp_all [okFeats, inB]; omega))) rfl (fun _ => trivial)
  have hall : allN list.length (fun j => okF (at_ list j)) = true := allN_at (fun j hj => hall0 j (by omega))
  refine aw_r [(3, .dec false)] [0, 3, 7] [] [slFeat false list, I i, Bv false] [] [¬ (i < (list.length : Int))] hB ⟨h1, trivial⟩ ?_
  refine ae_then ?_
  refine aw_false rfl ?_
  refine aw_exit ?_
  refine ae_exit_then ?_
  refine ae_exit_then ?_
  refine ae_exit_same ?_
  refine ae_then ?_
  refine aR [(2, .call [(true, .any), (true, .any), (true, .any)] true (Bv (inB (list.length : Int) 1 72)))] [2] [] [Bv (inB (list.length : Int) 1 72)] [] [Con Try.prog 52 [I (list.length : Int), I 1, I 72] true (Bv (inB (list.length : Int) 1 72)) ∧ True] hB ⟨⟨(l00In_ok (list.length : Int) 1 72), trivial⟩, trivial⟩ ?_
  refine aw_ret ?_
  refine ae_ret hB (Bv (inB (list.length : Int) 1 72)) (by kernel_rfl) (.inl (by first | rfl | (refine congrArg Bv ?_; simp [okFeats, inB, *]; done) | (refine congrArg Bv ?_; simp [okFeats, inB, *]; omega) | (refine congrArg Bv ?_; simp_all [okFeats, inB]; done) | (refine congrArg Bv ?_; simp_all [okFeats, inB]; omega))) rfl (fun _ => trivial)


-- spec.l09Size
theorem l09Size_ok (n : Int) (hn : -9223372036854775807 ≤ n ∧ n ≤ 9223372036854775807) : Con Try.prog 53 [I n] true (I (n.natAbs : Int)) := by
  refine fn_ok (fn := Try.f53) (nt := 8) Try.func53 rfl rfl rfl rfl (by simp [taggedL, tagged]) fun B hB => ?_
  refine aR [] [0] [] [I n] [] [] hB trivial ?_
  refine aw_seq ?_
  refine aw_seq ?_
  by_cases h1 : n < 0
  ·refine aw_r [(1, .dec true)] [0, 4] [] [I n, Bv true] [] [n < 0] hB ⟨h1, trivial⟩ ?_
   refine ae_then ?_
   refine aw_true rfl ?_
   refine aR [] [2] [] [I (-n)] [] [inR .i64 (-n)] hB ⟨(inR_i64 (by omega) (by omega)), trivial⟩ ?_
   refine aw_ret ?_
   refine ae_ret_then ?_
   refine ae_ret hB (I (-n)) (by kernel_rfl) (.inl (by refine congrArg I ?_; omega)) rfl (fun _ => trivial)
  refine aw_r [(1, .dec false)] [0, 4] [] [I n, Bv false] [] [¬ (n < 0)] hB ⟨h1, trivial⟩ ?_
  refine ae_then ?_
  refine aw_false rfl ?_
  refine aw_skip ?_
  refine ae_then ?_
  refine aR [] [2] [] [I n] [] [] hB trivial ?_
  refine aw_ret ?_
  refine ae_ret hB (I n) (by kernel_rfl) (.inl (by refine congrArg I ?_; omega)) rfl (fun _ => trivial)


-- spec.l09Code
theorem l09Code_ok (a : List Feat) (b : List Feat) (band : Int) : Con Try.prog 31 [slFeat false a, slFeat false b, I band] true (I (elCode a b band)) := by
  refine fn_ok (fn := Try.f31) (nt := 28) Try.func31 rfl rfl rfl rfl (by simp [taggedL, tagged, tagFeat]) fun B hB => ?_
  refine aw_lens (x := slFeat false a) 0 rfl (fun len_a => ?_)
  simp [LenOK, LenL, cFeat, fFeat, slFeat] at len_a
  refine aw_lens (x := slFeat false b) 1 rfl (fun len_b => ?_)
  simp [LenOK, LenL, cFeat, fFeat, slFeat] at len_b
  refine aR [] [0, 1, 2] [] [slFeat false a, slFeat false b, I band] [] [] hB trivial ?_
  refine aw_seq ?_
  refine aw_seq ?_
  rcases Bool.eq_false_or_eq_true (okFeats a 72) with h1 | h1
  ·have hn1 := okFeats_n h1
   rcases Bool.eq_false_or_eq_true (okFeats b 72) with h2 | h2
   ·have hn1 := okFeats_n h2
    refine aw_r [(1, .call [(true, .any)] true (Bv true)), (5, .call [(true, .any)] true (Bv true))] [0, 1, 2, 14] [] [slFeat false a, slFeat false b, I band, Bv false] [] [Con Try.prog 51 [slFeat false a] true (Bv true) ∧ True, Con Try.prog 51 [slFeat false b] true (Bv true) ∧ True] hB ⟨⟨(con_bool h1 (l09Ok_ok a)), trivial⟩, ⟨(con_bool h2 (l09Ok_ok b)), trivial⟩, trivial⟩ ?_
    refine ae_then ?_
    refine aw_false rfl ?_
    refine aw_skip ?_
    refine ae_then ?_
    refine aw_seq ?_
    refine aw_seq ?_
    rcases Bool.eq_false_or_eq_true (inB band 0 72) with h3 | h3
    ·by_cases h4 : band < (((a.length : Int) - (b.length : Int)).natAbs : Int)
     ·refine aw_r [(1, .call [(true, .any), (true, .any), (true, .any)] true (Bv true)), (9, .call [(true, .any)] true (I (((a.length : Int) - (b.length : Int)).natAbs : Int))), (11, .dec true)] [27] [] [Bv true] [] [Con Try.prog 52 [I band, I 0, I 72] true (Bv true) ∧ True, inR .i64 ((a.length : Int) - (b.length : Int)), Con Try.prog 53 [I ((a.length : Int) - (b.length : Int))] true (I (((a.length : Int) - (b.length : Int)).natAbs : Int)) ∧ True, band < (((a.length : Int) - (b.length : Int)).natAbs : Int)] hB ⟨⟨(con_bool h3 (l00In_ok band 0 72)), trivial⟩, (inR_i64 (by omega) (by omega)), ⟨(l09Size_ok ((a.length : Int) - (b.length : Int)) (by omega)), trivial⟩, h4, trivial⟩ ?_
      refine ae_then ?_
      refine aw_true rfl ?_
      refine aR [] [6] [] [I 2] [] [] hB trivial ?_
      refine aw_ret ?_
      refine ae_ret_then ?_
      refine ae_ret hB (I 2) (by kernel_rfl) (.inl (by refine congrArg I ?_; unfold elCode; first | (simp [*]; done) | (simp [inB, *] at *; simp [*]; done) | (simp [inB, *] at *; omega))) rfl (fun _ => trivial)
     refine aw_r [(1, .call [(true, .any), (true, .any), (true, .any)] true (Bv true)), (9, .call [(true, .any)] true (I (((a.length : Int) - (b.length : Int)).natAbs : Int))), (11, .dec false)] [27] [] [Bv false] [] [Con Try.prog 52 [I band, I 0, I 72] true (Bv true) ∧ True, inR .i64 ((a.length : Int) - (b.length : Int)), Con Try.prog 53 [I ((a.length : Int) - (b.length : Int))] true (I (((a.length : Int) - (b.length : Int)).natAbs : Int)) ∧ True, ¬ (band < (((a.length : Int) - (b.length : Int)).natAbs : Int))] hB ⟨⟨(con_bool h3 (l00In_ok band 0 72)), trivial⟩, (inR_i64 (by omega) (by omega)), ⟨(l09Size_ok ((a.length : Int) - (b.length : Int)) (by omega)), trivial⟩, h4, trivial⟩ ?_
     refine ae_then ?_
     refine aw_false rfl ?_
     refine aw_skip ?_
     refine ae_then ?_
     refine aR [] [6] [] [I 0] [] [] hB trivial ?_
     refine aw_ret ?_
     refine ae_ret hB (I 0) (by kernel_rfl) (.inl (by refine congrArg I ?_; unfold elCode; first | (simp [*]; done) | (simp [inB, *] at *; simp [*]; done) | (simp [inB, *] at *; omega))) rfl (fun _ => trivial)
    refine aw_r [(1, .call [(true, .any), (true, .any), (true, .any)] true (Bv false))] [27] [] [Bv true] [] [Con Try.prog 52 [I band, I 0, I 72] true (Bv false) ∧ True] hB ⟨⟨(con_bool h3 (l00In_ok band 0 72)), trivial⟩, trivial⟩ ?_
    refine ae_then ?_
    refine aw_true rfl ?_
    refine aR [] [6] [] [I 2] [] [] hB trivial ?_
    refine aw_ret ?_
    refine ae_ret_then ?_
    refine ae_ret hB (I 2) (by kernel_rfl) (.inl (by refine congrArg I ?_; unfold elCode; first | (simp [*]; done) | (simp [inB, *] at *; simp [*]; done) | (simp [inB, *] at *; omega))) rfl (fun _ => trivial)
   refine aw_r [(1, .call [(true, .any)] true (Bv true)), (5, .call [(true, .any)] true (Bv false))] [0, 1, 2, 14] [] [slFeat false a, slFeat false b, I band, Bv true] [] [Con Try.prog 51 [slFeat false a] true (Bv true) ∧ True, Con Try.prog 51 [slFeat false b] true (Bv false) ∧ True] hB ⟨⟨(con_bool h1 (l09Ok_ok a)), trivial⟩, ⟨(con_bool h2 (l09Ok_ok b)), trivial⟩, trivial⟩ ?_
   refine ae_then ?_
   refine aw_true rfl ?_
   refine aR [] [6] [] [I 1] [] [] hB trivial ?_
   refine aw_ret ?_
   refine ae_ret_then ?_
   refine ae_ret hB (I 1) (by kernel_rfl) (.inl (by refine congrArg I ?_; unfold elCode; first | (simp [*]; done) | (simp [inB, *] at *; simp [*]; done) | (simp [inB, *] at *; omega))) rfl (fun _ => trivial)
  refine aw_r [(1, .call [(true, .any)] true (Bv false))] [0, 1, 2, 14] [] [slFeat false a, slFeat false b, I band, Bv true] [] [Con Try.prog 51 [slFeat false a] true (Bv false) ∧ True] hB ⟨⟨(con_bool h1 (l09Ok_ok a)), trivial⟩, trivial⟩ ?_
  refine ae_then ?_
  refine aw_true rfl ?_
  refine aR [] [6] [] [I 1] [] [] hB trivial ?_
  refine aw_ret ?_
  refine ae_ret_then ?_
  refine ae_ret hB (I 1) (by kernel_rfl) (.inl (by refine congrArg I ?_; unfold elCode; first | (simp [*]; done) | (simp [inB, *] at *; simp [*]; done) | (simp [inB, *] at *; omega))) rfl (fun _ => trivial)


-- spec.l09Cost
theorem l09Cost_ok (a : Feat) (b : Feat) (ha : okF a = true) (hb : okF b = true) : Con Try.prog 79 [agFeat a, agFeat b] true (I (costF a b)) := by
  have ha' := okF_iff.1 ha
  have hb' := okF_iff.1 hb
  refine fn_ok (fn := Try.f79) (nt := 31) Try.func79 rfl rfl rfl rfl (by simp [taggedL, tagged]) fun B hB => ?_
  refine aR [(0, .new 2), (1, .new 3)] [2, 3] [2, 3] [.ref 2 0, .ref 3 0] [some (bxFeat a), some (bxFeat b)] [] hB trivial ?_
  refine aR [(5, .call [(true, .any)] true (I ((a.D - b.D).natAbs : Int)))] [2, 3, 5] [2, 3] [.ref 2 0, .ref 3 0, I ((a.D - b.D).natAbs : Int)] [some (bxFeat a), some (bxFeat b)] [inR .i64 (a.D - b.D), Con Try.prog 53 [I (a.D - b.D)] true (I ((a.D - b.D).natAbs : Int)) ∧ True] hB ⟨(inR_i64 (by omega) (by omega)), ⟨(l09Size_ok (a.D - b.D) (by omega)), trivial⟩, trivial⟩ ?_
  refine aR [(5, .call [(true, .any)] true (I ((a.X - b.X).natAbs : Int))), (11, .call [(true, .any)] true (I ((a.Y - b.Y).natAbs : Int))), (16, .call [(true, .any), (true, .any)] true (I (min ((a.D - b.D).natAbs : Int) (8 - ((a.D - b.D).natAbs : Int)))))] [4] [] [I ((((a.X - b.X).natAbs : Int) + ((a.Y - b.Y).natAbs : Int)) + (16 * (min ((a.D - b.D).natAbs : Int) (8 - ((a.D - b.D).natAbs : Int)))))] [] [inR .i64 (a.X - b.X), Con Try.prog 53 [I (a.X - b.X)] true (I ((a.X - b.X).natAbs : Int)) ∧ True, inR .i64 (a.Y - b.Y), Con Try.prog 53 [I (a.Y - b.Y)] true (I ((a.Y - b.Y).natAbs : Int)) ∧ True, inR .i64 (((a.X - b.X).natAbs : Int) + ((a.Y - b.Y).natAbs : Int)), inR .i64 (8 - ((a.D - b.D).natAbs : Int)), Con Try.prog 42 [I ((a.D - b.D).natAbs : Int), I (8 - ((a.D - b.D).natAbs : Int))] true (I (min ((a.D - b.D).natAbs : Int) (8 - ((a.D - b.D).natAbs : Int)))) ∧ True, inR .i64 (16 * (min ((a.D - b.D).natAbs : Int) (8 - ((a.D - b.D).natAbs : Int)))), inR .i64 ((((a.X - b.X).natAbs : Int) + ((a.Y - b.Y).natAbs : Int)) + (16 * (min ((a.D - b.D).natAbs : Int) (8 - ((a.D - b.D).natAbs : Int)))))] hB ⟨(inR_i64 (by omega) (by omega)), ⟨(l09Size_ok (a.X - b.X) (by omega)), trivial⟩, (inR_i64 (by omega) (by omega)), ⟨(l09Size_ok (a.Y - b.Y) (by omega)), trivial⟩, (inR_i64 (by omega) (by omega)), (inR_i64 (by omega) (by omega)), ⟨(l00Min_ok ((a.D - b.D).natAbs : Int) (8 - ((a.D - b.D).natAbs : Int))), trivial⟩, (inR_i64 (by omega) (by omega)), (inR_i64 (by omega) (by omega)), trivial⟩ ?_
  refine aw_ret ?_
  refine ae_ret hB (I ((((a.X - b.X).natAbs : Int) + ((a.Y - b.Y).natAbs : Int)) + (16 * (min ((a.D - b.D).natAbs : Int) (8 - ((a.D - b.D).natAbs : Int)))))) (by kernel_rfl) (.inl (by refine congrArg I ?_; first | rfl | (unfold costF; omega))) rfl (fun _ => trivial)

end Go.Proofs.Ytbapncplieakmaa.Ax
