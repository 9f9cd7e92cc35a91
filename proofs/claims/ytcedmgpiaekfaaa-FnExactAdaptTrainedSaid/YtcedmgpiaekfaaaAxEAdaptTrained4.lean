/- Contracts that the statement FnExactAdaptTrained reaches, part 4. No conditions. -/
import Derived.Test.YtcedmgpiaekfaaaAxEAdaptTrained3
import Derived.Test.YtcedmgpiaekfaaaAxR
import Derived.Test.YtcedmgpiaekfaaaAxS
import Derived.Test.YtcedmgpiaekfaaaSortShelf
namespace Go.Proofs.Ytcedmgpiaekfaaa.Ax
open Go.RowKit Go.ChangeShapes Go.WideShapes
set_option linter.unusedVariables false
set_option linter.unusedSimpArgs false


-- impl.ElasticPath
set_option maxHeartbeats 4000000 in
theorem ElasticPath_ok (a : List Feat) (b : List Feat) (band : Int) (oka : okFeats a 72 = true) (okb : okFeats b 72 = true) (hbd : 0 ≤ band ∧ band ≤ 72) (hnm : inBd band a.length b.length) : ∃ (v : List Pair) (c : Int), (v = (tot a b band).reverse) ∧ (c = 0) ∧ Con Try.prog 58 [slFeat false a, slFeat false b, I band] true (.tup [slPair true v, I c]) := by
  have hab := okAB_of oka okb
  have hla := hab.2.2
  have hna := okFeats_n oka
  have hnb := okFeats_n okb
  have hh : ∃ r : (List Pair) × Int, ((r.1 = (tot a b band).reverse) ∧ (r.2 = 0) ∧ (True)) ∧ CallOK Try.prog 58 [slFeat false a, slFeat false b, I band] (lookO []) true (.tup [slPair true r.1, I r.2]) (lookO []) := by
    refine fn_okX (Φ := fun r : (List Pair) × Int => (r.1 = (tot a b band).reverse) ∧ (r.2 = 0) ∧ (True)) [] (fun r => []) (fn := Try.f58) (nt := 116) Try.func58 rfl rfl (args := [slFeat false a, slFeat false b, I band]) rfl (allcons (.inl ⟨rfl, tagFeat false _⟩) (allcons (.inl ⟨rfl, tagFeat false _⟩) (allcons (.inl ⟨rfl, trivial⟩) allnil))) (res := fun r => .tup [slPair true r.1, I r.2]) ?_
    refine x_seq ?_
    refine x_reg [] [0, 1, 2] [] [slFeat false a, slFeat false b, I band] [] [] (by kernel_rfl) trivial ?_
    refine xe_then ?_
    refine x_seq ?_
    refine x_seq ?_
    refine x_reg [(3, .call [(true, slFeat false a), (true, slFeat false b), (true, I band)] true (I (mtc a b band)))] [0, 1, 2, 8] [] [slFeat false a, slFeat false b, I band, I (mtc a b band)] [] [Con Try.prog 75 [slFeat false a, slFeat false b, I band] true (I (mtc a b band)) ∧ ((slFeat false a : AV) = slFeat false a) ∧ ((slFeat false b : AV) = slFeat false b) ∧ ((I band : AV) = I band) ∧ True] (by kernel_rfl) ⟨⟨(matchable_ok a b band (by omega) (by omega)), rfl, rfl, rfl, trivial⟩, trivial⟩ ?_
    refine xe_then ?_
    refine x_seq ?_
    refine x_reg [(1, .dec false)] [0, 1, 2, 8, 24] [] [slFeat false a, slFeat false b, I band, I (mtc a b band), Bv false] [] [¬ ((mtc a b band) ≠ 0)] (by kernel_rfl) ⟨(fun hq => hq (mtc_ok oka okb hbd hnm)), trivial⟩ ?_
    refine xe_then ?_
    refine x_false rfl ?_
    refine x_skip ?_
    refine xe_then ?_
    refine x_seq ?_
    obtain ⟨v_1, hx1_0, hc1⟩ := costTable_ok a b band hab (by omega)
    have htb := hx1_0
    refine x_reg [(3, .call [(true, slFeat false a), (true, slFeat false b), (true, I band)] true (slLI true v_1))] [0, 1, 9] [] [slFeat false a, slFeat false b, slLI true v_1] [] [Con Try.prog 76 [slFeat false a, slFeat false b, I band] true (slLI true v_1) ∧ ((slFeat false a : AV) = slFeat false a) ∧ ((slFeat false b : AV) = slFeat false b) ∧ ((I band : AV) = I band) ∧ True] (by kernel_rfl) ⟨⟨hc1, rfl, rfl, rfl, trivial⟩, trivial⟩ ?_
    refine xe_then ?_
    refine x_seq ?_
    refine x_reg [] [9, 10, 11] [] [slLI true v_1, I ((a.length : Int) - 1), I ((b.length : Int) - 1)] [] [inR .i64 ((a.length : Int) - 1), inR .i64 ((b.length : Int) - 1)] (by kernel_rfl) ⟨(inR_i64 (by omega) (by omega)), (inR_i64 (by omega) (by omega)), trivial⟩ ?_
    refine xe_then ?_
    refine x_seq ?_
    refine x_reg [(3, .new 39)] [9, 10, 11, 12] [39] [slLI true v_1, I ((a.length : Int) - 1), I ((b.length : Int) - 1), .arr 39] [some (.arr 2 1 (litF [I ((a.length : Int) - 1), I ((b.length : Int) - 1)] 2))] [] (by kernel_rfl) trivial ?_
    refine xe_then ?_
    refine x_seq ?_
    refine x_block ?_
    refine x_weak [] (T := [(9, slLI true v_1), (10, I ((a.length : Int) - 1)), (11, I ((b.length : Int) - 1)), (12, .arr 39)]) (O := [(39, .arr 2 (([(Pair.mk ((a.length : Int) - 1) ((b.length : Int) - 1))]).length) (fPair ([(Pair.mk ((a.length : Int) - 1) ((b.length : Int) - 1))])))]) rfl (⟨.inl rfl, .inl rfl, .inl rfl, .inl rfl, trivial⟩) (⟨.inr ⟨rfl, (by first | rfl | (simp; done) | (simp; omega) | omega), fun i_ hi_ => .inl (match i_, hi_ with | 0, _ => rfl | (i + 1), h => absurd h (by simp))⟩, trivial⟩) ?_
    refine x_loop (X := Int × Int × (List Pair)) (fun x => mkS [(9, slLI true v_1), (10, I x.1), (11, I x.2.1), (12, .arr 39)] [(39, .arr 2 x.2.2.length (fPair x.2.2))]) (fun x => (0 ≤ x.1 ∧ x.1 < (a.length : Int)) ∧ (0 ≤ x.2.1 ∧ x.2.1 < (b.length : Int)) ∧ (inBd band x.1.toNat x.2.1.toNat) ∧ (x.1 + x.2.1 + (x.2.2.length : Int) ≤ (a.length : Int) + (b.length : Int) - 1) ∧ (x.2.2 ++ (bk a b band (a.length + b.length - x.2.2.length) x.1.toNat x.2.1.toNat).tail = tot a b band) ∧ (1 ≤ x.2.2.length) ∧ True) (fun x => (x.1 + x.2.1).toNat) (((a.length : Int) - 1), ((b.length : Int) - 1), [(Pair.mk ((a.length : Int) - 1) ((b.length : Int) - 1))]) rfl (show (0 ≤ ((a.length : Int) - 1) ∧ ((a.length : Int) - 1) < (a.length : Int)) ∧ (0 ≤ ((b.length : Int) - 1) ∧ ((b.length : Int) - 1) < (b.length : Int)) ∧ (inBd band ((a.length : Int) - 1).toNat ((b.length : Int) - 1).toNat) ∧ (((a.length : Int) - 1) + ((b.length : Int) - 1) + (([(Pair.mk ((a.length : Int) - 1) ((b.length : Int) - 1))]).length : Int) ≤ (a.length : Int) + (b.length : Int) - 1) ∧ (([(Pair.mk ((a.length : Int) - 1) ((b.length : Int) - 1))]) ++ (bk a b band (a.length + b.length - ([(Pair.mk ((a.length : Int) - 1) ((b.length : Int) - 1))]).length) ((a.length : Int) - 1).toNat ((b.length : Int) - 1).toNat).tail = tot a b band) ∧ (1 ≤ ([(Pair.mk ((a.length : Int) - 1) ((b.length : Int) - 1))]).length) ∧ True from ⟨(by omega), (by omega), (by (rw [show ((a.length : Int) - 1).toNat = a.length - 1 from by omega, show ((b.length : Int) - 1).toNat = b.length - 1 from by omega]; exact inBd_end hnm hna.1 hnb.1)), (by (simp; omega)), (by exact tot_start rfl rfl hna.1 hnb.1), (by simp), trivial⟩) (fun x hI => ?_)
    obtain ⟨i, j, back⟩ := x
    obtain ⟨hi0, hj0, hbb, hsm, htt, hb1, _⟩ : (0 ≤ i ∧ i < (a.length : Int)) ∧ (0 ≤ j ∧ j < (b.length : Int)) ∧ (inBd band i.toNat j.toNat) ∧ (i + j + (back.length : Int) ≤ (a.length : Int) + (b.length : Int) - 1) ∧ (back ++ (bk a b band (a.length + b.length - back.length) i.toNat j.toNat).tail = tot a b band) ∧ (1 ≤ back.length) ∧ True := hI
    show XW _ _ _ _ (mkS [(9, slLI true v_1), (10, I i), (11, I j), (12, .arr 39)] [(39, .arr 2 back.length (fPair back))]) _ _
    refine x_seq ?_
    refine x_seq ?_
    by_cases h1 : 0 < i
    ·have h00 : ¬ (i = 0 ∧ j = 0) := by omega
     have hrl : 1 ≤ i → ((at_ v_1 (i - 1).toNat).length : Int) = b.length := fun q => by rw [(htb.2 (i - 1).toNat (by omega)).1]
     have hrz : ((at_ v_1 (i - 0).toNat).length : Int) = b.length := by rw [(htb.2 (i - 0).toNat (by omega)).1]
     have htl := htb.1
     refine x_reg [(1, .dec true)] [9, 10, 11, 12, 45] [39] [slLI true v_1, I i, I j, .arr 39, Bv true] [some (.arr 2 back.length (fPair back))] [0 < i] (by kernel_rfl) ⟨h1, trivial⟩ ?_
     refine xe_then ?_
     refine x_true rfl ?_
     refine x_skip ?_
     refine xe_then ?_
     refine x_block ?_
     refine x_seq ?_
     refine x_reg [(3, .call [(false, slLI false v_1), (true, I i), (true, I j)] true (I (lb3 v_1 i j)))] [9, 10, 11, 12, 13] [39] [slLI true v_1, I i, I j, .arr 39, I (lb3 v_1 i j)] [some (.arr 2 back.length (fPair back))] [Con Try.prog 77 [slLI false v_1, I i, I j] true (I (lb3 v_1 i j)) ∧ ((false = true → true = true) ∧ 1 = 1 ∧ v_1.length = v_1.length ∧ ∀ i, i < v_1.length → (fLI true v_1) i = (fLI false v_1) i ∨ (AV.idsL ((fLI false v_1) i) = [] ∧ leL (fun _ => none) false ((fLI true v_1) i) ((fLI false v_1) i))) ∧ ((I i : AV) = I i) ∧ ((I j : AV) = I j) ∧ True] (by kernel_rfl) ⟨⟨(leastBefore_ok v_1 i j (by omega) (by omega) (fun q => by have := hrl q; omega) (fun q => by rw [hrz]; omega)), ⟨(fun h => by cases h), rfl, rfl, fun i _ => .inr ⟨idsLI _ _, leLI _ _ _⟩⟩, rfl, rfl, trivial⟩, trivial⟩ ?_
     refine xe_then ?_
     refine x_seq ?_
     refine x_seq ?_
     refine x_reg [(0, .call [] true (.agg [I 1, I 1, I 1, I 0, I 0, I 1]))] [9, 10, 11, 12, 13, 50, 51] [39] [slLI true v_1, I i, I j, .arr 39, I (lb3 v_1 i j), .agg [I 1, I 1, I 1, I 0, I 0, I 1], I 0] [some (.arr 2 back.length (fPair back))] [Con Try.prog 78 [] true (.agg [I 1, I 1, I 1, I 0, I 0, I 1]) ∧ True] (by kernel_rfl) ⟨⟨(stepsBack_ok), trivial⟩, trivial⟩ ?_
     refine xe_then ?_
     refine x_block ?_
     refine x_loop (X := Int × Int × Int) (fun x => mkS [(9, slLI true v_1), (10, I x.1), (11, I x.2.1), (12, .arr 39), (13, I (lb3 v_1 i j)), (50, .agg [I 1, I 1, I 1, I 0, I 0, I 1]), (51, I x.2.2)] [(39, .arr 2 back.length (fPair back))]) (fun x => (0 ≤ x.2.2 ∧ x.2.2 ≤ 3) ∧ (i = x.1 ∧ j = x.2.1) ∧ (1 ≤ x.2.2 → ¬ (1 ≤ i ∧ 1 ≤ j ∧ at_ (at_ v_1 (i - 1).toNat) (j - 1).toNat = lb3 v_1 i j)) ∧ (2 ≤ x.2.2 → ¬ (1 ≤ i ∧ at_ (at_ v_1 (i - 1).toNat) (j - 0).toNat = lb3 v_1 i j)) ∧ (3 ≤ x.2.2 → False) ∧ True) (fun x => ((3 : Int) - x.2.2).toNat) (i, j, 0) rfl (show (0 ≤ (0 : Int) ∧ (0 : Int) ≤ 3) ∧ (i = i ∧ j = j) ∧ (1 ≤ (0 : Int) → ¬ (1 ≤ i ∧ 1 ≤ j ∧ at_ (at_ v_1 (i - 1).toNat) (j - 1).toNat = lb3 v_1 i j)) ∧ (2 ≤ (0 : Int) → ¬ (1 ≤ i ∧ at_ (at_ v_1 (i - 1).toNat) (j - 0).toNat = lb3 v_1 i j)) ∧ (3 ≤ (0 : Int) → False) ∧ True from ⟨(by omega), (by exact ⟨rfl, rfl⟩), (by exact fun q => absurd q (by decide)), (by exact fun q => absurd q (by decide)), (by exact fun q => absurd q (by decide)), trivial⟩) (fun x hI => ?_)
     obtain ⟨i', j', t51⟩ := x
     obtain ⟨ht0, hij, hno1, hno2, hno3, _⟩ : (0 ≤ t51 ∧ t51 ≤ 3) ∧ (i = i' ∧ j = j') ∧ (1 ≤ t51 → ¬ (1 ≤ i ∧ 1 ≤ j ∧ at_ (at_ v_1 (i - 1).toNat) (j - 1).toNat = lb3 v_1 i j)) ∧ (2 ≤ t51 → ¬ (1 ≤ i ∧ at_ (at_ v_1 (i - 1).toNat) (j - 0).toNat = lb3 v_1 i j)) ∧ (3 ≤ t51 → False) ∧ True := hI
     show XW _ _ _ _ (mkS [(9, slLI true v_1), (10, I i'), (11, I j'), (12, .arr 39), (13, I (lb3 v_1 i j)), (50, .agg [I 1, I 1, I 1, I 0, I 0, I 1]), (51, I t51)] [(39, .arr 2 back.length (fPair back))]) _ _
     refine x_seq ?_
     by_cases h2 : t51 < 3
     ·obtain ⟨rfl, rfl⟩ := hij
      have hcs : t51 = 0 ∨ t51 = 1 ∨ t51 = 2 := by omega
      rcases hcs with rfl | rfl | rfl
      ·refine x_reg [(0, .dec true)] [9, 10, 11, 12, 13, 50, 51, 52] [39] [slLI true v_1, I i, I j, .arr 39, I (lb3 v_1 i j), .agg [I 1, I 1, I 1, I 0, I 0, I 1], I 0, Bv true] [some (.arr 2 back.length (fPair back))] [(0 : Int) < 3] (by kernel_rfl) ⟨(by decide), trivial⟩ ?_
       refine xe_then ?_
       refine x_seq ?_
       refine x_true rfl ?_
       refine x_skip ?_
       refine xe_then ?_
       refine x_seq ?_
       refine x_block ?_
       refine x_seq ?_
       refine x_reg [(1, .new 15)] [9, 10, 11, 12, 13, 15, 50, 51] [15, 39] [slLI true v_1, I i, I j, .arr 39, I (lb3 v_1 i j), .ref 15 0, .agg [I 1, I 1, I 1, I 0, I 0, I 1], I 0] [some (.box [I 1, I 1]), some (.arr 2 back.length (fPair back))] [(0 : Int) ≤ 0 ∧ 0 < (3 : Int)] (by kernel_rfl) ⟨⟨by decide, by decide⟩, trivial⟩ ?_
       refine xe_then ?_
       refine x_seq ?_
       by_cases h3 : 1 ≤ i
       ·by_cases h4 : 1 ≤ j
        ·by_cases h5 : (at_ (at_ v_1 ((i - 1).toNat)) ((j - 1).toNat)) = (lb3 v_1 i j)
         ·have hnx := nx_1 hab htb (by omega) (by omega) hbb h00 ⟨by omega, by omega, h5⟩
          have hgo := (nx_go hab (by omega) (by omega) hbb h00 hnx (s := 0)).1
          have hr1 := hnx.1
          have hr2 := hnx.2.1
          have htx := tot_next hab (by omega) (by omega) hbb h00 hnx hsm htt
          refine x_reg [(3, .dec true), (8, .dec true), (25, .dec true)] [9, 10, 11, 12, 13, 15, 50, 51, 80] [15, 39] [slLI true v_1, I i, I j, .arr 39, I (lb3 v_1 i j), .ref 15 0, .agg [I 1, I 1, I 1, I 0, I 0, I 1], I 0, Bv true] [some (.box [I 1, I 1]), some (.arr 2 back.length (fPair back))] [(0 : Int) ≤ 0 ∧ 0 < (2 : Int), 1 ≤ i, (0 : Int) ≤ 1 ∧ 1 < (2 : Int), 1 ≤ j, (0 : Int) ≤ 0 ∧ 0 < (2 : Int), inR .i64 (i - 1), (0 : Int) ≤ (i - 1) ∧ (i - 1) < (v_1.length : Int), (0 : Int) ≤ 1 ∧ 1 < (2 : Int), inR .i64 (j - 1), (0 : Int) ≤ (j - 1) ∧ (j - 1) < (((at_ v_1 ((i - 1).toNat)).length) : Int), (at_ (at_ v_1 ((i - 1).toNat)) ((j - 1).toNat)) = (lb3 v_1 i j)] (by kernel_rfl) ⟨⟨by decide, by decide⟩, h3, ⟨by decide, by decide⟩, h4, ⟨by decide, by decide⟩, (inR_i64 (by omega) (by omega)), ⟨(by omega), (by omega)⟩, ⟨by decide, by decide⟩, (inR_i64 (by omega) (by omega)), ⟨(by omega), (by omega)⟩, h5, trivial⟩ ?_
          refine xe_then ?_
          refine x_true rfl ?_
          refine x_seq ?_
          refine x_reg [] [9, 10, 11, 12] [39] [slLI true v_1, I (i - 1), I (j - 1), .arr 39] [some (.arr 2 back.length (fPair back))] [(0 : Int) ≤ 0 ∧ 0 < (2 : Int), inR .i64 (i - 1), (0 : Int) ≤ 1 ∧ 1 < (2 : Int), inR .i64 (j - 1)] (by kernel_rfl) ⟨⟨by decide, by decide⟩, (inR_i64 (by omega) (by omega)), ⟨by decide, by decide⟩, (inR_i64 (by omega) (by omega)), trivial⟩ ?_
          refine xe_then ?_
          refine x_exit ?_
          refine xe_exit_other rfl ?_
          refine xe_exit_then ?_
          refine xe_loop_exit ?_
          refine xe_exit_same ?_
          refine xe_then ?_
          refine x_reg [(4, .new 94), (5, .new 95)] [9, 10, 11, 12] [95] [slLI true v_1, I (i - 1), I (j - 1), .arr 95] [some (.arr 2 (back.length + 1) (catF back.length (fPair back) (litF [I (i - 1), I (j - 1)] 2)))] [(back.length + 1) * 16 ≤ 140737488355328] (by kernel_rfl) ⟨(by omega), trivial⟩ ?_
          refine xe_block 1 ?_
          refine xe_weak [(39, 95)] (T := [(9, slLI true v_1), (10, I (i - 1)), (11, I (j - 1)), (12, .arr 39)]) (O := [(39, .arr 2 ((back ++ [(Pair.mk (i - 1) (j - 1))]).length) (fPair (back ++ [(Pair.mk (i - 1) (j - 1))])))]) rfl (⟨.inl rfl, .inl rfl, .inl rfl, .inl rfl, trivial⟩) (⟨.inr ⟨rfl, (by first | rfl | (simp; done) | (simp; omega) | omega), fun i_ hi_ => .inl (cat_snoc (enc := cPair) (xs := back) rfl i_ hi_)⟩, trivial⟩) (xe_again ((i - 1), (j - 1), (back ++ [(Pair.mk (i - 1) (j - 1))])) rfl (show (0 ≤ (i - 1) ∧ (i - 1) < (a.length : Int)) ∧ (0 ≤ (j - 1) ∧ (j - 1) < (b.length : Int)) ∧ (inBd band (i - 1).toNat (j - 1).toNat) ∧ ((i - 1) + (j - 1) + ((back ++ [(Pair.mk (i - 1) (j - 1))]).length : Int) ≤ (a.length : Int) + (b.length : Int) - 1) ∧ ((back ++ [(Pair.mk (i - 1) (j - 1))]) ++ (bk a b band (a.length + b.length - (back ++ [(Pair.mk (i - 1) (j - 1))]).length) (i - 1).toNat (j - 1).toNat).tail = tot a b band) ∧ (1 ≤ (back ++ [(Pair.mk (i - 1) (j - 1))]).length) ∧ True from ⟨(by omega), (by omega), (by exact hgo.1), (by (simp; omega)), (by exact htx), (by (simp)), trivial⟩) (by first | (show (((i - 1) + (j - 1)).toNat : Nat) < (i + j).toNat; omega) | (dsimp only; omega)))
         ·refine x_reg [(3, .dec true), (8, .dec true), (25, .dec false)] [9, 10, 11, 12, 13, 15, 50, 51, 80] [15, 39] [slLI true v_1, I i, I j, .arr 39, I (lb3 v_1 i j), .ref 15 0, .agg [I 1, I 1, I 1, I 0, I 0, I 1], I 0, Bv false] [some (.box [I 1, I 1]), some (.arr 2 back.length (fPair back))] [(0 : Int) ≤ 0 ∧ 0 < (2 : Int), 1 ≤ i, (0 : Int) ≤ 1 ∧ 1 < (2 : Int), 1 ≤ j, (0 : Int) ≤ 0 ∧ 0 < (2 : Int), inR .i64 (i - 1), (0 : Int) ≤ (i - 1) ∧ (i - 1) < (v_1.length : Int), (0 : Int) ≤ 1 ∧ 1 < (2 : Int), inR .i64 (j - 1), (0 : Int) ≤ (j - 1) ∧ (j - 1) < (((at_ v_1 ((i - 1).toNat)).length) : Int), ¬ ((at_ (at_ v_1 ((i - 1).toNat)) ((j - 1).toNat)) = (lb3 v_1 i j))] (by kernel_rfl) ⟨⟨by decide, by decide⟩, h3, ⟨by decide, by decide⟩, h4, ⟨by decide, by decide⟩, (inR_i64 (by omega) (by omega)), ⟨(by omega), (by omega)⟩, ⟨by decide, by decide⟩, (inR_i64 (by omega) (by omega)), ⟨(by omega), (by omega)⟩, h5, trivial⟩ ?_
          refine xe_then ?_
          refine x_false rfl ?_
          refine x_skip ?_
          refine xe_block 3 ?_
          refine xe_then ?_
          refine x_reg [] [9, 10, 11, 12, 13, 50, 51] [39] [slLI true v_1, I i, I j, .arr 39, I (lb3 v_1 i j), .agg [I 1, I 1, I 1, I 0, I 0, I 1], I (0 + 1)] [some (.arr 2 back.length (fPair back))] [inR .i64 (0 + 1)] (by kernel_rfl) ⟨(inR_i64 (by omega) (by omega)), trivial⟩ ?_
          exact xe_again (i, j, (0 + 1)) rfl (show (0 ≤ (0 + 1) ∧ (0 + 1) ≤ 3) ∧ (i = i ∧ j = j) ∧ (1 ≤ (0 + 1) → ¬ (1 ≤ i ∧ 1 ≤ j ∧ at_ (at_ v_1 (i - 1).toNat) (j - 1).toNat = lb3 v_1 i j)) ∧ (2 ≤ (0 + 1) → ¬ (1 ≤ i ∧ at_ (at_ v_1 (i - 1).toNat) (j - 0).toNat = lb3 v_1 i j)) ∧ (3 ≤ (0 + 1) → False) ∧ True from ⟨(by omega), (by exact ⟨rfl, rfl⟩), (by first | exact fun _ => hno1 (by omega) | exact fun _ q => absurd q.1 (by assumption) | exact fun _ q => absurd q.2.1 (by assumption) | exact fun _ q => absurd q.2.2 (by assumption)), (by first | exact fun q => absurd q (by decide) | exact fun _ => hno2 (by omega) | exact fun _ q => absurd q.1 (by assumption) | exact fun _ q => absurd q.2 (by assumption)), (by first | exact fun q => absurd q (by decide) | exact fun _ => absurd (nx_3 hab htb (by omega) (by omega) hbb h00 (hno1 (by omega)) (hno2 (by omega))).2.1 (by assumption) | exact fun _ => absurd (nx_3 hab htb (by omega) (by omega) hbb h00 (hno1 (by omega)) (hno2 (by omega))).2.2 (by assumption)), trivial⟩) (by first | (show (((3 : Int) - (0 + 1)).toNat : Nat) < ((3 : Int) - t51).toNat; omega) | (dsimp only; omega))
        ·refine x_reg [(3, .dec true), (8, .dec false)] [9, 10, 11, 12, 13, 15, 50, 51, 80] [15, 39] [slLI true v_1, I i, I j, .arr 39, I (lb3 v_1 i j), .ref 15 0, .agg [I 1, I 1, I 1, I 0, I 0, I 1], I 0, Bv false] [some (.box [I 1, I 1]), some (.arr 2 back.length (fPair back))] [(0 : Int) ≤ 0 ∧ 0 < (2 : Int), 1 ≤ i, (0 : Int) ≤ 1 ∧ 1 < (2 : Int), ¬ (1 ≤ j)] (by kernel_rfl) ⟨⟨by decide, by decide⟩, h3, ⟨by decide, by decide⟩, h4, trivial⟩ ?_
         refine xe_then ?_
         refine x_false rfl ?_
         refine x_skip ?_
         refine xe_block 3 ?_
         refine xe_then ?_
         refine x_reg [] [9, 10, 11, 12, 13, 50, 51] [39] [slLI true v_1, I i, I j, .arr 39, I (lb3 v_1 i j), .agg [I 1, I 1, I 1, I 0, I 0, I 1], I (0 + 1)] [some (.arr 2 back.length (fPair back))] [inR .i64 (0 + 1)] (by kernel_rfl) ⟨(inR_i64 (by omega) (by omega)), trivial⟩ ?_
         exact xe_again (i, j, (0 + 1)) rfl (show (0 ≤ (0 + 1) ∧ (0 + 1) ≤ 3) ∧ (i = i ∧ j = j) ∧ (1 ≤ (0 + 1) → ¬ (1 ≤ i ∧ 1 ≤ j ∧ at_ (at_ v_1 (i - 1).toNat) (j - 1).toNat = lb3 v_1 i j)) ∧ (2 ≤ (0 + 1) → ¬ (1 ≤ i ∧ at_ (at_ v_1 (i - 1).toNat) (j - 0).toNat = lb3 v_1 i j)) ∧ (3 ≤ (0 + 1) → False) ∧ True from ⟨(by omega), (by exact ⟨rfl, rfl⟩), (by first | exact fun _ => hno1 (by omega) | exact fun _ q => absurd q.1 (by assumption) | exact fun _ q => absurd q.2.1 (by assumption) | exact fun _ q => absurd q.2.2 (by assumption)), (by first | exact fun q => absurd q (by decide) | exact fun _ => hno2 (by omega) | exact fun _ q => absurd q.1 (by assumption) | exact fun _ q => absurd q.2 (by assumption)), (by first | exact fun q => absurd q (by decide) | exact fun _ => absurd (nx_3 hab htb (by omega) (by omega) hbb h00 (hno1 (by omega)) (hno2 (by omega))).2.1 (by assumption) | exact fun _ => absurd (nx_3 hab htb (by omega) (by omega) hbb h00 (hno1 (by omega)) (hno2 (by omega))).2.2 (by assumption)), trivial⟩) (by first | (show (((3 : Int) - (0 + 1)).toNat : Nat) < ((3 : Int) - t51).toNat; omega) | (dsimp only; omega))
       ·refine x_reg [(3, .dec false)] [9, 10, 11, 12, 13, 15, 50, 51, 80] [15, 39] [slLI true v_1, I i, I j, .arr 39, I (lb3 v_1 i j), .ref 15 0, .agg [I 1, I 1, I 1, I 0, I 0, I 1], I 0, Bv false] [some (.box [I 1, I 1]), some (.arr 2 back.length (fPair back))] [(0 : Int) ≤ 0 ∧ 0 < (2 : Int), ¬ (1 ≤ i)] (by kernel_rfl) ⟨⟨by decide, by decide⟩, h3, trivial⟩ ?_
        refine xe_then ?_
        refine x_false rfl ?_
        refine x_skip ?_
        refine xe_block 3 ?_
        refine xe_then ?_
        refine x_reg [] [9, 10, 11, 12, 13, 50, 51] [39] [slLI true v_1, I i, I j, .arr 39, I (lb3 v_1 i j), .agg [I 1, I 1, I 1, I 0, I 0, I 1], I (0 + 1)] [some (.arr 2 back.length (fPair back))] [inR .i64 (0 + 1)] (by kernel_rfl) ⟨(inR_i64 (by omega) (by omega)), trivial⟩ ?_
        exact xe_again (i, j, (0 + 1)) rfl (show (0 ≤ (0 + 1) ∧ (0 + 1) ≤ 3) ∧ (i = i ∧ j = j) ∧ (1 ≤ (0 + 1) → ¬ (1 ≤ i ∧ 1 ≤ j ∧ at_ (at_ v_1 (i - 1).toNat) (j - 1).toNat = lb3 v_1 i j)) ∧ (2 ≤ (0 + 1) → ¬ (1 ≤ i ∧ at_ (at_ v_1 (i - 1).toNat) (j - 0).toNat = lb3 v_1 i j)) ∧ (3 ≤ (0 + 1) → False) ∧ True from ⟨(by omega), (by exact ⟨rfl, rfl⟩), (by first | exact fun _ => hno1 (by omega) | exact fun _ q => absurd q.1 (by assumption) | exact fun _ q => absurd q.2.1 (by assumption) | exact fun _ q => absurd q.2.2 (by assumption)), (by first | exact fun q => absurd q (by decide) | exact fun _ => hno2 (by omega) | exact fun _ q => absurd q.1 (by assumption) | exact fun _ q => absurd q.2 (by assumption)), (by first | exact fun q => absurd q (by decide) | exact fun _ => absurd (nx_3 hab htb (by omega) (by omega) hbb h00 (hno1 (by omega)) (hno2 (by omega))).2.1 (by assumption) | exact fun _ => absurd (nx_3 hab htb (by omega) (by omega) hbb h00 (hno1 (by omega)) (hno2 (by omega))).2.2 (by assumption)), trivial⟩) (by first | (show (((3 : Int) - (0 + 1)).toNat : Nat) < ((3 : Int) - t51).toNat; omega) | (dsimp only; omega))
      ·refine x_reg [(0, .dec true)] [9, 10, 11, 12, 13, 50, 51, 52] [39] [slLI true v_1, I i, I j, .arr 39, I (lb3 v_1 i j), .agg [I 1, I 1, I 1, I 0, I 0, I 1], I 1, Bv true] [some (.arr 2 back.length (fPair back))] [(1 : Int) < 3] (by kernel_rfl) ⟨(by decide), trivial⟩ ?_
       refine xe_then ?_
       refine x_seq ?_
       refine x_true rfl ?_
       refine x_skip ?_
       refine xe_then ?_
       refine x_seq ?_
       refine x_block ?_
       refine x_seq ?_
       refine x_reg [(1, .new 15)] [9, 10, 11, 12, 13, 15, 50, 51] [15, 39] [slLI true v_1, I i, I j, .arr 39, I (lb3 v_1 i j), .ref 15 0, .agg [I 1, I 1, I 1, I 0, I 0, I 1], I 1] [some (.box [I 1, I 0]), some (.arr 2 back.length (fPair back))] [(0 : Int) ≤ 1 ∧ 1 < (3 : Int)] (by kernel_rfl) ⟨⟨by decide, by decide⟩, trivial⟩ ?_
       refine xe_then ?_
       refine x_seq ?_
       by_cases h6 : 1 ≤ i
       ·by_cases h7 : (at_ (at_ v_1 ((i - 1).toNat)) ((j - 0).toNat)) = (lb3 v_1 i j)
        ·have hnx := nx_2 hab htb (by omega) (by omega) hbb h00 (hno1 (by omega)) ⟨by omega, h7⟩
         have hgo := (nx_go hab (by omega) (by omega) hbb h00 hnx (s := 0)).1
         have hr1 := hnx.1
         have hr2 := hnx.2.1
         have htx := tot_next hab (by omega) (by omega) hbb h00 hnx hsm htt
         refine x_reg [(3, .dec true), (8, .dec true), (25, .dec true)] [9, 10, 11, 12, 13, 15, 50, 51, 80] [15, 39] [slLI true v_1, I i, I j, .arr 39, I (lb3 v_1 i j), .ref 15 0, .agg [I 1, I 1, I 1, I 0, I 0, I 1], I 1, Bv true] [some (.box [I 1, I 0]), some (.arr 2 back.length (fPair back))] [(0 : Int) ≤ 0 ∧ 0 < (2 : Int), 1 ≤ i, (0 : Int) ≤ 1 ∧ 1 < (2 : Int), 0 ≤ j, (0 : Int) ≤ 0 ∧ 0 < (2 : Int), inR .i64 (i - 1), (0 : Int) ≤ (i - 1) ∧ (i - 1) < (v_1.length : Int), (0 : Int) ≤ 1 ∧ 1 < (2 : Int), inR .i64 (j - 0), (0 : Int) ≤ (j - 0) ∧ (j - 0) < (((at_ v_1 ((i - 1).toNat)).length) : Int), (at_ (at_ v_1 ((i - 1).toNat)) ((j - 0).toNat)) = (lb3 v_1 i j)] (by kernel_rfl) ⟨⟨by decide, by decide⟩, h6, ⟨by decide, by decide⟩, (by omega), ⟨by decide, by decide⟩, (inR_i64 (by omega) (by omega)), ⟨(by omega), (by omega)⟩, ⟨by decide, by decide⟩, (inR_i64 (by omega) (by omega)), ⟨(by omega), (by omega)⟩, h7, trivial⟩ ?_
         refine xe_then ?_
         refine x_true rfl ?_
         refine x_seq ?_
         refine x_reg [] [9, 10, 11, 12] [39] [slLI true v_1, I (i - 1), I (j - 0), .arr 39] [some (.arr 2 back.length (fPair back))] [(0 : Int) ≤ 0 ∧ 0 < (2 : Int), inR .i64 (i - 1), (0 : Int) ≤ 1 ∧ 1 < (2 : Int), inR .i64 (j - 0)] (by kernel_rfl) ⟨⟨by decide, by decide⟩, (inR_i64 (by omega) (by omega)), ⟨by decide, by decide⟩, (inR_i64 (by omega) (by omega)), trivial⟩ ?_
         refine xe_then ?_
         refine x_exit ?_
         refine xe_exit_other rfl ?_
         refine xe_exit_then ?_
         refine xe_loop_exit ?_
         refine xe_exit_same ?_
         refine xe_then ?_
         refine x_reg [(4, .new 94), (5, .new 95)] [9, 10, 11, 12] [95] [slLI true v_1, I (i - 1), I (j - 0), .arr 95] [some (.arr 2 (back.length + 1) (catF back.length (fPair back) (litF [I (i - 1), I (j - 0)] 2)))] [(back.length + 1) * 16 ≤ 140737488355328] (by kernel_rfl) ⟨(by omega), trivial⟩ ?_
         refine xe_block 1 ?_
         refine xe_weak [(39, 95)] (T := [(9, slLI true v_1), (10, I (i - 1)), (11, I (j - 0)), (12, .arr 39)]) (O := [(39, .arr 2 ((back ++ [(Pair.mk (i - 1) (j - 0))]).length) (fPair (back ++ [(Pair.mk (i - 1) (j - 0))])))]) rfl (⟨.inl rfl, .inl rfl, .inl rfl, .inl rfl, trivial⟩) (⟨.inr ⟨rfl, (by first | rfl | (simp; done) | (simp; omega) | omega), fun i_ hi_ => .inl (cat_snoc (enc := cPair) (xs := back) rfl i_ hi_)⟩, trivial⟩) (xe_again ((i - 1), (j - 0), (back ++ [(Pair.mk (i - 1) (j - 0))])) rfl (show (0 ≤ (i - 1) ∧ (i - 1) < (a.length : Int)) ∧ (0 ≤ (j - 0) ∧ (j - 0) < (b.length : Int)) ∧ (inBd band (i - 1).toNat (j - 0).toNat) ∧ ((i - 1) + (j - 0) + ((back ++ [(Pair.mk (i - 1) (j - 0))]).length : Int) ≤ (a.length : Int) + (b.length : Int) - 1) ∧ ((back ++ [(Pair.mk (i - 1) (j - 0))]) ++ (bk a b band (a.length + b.length - (back ++ [(Pair.mk (i - 1) (j - 0))]).length) (i - 1).toNat (j - 0).toNat).tail = tot a b band) ∧ (1 ≤ (back ++ [(Pair.mk (i - 1) (j - 0))]).length) ∧ True from ⟨(by omega), (by omega), (by exact hgo.1), (by (simp; omega)), (by exact htx), (by (simp)), trivial⟩) (by first | (show (((i - 1) + (j - 0)).toNat : Nat) < (i + j).toNat; omega) | (dsimp only; omega)))
        ·refine x_reg [(3, .dec true), (8, .dec true), (25, .dec false)] [9, 10, 11, 12, 13, 15, 50, 51, 80] [15, 39] [slLI true v_1, I i, I j, .arr 39, I (lb3 v_1 i j), .ref 15 0, .agg [I 1, I 1, I 1, I 0, I 0, I 1], I 1, Bv false] [some (.box [I 1, I 0]), some (.arr 2 back.length (fPair back))] [(0 : Int) ≤ 0 ∧ 0 < (2 : Int), 1 ≤ i, (0 : Int) ≤ 1 ∧ 1 < (2 : Int), 0 ≤ j, (0 : Int) ≤ 0 ∧ 0 < (2 : Int), inR .i64 (i - 1), (0 : Int) ≤ (i - 1) ∧ (i - 1) < (v_1.length : Int), (0 : Int) ≤ 1 ∧ 1 < (2 : Int), inR .i64 (j - 0), (0 : Int) ≤ (j - 0) ∧ (j - 0) < (((at_ v_1 ((i - 1).toNat)).length) : Int), ¬ ((at_ (at_ v_1 ((i - 1).toNat)) ((j - 0).toNat)) = (lb3 v_1 i j))] (by kernel_rfl) ⟨⟨by decide, by decide⟩, h6, ⟨by decide, by decide⟩, (by omega), ⟨by decide, by decide⟩, (inR_i64 (by omega) (by omega)), ⟨(by omega), (by omega)⟩, ⟨by decide, by decide⟩, (inR_i64 (by omega) (by omega)), ⟨(by omega), (by omega)⟩, h7, trivial⟩ ?_
         refine xe_then ?_
         refine x_false rfl ?_
         refine x_skip ?_
         refine xe_block 3 ?_
         refine xe_then ?_
         refine x_reg [] [9, 10, 11, 12, 13, 50, 51] [39] [slLI true v_1, I i, I j, .arr 39, I (lb3 v_1 i j), .agg [I 1, I 1, I 1, I 0, I 0, I 1], I (1 + 1)] [some (.arr 2 back.length (fPair back))] [inR .i64 (1 + 1)] (by kernel_rfl) ⟨(inR_i64 (by omega) (by omega)), trivial⟩ ?_
         exact xe_again (i, j, (1 + 1)) rfl (show (0 ≤ (1 + 1) ∧ (1 + 1) ≤ 3) ∧ (i = i ∧ j = j) ∧ (1 ≤ (1 + 1) → ¬ (1 ≤ i ∧ 1 ≤ j ∧ at_ (at_ v_1 (i - 1).toNat) (j - 1).toNat = lb3 v_1 i j)) ∧ (2 ≤ (1 + 1) → ¬ (1 ≤ i ∧ at_ (at_ v_1 (i - 1).toNat) (j - 0).toNat = lb3 v_1 i j)) ∧ (3 ≤ (1 + 1) → False) ∧ True from ⟨(by omega), (by exact ⟨rfl, rfl⟩), (by first | exact fun _ => hno1 (by omega) | exact fun _ q => absurd q.1 (by assumption) | exact fun _ q => absurd q.2.1 (by assumption) | exact fun _ q => absurd q.2.2 (by assumption)), (by first | exact fun q => absurd q (by decide) | exact fun _ => hno2 (by omega) | exact fun _ q => absurd q.1 (by assumption) | exact fun _ q => absurd q.2 (by assumption)), (by first | exact fun q => absurd q (by decide) | exact fun _ => absurd (nx_3 hab htb (by omega) (by omega) hbb h00 (hno1 (by omega)) (hno2 (by omega))).2.1 (by assumption) | exact fun _ => absurd (nx_3 hab htb (by omega) (by omega) hbb h00 (hno1 (by omega)) (hno2 (by omega))).2.2 (by assumption)), trivial⟩) (by first | (show (((3 : Int) - (1 + 1)).toNat : Nat) < ((3 : Int) - t51).toNat; omega) | (dsimp only; omega))
       ·refine x_reg [(3, .dec false)] [9, 10, 11, 12, 13, 15, 50, 51, 80] [15, 39] [slLI true v_1, I i, I j, .arr 39, I (lb3 v_1 i j), .ref 15 0, .agg [I 1, I 1, I 1, I 0, I 0, I 1], I 1, Bv false] [some (.box [I 1, I 0]), some (.arr 2 back.length (fPair back))] [(0 : Int) ≤ 0 ∧ 0 < (2 : Int), ¬ (1 ≤ i)] (by kernel_rfl) ⟨⟨by decide, by decide⟩, h6, trivial⟩ ?_
        refine xe_then ?_
        refine x_false rfl ?_
        refine x_skip ?_
        refine xe_block 3 ?_
        refine xe_then ?_
        refine x_reg [] [9, 10, 11, 12, 13, 50, 51] [39] [slLI true v_1, I i, I j, .arr 39, I (lb3 v_1 i j), .agg [I 1, I 1, I 1, I 0, I 0, I 1], I (1 + 1)] [some (.arr 2 back.length (fPair back))] [inR .i64 (1 + 1)] (by kernel_rfl) ⟨(inR_i64 (by omega) (by omega)), trivial⟩ ?_
        exact xe_again (i, j, (1 + 1)) rfl (show (0 ≤ (1 + 1) ∧ (1 + 1) ≤ 3) ∧ (i = i ∧ j = j) ∧ (1 ≤ (1 + 1) → ¬ (1 ≤ i ∧ 1 ≤ j ∧ at_ (at_ v_1 (i - 1).toNat) (j - 1).toNat = lb3 v_1 i j)) ∧ (2 ≤ (1 + 1) → ¬ (1 ≤ i ∧ at_ (at_ v_1 (i - 1).toNat) (j - 0).toNat = lb3 v_1 i j)) ∧ (3 ≤ (1 + 1) → False) ∧ True from ⟨(by omega), (by exact ⟨rfl, rfl⟩), (by first | exact fun _ => hno1 (by omega) | exact fun _ q => absurd q.1 (by assumption) | exact fun _ q => absurd q.2.1 (by assumption) | exact fun _ q => absurd q.2.2 (by assumption)), (by first | exact fun q => absurd q (by decide) | exact fun _ => hno2 (by omega) | exact fun _ q => absurd q.1 (by assumption) | exact fun _ q => absurd q.2 (by assumption)), (by first | exact fun q => absurd q (by decide) | exact fun _ => absurd (nx_3 hab htb (by omega) (by omega) hbb h00 (hno1 (by omega)) (hno2 (by omega))).2.1 (by assumption) | exact fun _ => absurd (nx_3 hab htb (by omega) (by omega) hbb h00 (hno1 (by omega)) (hno2 (by omega))).2.2 (by assumption)), trivial⟩) (by first | (show (((3 : Int) - (1 + 1)).toNat : Nat) < ((3 : Int) - t51).toNat; omega) | (dsimp only; omega))
      ·refine x_reg [(0, .dec true)] [9, 10, 11, 12, 13, 50, 51, 52] [39] [slLI true v_1, I i, I j, .arr 39, I (lb3 v_1 i j), .agg [I 1, I 1, I 1, I 0, I 0, I 1], I 2, Bv true] [some (.arr 2 back.length (fPair back))] [(2 : Int) < 3] (by kernel_rfl) ⟨(by decide), trivial⟩ ?_
       refine xe_then ?_
       refine x_seq ?_
       refine x_true rfl ?_
       refine x_skip ?_
       refine xe_then ?_
       refine x_seq ?_
       refine x_block ?_
       refine x_seq ?_
       refine x_reg [(1, .new 15)] [9, 10, 11, 12, 13, 15, 50, 51] [15, 39] [slLI true v_1, I i, I j, .arr 39, I (lb3 v_1 i j), .ref 15 0, .agg [I 1, I 1, I 1, I 0, I 0, I 1], I 2] [some (.box [I 0, I 1]), some (.arr 2 back.length (fPair back))] [(0 : Int) ≤ 2 ∧ 2 < (3 : Int)] (by kernel_rfl) ⟨⟨by decide, by decide⟩, trivial⟩ ?_
       refine xe_then ?_
       refine x_seq ?_
       by_cases h8 : 1 ≤ j
       ·by_cases h9 : (at_ (at_ v_1 ((i - 0).toNat)) ((j - 1).toNat)) = (lb3 v_1 i j)
        ·have hnx := (nx_3 hab htb (by omega) (by omega) hbb h00 (hno1 (by omega)) (hno2 (by omega))).1
         have hgo := (nx_go hab (by omega) (by omega) hbb h00 hnx (s := 0)).1
         have hr1 := hnx.1
         have hr2 := hnx.2.1
         have htx := tot_next hab (by omega) (by omega) hbb h00 hnx hsm htt
         refine x_reg [(3, .dec true), (8, .dec true), (25, .dec true)] [9, 10, 11, 12, 13, 15, 50, 51, 80] [15, 39] [slLI true v_1, I i, I j, .arr 39, I (lb3 v_1 i j), .ref 15 0, .agg [I 1, I 1, I 1, I 0, I 0, I 1], I 2, Bv true] [some (.box [I 0, I 1]), some (.arr 2 back.length (fPair back))] [(0 : Int) ≤ 0 ∧ 0 < (2 : Int), 0 ≤ i, (0 : Int) ≤ 1 ∧ 1 < (2 : Int), 1 ≤ j, (0 : Int) ≤ 0 ∧ 0 < (2 : Int), inR .i64 (i - 0), (0 : Int) ≤ (i - 0) ∧ (i - 0) < (v_1.length : Int), (0 : Int) ≤ 1 ∧ 1 < (2 : Int), inR .i64 (j - 1), (0 : Int) ≤ (j - 1) ∧ (j - 1) < (((at_ v_1 ((i - 0).toNat)).length) : Int), (at_ (at_ v_1 ((i - 0).toNat)) ((j - 1).toNat)) = (lb3 v_1 i j)] (by kernel_rfl) ⟨⟨by decide, by decide⟩, (by omega), ⟨by decide, by decide⟩, h8, ⟨by decide, by decide⟩, (inR_i64 (by omega) (by omega)), ⟨(by omega), (by omega)⟩, ⟨by decide, by decide⟩, (inR_i64 (by omega) (by omega)), ⟨(by omega), (by omega)⟩, h9, trivial⟩ ?_
         refine xe_then ?_
         refine x_true rfl ?_
         refine x_seq ?_
         refine x_reg [] [9, 10, 11, 12] [39] [slLI true v_1, I (i - 0), I (j - 1), .arr 39] [some (.arr 2 back.length (fPair back))] [(0 : Int) ≤ 0 ∧ 0 < (2 : Int), inR .i64 (i - 0), (0 : Int) ≤ 1 ∧ 1 < (2 : Int), inR .i64 (j - 1)] (by kernel_rfl) ⟨⟨by decide, by decide⟩, (inR_i64 (by omega) (by omega)), ⟨by decide, by decide⟩, (inR_i64 (by omega) (by omega)), trivial⟩ ?_
         refine xe_then ?_
         refine x_exit ?_
         refine xe_exit_other rfl ?_
         refine xe_exit_then ?_
         refine xe_loop_exit ?_
         refine xe_exit_same ?_
         refine xe_then ?_
         refine x_reg [(4, .new 94), (5, .new 95)] [9, 10, 11, 12] [95] [slLI true v_1, I (i - 0), I (j - 1), .arr 95] [some (.arr 2 (back.length + 1) (catF back.length (fPair back) (litF [I (i - 0), I (j - 1)] 2)))] [(back.length + 1) * 16 ≤ 140737488355328] (by kernel_rfl) ⟨(by omega), trivial⟩ ?_
         refine xe_block 1 ?_
         refine xe_weak [(39, 95)] (T := [(9, slLI true v_1), (10, I (i - 0)), (11, I (j - 1)), (12, .arr 39)]) (O := [(39, .arr 2 ((back ++ [(Pair.mk (i - 0) (j - 1))]).length) (fPair (back ++ [(Pair.mk (i - 0) (j - 1))])))]) rfl (⟨.inl rfl, .inl rfl, .inl rfl, .inl rfl, trivial⟩) (⟨.inr ⟨rfl, (by first | rfl | (simp; done) | (simp; omega) | omega), fun i_ hi_ => .inl (cat_snoc (enc := cPair) (xs := back) rfl i_ hi_)⟩, trivial⟩) (xe_again ((i - 0), (j - 1), (back ++ [(Pair.mk (i - 0) (j - 1))])) rfl (show (0 ≤ (i - 0) ∧ (i - 0) < (a.length : Int)) ∧ (0 ≤ (j - 1) ∧ (j - 1) < (b.length : Int)) ∧ (inBd band (i - 0).toNat (j - 1).toNat) ∧ ((i - 0) + (j - 1) + ((back ++ [(Pair.mk (i - 0) (j - 1))]).length : Int) ≤ (a.length : Int) + (b.length : Int) - 1) ∧ ((back ++ [(Pair.mk (i - 0) (j - 1))]) ++ (bk a b band (a.length + b.length - (back ++ [(Pair.mk (i - 0) (j - 1))]).length) (i - 0).toNat (j - 1).toNat).tail = tot a b band) ∧ (1 ≤ (back ++ [(Pair.mk (i - 0) (j - 1))]).length) ∧ True from ⟨(by omega), (by omega), (by exact hgo.1), (by (simp; omega)), (by exact htx), (by (simp)), trivial⟩) (by first | (show (((i - 0) + (j - 1)).toNat : Nat) < (i + j).toNat; omega) | (dsimp only; omega)))
        ·refine x_reg [(3, .dec true), (8, .dec true), (25, .dec false)] [9, 10, 11, 12, 13, 15, 50, 51, 80] [15, 39] [slLI true v_1, I i, I j, .arr 39, I (lb3 v_1 i j), .ref 15 0, .agg [I 1, I 1, I 1, I 0, I 0, I 1], I 2, Bv false] [some (.box [I 0, I 1]), some (.arr 2 back.length (fPair back))] [(0 : Int) ≤ 0 ∧ 0 < (2 : Int), 0 ≤ i, (0 : Int) ≤ 1 ∧ 1 < (2 : Int), 1 ≤ j, (0 : Int) ≤ 0 ∧ 0 < (2 : Int), inR .i64 (i - 0), (0 : Int) ≤ (i - 0) ∧ (i - 0) < (v_1.length : Int), (0 : Int) ≤ 1 ∧ 1 < (2 : Int), inR .i64 (j - 1), (0 : Int) ≤ (j - 1) ∧ (j - 1) < (((at_ v_1 ((i - 0).toNat)).length) : Int), ¬ ((at_ (at_ v_1 ((i - 0).toNat)) ((j - 1).toNat)) = (lb3 v_1 i j))] (by kernel_rfl) ⟨⟨by decide, by decide⟩, (by omega), ⟨by decide, by decide⟩, h8, ⟨by decide, by decide⟩, (inR_i64 (by omega) (by omega)), ⟨(by omega), (by omega)⟩, ⟨by decide, by decide⟩, (inR_i64 (by omega) (by omega)), ⟨(by omega), (by omega)⟩, h9, trivial⟩ ?_
         refine xe_then ?_
         refine x_false rfl ?_
         refine x_skip ?_
         refine xe_block 3 ?_
         refine xe_then ?_
         refine x_reg [] [9, 10, 11, 12, 13, 50, 51] [39] [slLI true v_1, I i, I j, .arr 39, I (lb3 v_1 i j), .agg [I 1, I 1, I 1, I 0, I 0, I 1], I (2 + 1)] [some (.arr 2 back.length (fPair back))] [inR .i64 (2 + 1)] (by kernel_rfl) ⟨(inR_i64 (by omega) (by omega)), trivial⟩ ?_
         exact xe_again (i, j, (2 + 1)) rfl (show (0 ≤ (2 + 1) ∧ (2 + 1) ≤ 3) ∧ (i = i ∧ j = j) ∧ (1 ≤ (2 + 1) → ¬ (1 ≤ i ∧ 1 ≤ j ∧ at_ (at_ v_1 (i - 1).toNat) (j - 1).toNat = lb3 v_1 i j)) ∧ (2 ≤ (2 + 1) → ¬ (1 ≤ i ∧ at_ (at_ v_1 (i - 1).toNat) (j - 0).toNat = lb3 v_1 i j)) ∧ (3 ≤ (2 + 1) → False) ∧ True from ⟨(by omega), (by exact ⟨rfl, rfl⟩), (by first | exact fun _ => hno1 (by omega) | exact fun _ q => absurd q.1 (by assumption) | exact fun _ q => absurd q.2.1 (by assumption) | exact fun _ q => absurd q.2.2 (by assumption)), (by first | exact fun q => absurd q (by decide) | exact fun _ => hno2 (by omega) | exact fun _ q => absurd q.1 (by assumption) | exact fun _ q => absurd q.2 (by assumption)), (by first | exact fun q => absurd q (by decide) | exact fun _ => absurd (nx_3 hab htb (by omega) (by omega) hbb h00 (hno1 (by omega)) (hno2 (by omega))).2.1 (by assumption) | exact fun _ => absurd (nx_3 hab htb (by omega) (by omega) hbb h00 (hno1 (by omega)) (hno2 (by omega))).2.2 (by assumption)), trivial⟩) (by first | (show (((3 : Int) - (2 + 1)).toNat : Nat) < ((3 : Int) - t51).toNat; omega) | (dsimp only; omega))
       ·refine x_reg [(3, .dec true), (8, .dec false)] [9, 10, 11, 12, 13, 15, 50, 51, 80] [15, 39] [slLI true v_1, I i, I j, .arr 39, I (lb3 v_1 i j), .ref 15 0, .agg [I 1, I 1, I 1, I 0, I 0, I 1], I 2, Bv false] [some (.box [I 0, I 1]), some (.arr 2 back.length (fPair back))] [(0 : Int) ≤ 0 ∧ 0 < (2 : Int), 0 ≤ i, (0 : Int) ≤ 1 ∧ 1 < (2 : Int), ¬ (1 ≤ j)] (by kernel_rfl) ⟨⟨by decide, by decide⟩, (by omega), ⟨by decide, by decide⟩, h8, trivial⟩ ?_
        refine xe_then ?_
        refine x_false rfl ?_
        refine x_skip ?_
        refine xe_block 3 ?_
        refine xe_then ?_
        refine x_reg [] [9, 10, 11, 12, 13, 50, 51] [39] [slLI true v_1, I i, I j, .arr 39, I (lb3 v_1 i j), .agg [I 1, I 1, I 1, I 0, I 0, I 1], I (2 + 1)] [some (.arr 2 back.length (fPair back))] [inR .i64 (2 + 1)] (by kernel_rfl) ⟨(inR_i64 (by omega) (by omega)), trivial⟩ ?_
        exact xe_again (i, j, (2 + 1)) rfl (show (0 ≤ (2 + 1) ∧ (2 + 1) ≤ 3) ∧ (i = i ∧ j = j) ∧ (1 ≤ (2 + 1) → ¬ (1 ≤ i ∧ 1 ≤ j ∧ at_ (at_ v_1 (i - 1).toNat) (j - 1).toNat = lb3 v_1 i j)) ∧ (2 ≤ (2 + 1) → ¬ (1 ≤ i ∧ at_ (at_ v_1 (i - 1).toNat) (j - 0).toNat = lb3 v_1 i j)) ∧ (3 ≤ (2 + 1) → False) ∧ True from ⟨(by omega), (by exact ⟨rfl, rfl⟩), (by first | exact fun _ => hno1 (by omega) | exact fun _ q => absurd q.1 (by assumption) | exact fun _ q => absurd q.2.1 (by assumption) | exact fun _ q => absurd q.2.2 (by assumption)), (by first | exact fun q => absurd q (by decide) | exact fun _ => hno2 (by omega) | exact fun _ q => absurd q.1 (by assumption) | exact fun _ q => absurd q.2 (by assumption)), (by first | exact fun q => absurd q (by decide) | exact fun _ => absurd (nx_3 hab htb (by omega) (by omega) hbb h00 (hno1 (by omega)) (hno2 (by omega))).2.1 (by assumption) | exact fun _ => absurd (nx_3 hab htb (by omega) (by omega) hbb h00 (hno1 (by omega)) (hno2 (by omega))).2.2 (by assumption)), trivial⟩) (by first | (show (((3 : Int) - (2 + 1)).toNat : Nat) < ((3 : Int) - t51).toNat; omega) | (dsimp only; omega))
     ·exact (hno3 (by omega)).elim
    ·by_cases h10 : 0 < j
     ·have h00 : ¬ (i = 0 ∧ j = 0) := by omega
      have hrl : 1 ≤ i → ((at_ v_1 (i - 1).toNat).length : Int) = b.length := fun q => by rw [(htb.2 (i - 1).toNat (by omega)).1]
      have hrz : ((at_ v_1 (i - 0).toNat).length : Int) = b.length := by rw [(htb.2 (i - 0).toNat (by omega)).1]
      have htl := htb.1
      refine x_reg [(1, .dec false), (4, .dec true)] [9, 10, 11, 12, 45] [39] [slLI true v_1, I i, I j, .arr 39, Bv true] [some (.arr 2 back.length (fPair back))] [¬ (0 < i), 0 < j] (by kernel_rfl) ⟨h1, h10, trivial⟩ ?_
      refine xe_then ?_
      refine x_true rfl ?_
      refine x_skip ?_
      refine xe_then ?_
      refine x_block ?_
      refine x_seq ?_
      refine x_reg [(3, .call [(false, slLI false v_1), (true, I i), (true, I j)] true (I (lb3 v_1 i j)))] [9, 10, 11, 12, 13] [39] [slLI true v_1, I i, I j, .arr 39, I (lb3 v_1 i j)] [some (.arr 2 back.length (fPair back))] [Con Try.prog 77 [slLI false v_1, I i, I j] true (I (lb3 v_1 i j)) ∧ ((false = true → true = true) ∧ 1 = 1 ∧ v_1.length = v_1.length ∧ ∀ i, i < v_1.length → (fLI true v_1) i = (fLI false v_1) i ∨ (AV.idsL ((fLI false v_1) i) = [] ∧ leL (fun _ => none) false ((fLI true v_1) i) ((fLI false v_1) i))) ∧ ((I i : AV) = I i) ∧ ((I j : AV) = I j) ∧ True] (by kernel_rfl) ⟨⟨(leastBefore_ok v_1 i j (by omega) (by omega) (fun q => by have := hrl q; omega) (fun q => by rw [hrz]; omega)), ⟨(fun h => by cases h), rfl, rfl, fun i _ => .inr ⟨idsLI _ _, leLI _ _ _⟩⟩, rfl, rfl, trivial⟩, trivial⟩ ?_
      refine xe_then ?_
      refine x_seq ?_
      refine x_seq ?_
      refine x_reg [(0, .call [] true (.agg [I 1, I 1, I 1, I 0, I 0, I 1]))] [9, 10, 11, 12, 13, 50, 51] [39] [slLI true v_1, I i, I j, .arr 39, I (lb3 v_1 i j), .agg [I 1, I 1, I 1, I 0, I 0, I 1], I 0] [some (.arr 2 back.length (fPair back))] [Con Try.prog 78 [] true (.agg [I 1, I 1, I 1, I 0, I 0, I 1]) ∧ True] (by kernel_rfl) ⟨⟨(stepsBack_ok), trivial⟩, trivial⟩ ?_
      refine xe_then ?_
      refine x_block ?_
      refine x_loop (X := Int × Int × Int) (fun x => mkS [(9, slLI true v_1), (10, I x.1), (11, I x.2.1), (12, .arr 39), (13, I (lb3 v_1 i j)), (50, .agg [I 1, I 1, I 1, I 0, I 0, I 1]), (51, I x.2.2)] [(39, .arr 2 back.length (fPair back))]) (fun x => (0 ≤ x.2.2 ∧ x.2.2 ≤ 3) ∧ (i = x.1 ∧ j = x.2.1) ∧ (1 ≤ x.2.2 → ¬ (1 ≤ i ∧ 1 ≤ j ∧ at_ (at_ v_1 (i - 1).toNat) (j - 1).toNat = lb3 v_1 i j)) ∧ (2 ≤ x.2.2 → ¬ (1 ≤ i ∧ at_ (at_ v_1 (i - 1).toNat) (j - 0).toNat = lb3 v_1 i j)) ∧ (3 ≤ x.2.2 → False) ∧ True) (fun x => ((3 : Int) - x.2.2).toNat) (i, j, 0) rfl (show (0 ≤ (0 : Int) ∧ (0 : Int) ≤ 3) ∧ (i = i ∧ j = j) ∧ (1 ≤ (0 : Int) → ¬ (1 ≤ i ∧ 1 ≤ j ∧ at_ (at_ v_1 (i - 1).toNat) (j - 1).toNat = lb3 v_1 i j)) ∧ (2 ≤ (0 : Int) → ¬ (1 ≤ i ∧ at_ (at_ v_1 (i - 1).toNat) (j - 0).toNat = lb3 v_1 i j)) ∧ (3 ≤ (0 : Int) → False) ∧ True from ⟨(by omega), (by exact ⟨rfl, rfl⟩), (by exact fun q => absurd q (by decide)), (by exact fun q => absurd q (by decide)), (by exact fun q => absurd q (by decide)), trivial⟩) (fun x hI => ?_)
      obtain ⟨i', j', t51⟩ := x
      obtain ⟨ht0, hij, hno1, hno2, hno3, _⟩ : (0 ≤ t51 ∧ t51 ≤ 3) ∧ (i = i' ∧ j = j') ∧ (1 ≤ t51 → ¬ (1 ≤ i ∧ 1 ≤ j ∧ at_ (at_ v_1 (i - 1).toNat) (j - 1).toNat = lb3 v_1 i j)) ∧ (2 ≤ t51 → ¬ (1 ≤ i ∧ at_ (at_ v_1 (i - 1).toNat) (j - 0).toNat = lb3 v_1 i j)) ∧ (3 ≤ t51 → False) ∧ True := hI
      show XW _ _ _ _ (mkS [(9, slLI true v_1), (10, I i'), (11, I j'), (12, .arr 39), (13, I (lb3 v_1 i j)), (50, .agg [I 1, I 1, I 1, I 0, I 0, I 1]), (51, I t51)] [(39, .arr 2 back.length (fPair back))]) _ _
      refine x_seq ?_
      by_cases h11 : t51 < 3
      ·obtain ⟨rfl, rfl⟩ := hij
       have hcs : t51 = 0 ∨ t51 = 1 ∨ t51 = 2 := by omega
       rcases hcs with rfl | rfl | rfl
       ·refine x_reg [(0, .dec true)] [9, 10, 11, 12, 13, 50, 51, 52] [39] [slLI true v_1, I i, I j, .arr 39, I (lb3 v_1 i j), .agg [I 1, I 1, I 1, I 0, I 0, I 1], I 0, Bv true] [some (.arr 2 back.length (fPair back))] [(0 : Int) < 3] (by kernel_rfl) ⟨(by decide), trivial⟩ ?_
        refine xe_then ?_
        refine x_seq ?_
        refine x_true rfl ?_
        refine x_skip ?_
        refine xe_then ?_
        refine x_seq ?_
        refine x_block ?_
        refine x_seq ?_
        refine x_reg [(1, .new 15)] [9, 10, 11, 12, 13, 15, 50, 51] [15, 39] [slLI true v_1, I i, I j, .arr 39, I (lb3 v_1 i j), .ref 15 0, .agg [I 1, I 1, I 1, I 0, I 0, I 1], I 0] [some (.box [I 1, I 1]), some (.arr 2 back.length (fPair back))] [(0 : Int) ≤ 0 ∧ 0 < (3 : Int)] (by kernel_rfl) ⟨⟨by decide, by decide⟩, trivial⟩ ?_
        refine xe_then ?_
        refine x_seq ?_
        by_cases h12 : 1 ≤ i
        ·by_cases h13 : 1 ≤ j
         ·by_cases h14 : (at_ (at_ v_1 ((i - 1).toNat)) ((j - 1).toNat)) = (lb3 v_1 i j)
          ·have hnx := nx_1 hab htb (by omega) (by omega) hbb h00 ⟨by omega, by omega, h14⟩
           have hgo := (nx_go hab (by omega) (by omega) hbb h00 hnx (s := 0)).1
           have hr1 := hnx.1
           have hr2 := hnx.2.1
           have htx := tot_next hab (by omega) (by omega) hbb h00 hnx hsm htt
           refine x_reg [(3, .dec true), (8, .dec true), (25, .dec true)] [9, 10, 11, 12, 13, 15, 50, 51, 80] [15, 39] [slLI true v_1, I i, I j, .arr 39, I (lb3 v_1 i j), .ref 15 0, .agg [I 1, I 1, I 1, I 0, I 0, I 1], I 0, Bv true] [some (.box [I 1, I 1]), some (.arr 2 back.length (fPair back))] [(0 : Int) ≤ 0 ∧ 0 < (2 : Int), 1 ≤ i, (0 : Int) ≤ 1 ∧ 1 < (2 : Int), 1 ≤ j, (0 : Int) ≤ 0 ∧ 0 < (2 : Int), inR .i64 (i - 1), (0 : Int) ≤ (i - 1) ∧ (i - 1) < (v_1.length : Int), (0 : Int) ≤ 1 ∧ 1 < (2 : Int), inR .i64 (j - 1), (0 : Int) ≤ (j - 1) ∧ (j - 1) < (((at_ v_1 ((i - 1).toNat)).length) : Int), (at_ (at_ v_1 ((i - 1).toNat)) ((j - 1).toNat)) = (lb3 v_1 i j)] (by kernel_rfl) ⟨⟨by decide, by decide⟩, h12, ⟨by decide, by decide⟩, h13, ⟨by decide, by decide⟩, (inR_i64 (by omega) (by omega)), ⟨(by omega), (by omega)⟩, ⟨by decide, by decide⟩, (inR_i64 (by omega) (by omega)), ⟨(by omega), (by omega)⟩, h14, trivial⟩ ?_
           refine xe_then ?_
           refine x_true rfl ?_
           refine x_seq ?_
           refine x_reg [] [9, 10, 11, 12] [39] [slLI true v_1, I (i - 1), I (j - 1), .arr 39] [some (.arr 2 back.length (fPair back))] [(0 : Int) ≤ 0 ∧ 0 < (2 : Int), inR .i64 (i - 1), (0 : Int) ≤ 1 ∧ 1 < (2 : Int), inR .i64 (j - 1)] (by kernel_rfl) ⟨⟨by decide, by decide⟩, (inR_i64 (by omega) (by omega)), ⟨by decide, by decide⟩, (inR_i64 (by omega) (by omega)), trivial⟩ ?_
           refine xe_then ?_
           refine x_exit ?_
           refine xe_exit_other rfl ?_
           refine xe_exit_then ?_
           refine xe_loop_exit ?_
           refine xe_exit_same ?_
           refine xe_then ?_
           refine x_reg [(4, .new 94), (5, .new 95)] [9, 10, 11, 12] [95] [slLI true v_1, I (i - 1), I (j - 1), .arr 95] [some (.arr 2 (back.length + 1) (catF back.length (fPair back) (litF [I (i - 1), I (j - 1)] 2)))] [(back.length + 1) * 16 ≤ 140737488355328] (by kernel_rfl) ⟨(by omega), trivial⟩ ?_
           refine xe_block 1 ?_
           refine xe_weak [(39, 95)] (T := [(9, slLI true v_1), (10, I (i - 1)), (11, I (j - 1)), (12, .arr 39)]) (O := [(39, .arr 2 ((back ++ [(Pair.mk (i - 1) (j - 1))]).length) (fPair (back ++ [(Pair.mk (i - 1) (j - 1))])))]) rfl (⟨.inl rfl, .inl rfl, .inl rfl, .inl rfl, trivial⟩) (⟨.inr ⟨rfl, (by first | rfl | (simp; done) | (simp; omega) | omega), fun i_ hi_ => .inl (cat_snoc (enc := cPair) (xs := back) rfl i_ hi_)⟩, trivial⟩) (xe_again ((i - 1), (j - 1), (back ++ [(Pair.mk (i - 1) (j - 1))])) rfl (show (0 ≤ (i - 1) ∧ (i - 1) < (a.length : Int)) ∧ (0 ≤ (j - 1) ∧ (j - 1) < (b.length : Int)) ∧ (inBd band (i - 1).toNat (j - 1).toNat) ∧ ((i - 1) + (j - 1) + ((back ++ [(Pair.mk (i - 1) (j - 1))]).length : Int) ≤ (a.length : Int) + (b.length : Int) - 1) ∧ ((back ++ [(Pair.mk (i - 1) (j - 1))]) ++ (bk a b band (a.length + b.length - (back ++ [(Pair.mk (i - 1) (j - 1))]).length) (i - 1).toNat (j - 1).toNat).tail = tot a b band) ∧ (1 ≤ (back ++ [(Pair.mk (i - 1) (j - 1))]).length) ∧ True from ⟨(by omega), (by omega), (by exact hgo.1), (by (simp; omega)), (by exact htx), (by (simp)), trivial⟩) (by first | (show (((i - 1) + (j - 1)).toNat : Nat) < (i + j).toNat; omega) | (dsimp only; omega)))
          ·refine x_reg [(3, .dec true), (8, .dec true), (25, .dec false)] [9, 10, 11, 12, 13, 15, 50, 51, 80] [15, 39] [slLI true v_1, I i, I j, .arr 39, I (lb3 v_1 i j), .ref 15 0, .agg [I 1, I 1, I 1, I 0, I 0, I 1], I 0, Bv false] [some (.box [I 1, I 1]), some (.arr 2 back.length (fPair back))] [(0 : Int) ≤ 0 ∧ 0 < (2 : Int), 1 ≤ i, (0 : Int) ≤ 1 ∧ 1 < (2 : Int), 1 ≤ j, (0 : Int) ≤ 0 ∧ 0 < (2 : Int), inR .i64 (i - 1), (0 : Int) ≤ (i - 1) ∧ (i - 1) < (v_1.length : Int), (0 : Int) ≤ 1 ∧ 1 < (2 : Int), inR .i64 (j - 1), (0 : Int) ≤ (j - 1) ∧ (j - 1) < (((at_ v_1 ((i - 1).toNat)).length) : Int), ¬ ((at_ (at_ v_1 ((i - 1).toNat)) ((j - 1).toNat)) = (lb3 v_1 i j))] (by kernel_rfl) ⟨⟨by decide, by decide⟩, h12, ⟨by decide, by decide⟩, h13, ⟨by decide, by decide⟩, (inR_i64 (by omega) (by omega)), ⟨(by omega), (by omega)⟩, ⟨by decide, by decide⟩, (inR_i64 (by omega) (by omega)), ⟨(by omega), (by omega)⟩, h14, trivial⟩ ?_
           refine xe_then ?_
           refine x_false rfl ?_
           refine x_skip ?_
           refine xe_block 3 ?_
           refine xe_then ?_
           refine x_reg [] [9, 10, 11, 12, 13, 50, 51] [39] [slLI true v_1, I i, I j, .arr 39, I (lb3 v_1 i j), .agg [I 1, I 1, I 1, I 0, I 0, I 1], I (0 + 1)] [some (.arr 2 back.length (fPair back))] [inR .i64 (0 + 1)] (by kernel_rfl) ⟨(inR_i64 (by omega) (by omega)), trivial⟩ ?_
           exact xe_again (i, j, (0 + 1)) rfl (show (0 ≤ (0 + 1) ∧ (0 + 1) ≤ 3) ∧ (i = i ∧ j = j) ∧ (1 ≤ (0 + 1) → ¬ (1 ≤ i ∧ 1 ≤ j ∧ at_ (at_ v_1 (i - 1).toNat) (j - 1).toNat = lb3 v_1 i j)) ∧ (2 ≤ (0 + 1) → ¬ (1 ≤ i ∧ at_ (at_ v_1 (i - 1).toNat) (j - 0).toNat = lb3 v_1 i j)) ∧ (3 ≤ (0 + 1) → False) ∧ True from ⟨(by omega), (by exact ⟨rfl, rfl⟩), (by first | exact fun _ => hno1 (by omega) | exact fun _ q => absurd q.1 (by assumption) | exact fun _ q => absurd q.2.1 (by assumption) | exact fun _ q => absurd q.2.2 (by assumption)), (by first | exact fun q => absurd q (by decide) | exact fun _ => hno2 (by omega) | exact fun _ q => absurd q.1 (by assumption) | exact fun _ q => absurd q.2 (by assumption)), (by first | exact fun q => absurd q (by decide) | exact fun _ => absurd (nx_3 hab htb (by omega) (by omega) hbb h00 (hno1 (by omega)) (hno2 (by omega))).2.1 (by assumption) | exact fun _ => absurd (nx_3 hab htb (by omega) (by omega) hbb h00 (hno1 (by omega)) (hno2 (by omega))).2.2 (by assumption)), trivial⟩) (by first | (show (((3 : Int) - (0 + 1)).toNat : Nat) < ((3 : Int) - t51).toNat; omega) | (dsimp only; omega))
         ·refine x_reg [(3, .dec true), (8, .dec false)] [9, 10, 11, 12, 13, 15, 50, 51, 80] [15, 39] [slLI true v_1, I i, I j, .arr 39, I (lb3 v_1 i j), .ref 15 0, .agg [I 1, I 1, I 1, I 0, I 0, I 1], I 0, Bv false] [some (.box [I 1, I 1]), some (.arr 2 back.length (fPair back))] [(0 : Int) ≤ 0 ∧ 0 < (2 : Int), 1 ≤ i, (0 : Int) ≤ 1 ∧ 1 < (2 : Int), ¬ (1 ≤ j)] (by kernel_rfl) ⟨⟨by decide, by decide⟩, h12, ⟨by decide, by decide⟩, h13, trivial⟩ ?_
          refine xe_then ?_
          refine x_false rfl ?_
          refine x_skip ?_
          refine xe_block 3 ?_
          refine xe_then ?_
          refine x_reg [] [9, 10, 11, 12, 13, 50, 51] [39] [slLI true v_1, I i, I j, .arr 39, I (lb3 v_1 i j), .agg [I 1, I 1, I 1, I 0, I 0, I 1], I (0 + 1)] [some (.arr 2 back.length (fPair back))] [inR .i64 (0 + 1)] (by kernel_rfl) ⟨(inR_i64 (by omega) (by omega)), trivial⟩ ?_
          exact xe_again (i, j, (0 + 1)) rfl (show (0 ≤ (0 + 1) ∧ (0 + 1) ≤ 3) ∧ (i = i ∧ j = j) ∧ (1 ≤ (0 + 1) → ¬ (1 ≤ i ∧ 1 ≤ j ∧ at_ (at_ v_1 (i - 1).toNat) (j - 1).toNat = lb3 v_1 i j)) ∧ (2 ≤ (0 + 1) → ¬ (1 ≤ i ∧ at_ (at_ v_1 (i - 1).toNat) (j - 0).toNat = lb3 v_1 i j)) ∧ (3 ≤ (0 + 1) → False) ∧ True from ⟨(by omega), (by exact ⟨rfl, rfl⟩), (by first | exact fun _ => hno1 (by omega) | exact fun _ q => absurd q.1 (by assumption) | exact fun _ q => absurd q.2.1 (by assumption) | exact fun _ q => absurd q.2.2 (by assumption)), (by first | exact fun q => absurd q (by decide) | exact fun _ => hno2 (by omega) | exact fun _ q => absurd q.1 (by assumption) | exact fun _ q => absurd q.2 (by assumption)), (by first | exact fun q => absurd q (by decide) | exact fun _ => absurd (nx_3 hab htb (by omega) (by omega) hbb h00 (hno1 (by omega)) (hno2 (by omega))).2.1 (by assumption) | exact fun _ => absurd (nx_3 hab htb (by omega) (by omega) hbb h00 (hno1 (by omega)) (hno2 (by omega))).2.2 (by assumption)), trivial⟩) (by first | (show (((3 : Int) - (0 + 1)).toNat : Nat) < ((3 : Int) - t51).toNat; omega) | (dsimp only; omega))
        ·refine x_reg [(3, .dec false)] [9, 10, 11, 12, 13, 15, 50, 51, 80] [15, 39] [slLI true v_1, I i, I j, .arr 39, I (lb3 v_1 i j), .ref 15 0, .agg [I 1, I 1, I 1, I 0, I 0, I 1], I 0, Bv false] [some (.box [I 1, I 1]), some (.arr 2 back.length (fPair back))] [(0 : Int) ≤ 0 ∧ 0 < (2 : Int), ¬ (1 ≤ i)] (by kernel_rfl) ⟨⟨by decide, by decide⟩, h12, trivial⟩ ?_
         refine xe_then ?_
         refine x_false rfl ?_
         refine x_skip ?_
         refine xe_block 3 ?_
         refine xe_then ?_
         refine x_reg [] [9, 10, 11, 12, 13, 50, 51] [39] [slLI true v_1, I i, I j, .arr 39, I (lb3 v_1 i j), .agg [I 1, I 1, I 1, I 0, I 0, I 1], I (0 + 1)] [some (.arr 2 back.length (fPair back))] [inR .i64 (0 + 1)] (by kernel_rfl) ⟨(inR_i64 (by omega) (by omega)), trivial⟩ ?_
         exact xe_again (i, j, (0 + 1)) rfl (show (0 ≤ (0 + 1) ∧ (0 + 1) ≤ 3) ∧ (i = i ∧ j = j) ∧ (1 ≤ (0 + 1) → ¬ (1 ≤ i ∧ 1 ≤ j ∧ at_ (at_ v_1 (i - 1).toNat) (j - 1).toNat = lb3 v_1 i j)) ∧ (2 ≤ (0 + 1) → ¬ (1 ≤ i ∧ at_ (at_ v_1 (i - 1).toNat) (j - 0).toNat = lb3 v_1 i j)) ∧ (3 ≤ (0 + 1) → False) ∧ True from ⟨(by omega), (by exact ⟨rfl, rfl⟩), (by first | exact fun _ => hno1 (by omega) | exact fun _ q => absurd q.1 (by assumption) | exact fun _ q => absurd q.2.1 (by assumption) | exact fun _ q => absurd q.2.2 (by assumption)), (by first | exact fun q => absurd q (by decide) | exact fun _ => hno2 (by omega) | exact fun _ q => absurd q.1 (by assumption) | exact fun _ q => absurd q.2 (by assumption)), (by first | exact fun q => absurd q (by decide) | exact fun _ => absurd (nx_3 hab htb (by omega) (by omega) hbb h00 (hno1 (by omega)) (hno2 (by omega))).2.1 (by assumption) | exact fun _ => absurd (nx_3 hab htb (by omega) (by omega) hbb h00 (hno1 (by omega)) (hno2 (by omega))).2.2 (by assumption)), trivial⟩) (by first | (show (((3 : Int) - (0 + 1)).toNat : Nat) < ((3 : Int) - t51).toNat; omega) | (dsimp only; omega))
       ·refine x_reg [(0, .dec true)] [9, 10, 11, 12, 13, 50, 51, 52] [39] [slLI true v_1, I i, I j, .arr 39, I (lb3 v_1 i j), .agg [I 1, I 1, I 1, I 0, I 0, I 1], I 1, Bv true] [some (.arr 2 back.length (fPair back))] [(1 : Int) < 3] (by kernel_rfl) ⟨(by decide), trivial⟩ ?_
        refine xe_then ?_
        refine x_seq ?_
        refine x_true rfl ?_
        refine x_skip ?_
        refine xe_then ?_
        refine x_seq ?_
        refine x_block ?_
        refine x_seq ?_
        refine x_reg [(1, .new 15)] [9, 10, 11, 12, 13, 15, 50, 51] [15, 39] [slLI true v_1, I i, I j, .arr 39, I (lb3 v_1 i j), .ref 15 0, .agg [I 1, I 1, I 1, I 0, I 0, I 1], I 1] [some (.box [I 1, I 0]), some (.arr 2 back.length (fPair back))] [(0 : Int) ≤ 1 ∧ 1 < (3 : Int)] (by kernel_rfl) ⟨⟨by decide, by decide⟩, trivial⟩ ?_
        refine xe_then ?_
        refine x_seq ?_
        by_cases h15 : 1 ≤ i
        ·by_cases h16 : (at_ (at_ v_1 ((i - 1).toNat)) ((j - 0).toNat)) = (lb3 v_1 i j)
         ·have hnx := nx_2 hab htb (by omega) (by omega) hbb h00 (hno1 (by omega)) ⟨by omega, h16⟩
          have hgo := (nx_go hab (by omega) (by omega) hbb h00 hnx (s := 0)).1
          have hr1 := hnx.1
          have hr2 := hnx.2.1
          have htx := tot_next hab (by omega) (by omega) hbb h00 hnx hsm htt
          refine x_reg [(3, .dec true), (8, .dec true), (25, .dec true)] [9, 10, 11, 12, 13, 15, 50, 51, 80] [15, 39] [slLI true v_1, I i, I j, .arr 39, I (lb3 v_1 i j), .ref 15 0, .agg [I 1, I 1, I 1, I 0, I 0, I 1], I 1, Bv true] [some (.box [I 1, I 0]), some (.arr 2 back.length (fPair back))] [(0 : Int) ≤ 0 ∧ 0 < (2 : Int), 1 ≤ i, (0 : Int) ≤ 1 ∧ 1 < (2 : Int), 0 ≤ j, (0 : Int) ≤ 0 ∧ 0 < (2 : Int), inR .i64 (i - 1), (0 : Int) ≤ (i - 1) ∧ (i - 1) < (v_1.length : Int), (0 : Int) ≤ 1 ∧ 1 < (2 : Int), inR .i64 (j - 0), (0 : Int) ≤ (j - 0) ∧ (j - 0) < (((at_ v_1 ((i - 1).toNat)).length) : Int), (at_ (at_ v_1 ((i - 1).toNat)) ((j - 0).toNat)) = (lb3 v_1 i j)] (by kernel_rfl) ⟨⟨by decide, by decide⟩, h15, ⟨by decide, by decide⟩, (by omega), ⟨by decide, by decide⟩, (inR_i64 (by omega) (by omega)), ⟨(by omega), (by omega)⟩, ⟨by decide, by decide⟩, (inR_i64 (by omega) (by omega)), ⟨(by omega), (by omega)⟩, h16, trivial⟩ ?_
          refine xe_then ?_
          refine x_true rfl ?_
          refine x_seq ?_
          refine x_reg [] [9, 10, 11, 12] [39] [slLI true v_1, I (i - 1), I (j - 0), .arr 39] [some (.arr 2 back.length (fPair back))] [(0 : Int) ≤ 0 ∧ 0 < (2 : Int), inR .i64 (i - 1), (0 : Int) ≤ 1 ∧ 1 < (2 : Int), inR .i64 (j - 0)] (by kernel_rfl) ⟨⟨by decide, by decide⟩, (inR_i64 (by omega) (by omega)), ⟨by decide, by decide⟩, (inR_i64 (by omega) (by omega)), trivial⟩ ?_
          refine xe_then ?_
          refine x_exit ?_
          refine xe_exit_other rfl ?_
          refine xe_exit_then ?_
          refine xe_loop_exit ?_
          refine xe_exit_same ?_
          refine xe_then ?_
          refine x_reg [(4, .new 94), (5, .new 95)] [9, 10, 11, 12] [95] [slLI true v_1, I (i - 1), I (j - 0), .arr 95] [some (.arr 2 (back.length + 1) (catF back.length (fPair back) (litF [I (i - 1), I (j - 0)] 2)))] [(back.length + 1) * 16 ≤ 140737488355328] (by kernel_rfl) ⟨(by omega), trivial⟩ ?_
          refine xe_block 1 ?_
          refine xe_weak [(39, 95)] (T := [(9, slLI true v_1), (10, I (i - 1)), (11, I (j - 0)), (12, .arr 39)]) (O := [(39, .arr 2 ((back ++ [(Pair.mk (i - 1) (j - 0))]).length) (fPair (back ++ [(Pair.mk (i - 1) (j - 0))])))]) rfl (⟨.inl rfl, .inl rfl, .inl rfl, .inl rfl, trivial⟩) (⟨.inr ⟨rfl, (by first | rfl | (simp; done) | (simp; omega) | omega), fun i_ hi_ => .inl (cat_snoc (enc := cPair) (xs := back) rfl i_ hi_)⟩, trivial⟩) (xe_again ((i - 1), (j - 0), (back ++ [(Pair.mk (i - 1) (j - 0))])) rfl (show (0 ≤ (i - 1) ∧ (i - 1) < (a.length : Int)) ∧ (0 ≤ (j - 0) ∧ (j - 0) < (b.length : Int)) ∧ (inBd band (i - 1).toNat (j - 0).toNat) ∧ ((i - 1) + (j - 0) + ((back ++ [(Pair.mk (i - 1) (j - 0))]).length : Int) ≤ (a.length : Int) + (b.length : Int) - 1) ∧ ((back ++ [(Pair.mk (i - 1) (j - 0))]) ++ (bk a b band (a.length + b.length - (back ++ [(Pair.mk (i - 1) (j - 0))]).length) (i - 1).toNat (j - 0).toNat).tail = tot a b band) ∧ (1 ≤ (back ++ [(Pair.mk (i - 1) (j - 0))]).length) ∧ True from ⟨(by omega), (by omega), (by exact hgo.1), (by (simp; omega)), (by exact htx), (by (simp)), trivial⟩) (by first | (show (((i - 1) + (j - 0)).toNat : Nat) < (i + j).toNat; omega) | (dsimp only; omega)))
         ·refine x_reg [(3, .dec true), (8, .dec true), (25, .dec false)] [9, 10, 11, 12, 13, 15, 50, 51, 80] [15, 39] [slLI true v_1, I i, I j, .arr 39, I (lb3 v_1 i j), .ref 15 0, .agg [I 1, I 1, I 1, I 0, I 0, I 1], I 1, Bv false] [some (.box [I 1, I 0]), some (.arr 2 back.length (fPair back))] [(0 : Int) ≤ 0 ∧ 0 < (2 : Int), 1 ≤ i, (0 : Int) ≤ 1 ∧ 1 < (2 : Int), 0 ≤ j, (0 : Int) ≤ 0 ∧ 0 < (2 : Int), inR .i64 (i - 1), (0 : Int) ≤ (i - 1) ∧ (i - 1) < (v_1.length : Int), (0 : Int) ≤ 1 ∧ 1 < (2 : Int), inR .i64 (j - 0), (0 : Int) ≤ (j - 0) ∧ (j - 0) < (((at_ v_1 ((i - 1).toNat)).length) : Int), ¬ ((at_ (at_ v_1 ((i - 1).toNat)) ((j - 0).toNat)) = (lb3 v_1 i j))] (by kernel_rfl) ⟨⟨by decide, by decide⟩, h15, ⟨by decide, by decide⟩, (by omega), ⟨by decide, by decide⟩, (inR_i64 (by omega) (by omega)), ⟨(by omega), (by omega)⟩, ⟨by decide, by decide⟩, (inR_i64 (by omega) (by omega)), ⟨(by omega), (by omega)⟩, h16, trivial⟩ ?_
          refine xe_then ?_
          refine x_false rfl ?_
          refine x_skip ?_
          refine xe_block 3 ?_
          refine xe_then ?_
          refine x_reg [] [9, 10, 11, 12, 13, 50, 51] [39] [slLI true v_1, I i, I j, .arr 39, I (lb3 v_1 i j), .agg [I 1, I 1, I 1, I 0, I 0, I 1], I (1 + 1)] [some (.arr 2 back.length (fPair back))] [inR .i64 (1 + 1)] (by kernel_rfl) ⟨(inR_i64 (by omega) (by omega)), trivial⟩ ?_
          exact xe_again (i, j, (1 + 1)) rfl (show (0 ≤ (1 + 1) ∧ (1 + 1) ≤ 3) ∧ (i = i ∧ j = j) ∧ (1 ≤ (1 + 1) → ¬ (1 ≤ i ∧ 1 ≤ j ∧ at_ (at_ v_1 (i - 1).toNat) (j - 1).toNat = lb3 v_1 i j)) ∧ (2 ≤ (1 + 1) → ¬ (1 ≤ i ∧ at_ (at_ v_1 (i - 1).toNat) (j - 0).toNat = lb3 v_1 i j)) ∧ (3 ≤ (1 + 1) → False) ∧ True from ⟨(by omega), (by exact ⟨rfl, rfl⟩), (by first | exact fun _ => hno1 (by omega) | exact fun _ q => absurd q.1 (by assumption) | exact fun _ q => absurd q.2.1 (by assumption) | exact fun _ q => absurd q.2.2 (by assumption)), (by first | exact fun q => absurd q (by decide) | exact fun _ => hno2 (by omega) | exact fun _ q => absurd q.1 (by assumption) | exact fun _ q => absurd q.2 (by assumption)), (by first | exact fun q => absurd q (by decide) | exact fun _ => absurd (nx_3 hab htb (by omega) (by omega) hbb h00 (hno1 (by omega)) (hno2 (by omega))).2.1 (by assumption) | exact fun _ => absurd (nx_3 hab htb (by omega) (by omega) hbb h00 (hno1 (by omega)) (hno2 (by omega))).2.2 (by assumption)), trivial⟩) (by first | (show (((3 : Int) - (1 + 1)).toNat : Nat) < ((3 : Int) - t51).toNat; omega) | (dsimp only; omega))
        ·refine x_reg [(3, .dec false)] [9, 10, 11, 12, 13, 15, 50, 51, 80] [15, 39] [slLI true v_1, I i, I j, .arr 39, I (lb3 v_1 i j), .ref 15 0, .agg [I 1, I 1, I 1, I 0, I 0, I 1], I 1, Bv false] [some (.box [I 1, I 0]), some (.arr 2 back.length (fPair back))] [(0 : Int) ≤ 0 ∧ 0 < (2 : Int), ¬ (1 ≤ i)] (by kernel_rfl) ⟨⟨by decide, by decide⟩, h15, trivial⟩ ?_
         refine xe_then ?_
         refine x_false rfl ?_
         refine x_skip ?_
         refine xe_block 3 ?_
         refine xe_then ?_
         refine x_reg [] [9, 10, 11, 12, 13, 50, 51] [39] [slLI true v_1, I i, I j, .arr 39, I (lb3 v_1 i j), .agg [I 1, I 1, I 1, I 0, I 0, I 1], I (1 + 1)] [some (.arr 2 back.length (fPair back))] [inR .i64 (1 + 1)] (by kernel_rfl) ⟨(inR_i64 (by omega) (by omega)), trivial⟩ ?_
         exact xe_again (i, j, (1 + 1)) rfl (show (0 ≤ (1 + 1) ∧ (1 + 1) ≤ 3) ∧ (i = i ∧ j = j) ∧ (1 ≤ (1 + 1) → ¬ (1 ≤ i ∧ 1 ≤ j ∧ at_ (at_ v_1 (i - 1).toNat) (j - 1).toNat = lb3 v_1 i j)) ∧ (2 ≤ (1 + 1) → ¬ (1 ≤ i ∧ at_ (at_ v_1 (i - 1).toNat) (j - 0).toNat = lb3 v_1 i j)) ∧ (3 ≤ (1 + 1) → False) ∧ True from ⟨(by omega), (by exact ⟨rfl, rfl⟩), (by first | exact fun _ => hno1 (by omega) | exact fun _ q => absurd q.1 (by assumption) | exact fun _ q => absurd q.2.1 (by assumption) | exact fun _ q => absurd q.2.2 (by assumption)), (by first | exact fun q => absurd q (by decide) | exact fun _ => hno2 (by omega) | exact fun _ q => absurd q.1 (by assumption) | exact fun _ q => absurd q.2 (by assumption)), (by first | exact fun q => absurd q (by decide) | exact fun _ => absurd (nx_3 hab htb (by omega) (by omega) hbb h00 (hno1 (by omega)) (hno2 (by omega))).2.1 (by assumption) | exact fun _ => absurd (nx_3 hab htb (by omega) (by omega) hbb h00 (hno1 (by omega)) (hno2 (by omega))).2.2 (by assumption)), trivial⟩) (by first | (show (((3 : Int) - (1 + 1)).toNat : Nat) < ((3 : Int) - t51).toNat; omega) | (dsimp only; omega))
       ·refine x_reg [(0, .dec true)] [9, 10, 11, 12, 13, 50, 51, 52] [39] [slLI true v_1, I i, I j, .arr 39, I (lb3 v_1 i j), .agg [I 1, I 1, I 1, I 0, I 0, I 1], I 2, Bv true] [some (.arr 2 back.length (fPair back))] [(2 : Int) < 3] (by kernel_rfl) ⟨(by decide), trivial⟩ ?_
        refine xe_then ?_
        refine x_seq ?_
        refine x_true rfl ?_
        refine x_skip ?_
        refine xe_then ?_
        refine x_seq ?_
        refine x_block ?_
        refine x_seq ?_
        refine x_reg [(1, .new 15)] [9, 10, 11, 12, 13, 15, 50, 51] [15, 39] [slLI true v_1, I i, I j, .arr 39, I (lb3 v_1 i j), .ref 15 0, .agg [I 1, I 1, I 1, I 0, I 0, I 1], I 2] [some (.box [I 0, I 1]), some (.arr 2 back.length (fPair back))] [(0 : Int) ≤ 2 ∧ 2 < (3 : Int)] (by kernel_rfl) ⟨⟨by decide, by decide⟩, trivial⟩ ?_
        refine xe_then ?_
        refine x_seq ?_
        by_cases h17 : 1 ≤ j
        ·by_cases h18 : (at_ (at_ v_1 ((i - 0).toNat)) ((j - 1).toNat)) = (lb3 v_1 i j)
         ·have hnx := (nx_3 hab htb (by omega) (by omega) hbb h00 (hno1 (by omega)) (hno2 (by omega))).1
          have hgo := (nx_go hab (by omega) (by omega) hbb h00 hnx (s := 0)).1
          have hr1 := hnx.1
          have hr2 := hnx.2.1
          have htx := tot_next hab (by omega) (by omega) hbb h00 hnx hsm htt
          refine x_reg [(3, .dec true), (8, .dec true), (25, .dec true)] [9, 10, 11, 12, 13, 15, 50, 51, 80] [15, 39] [slLI true v_1, I i, I j, .arr 39, I (lb3 v_1 i j), .ref 15 0, .agg [I 1, I 1, I 1, I 0, I 0, I 1], I 2, Bv true] [some (.box [I 0, I 1]), some (.arr 2 back.length (fPair back))] [(0 : Int) ≤ 0 ∧ 0 < (2 : Int), 0 ≤ i, (0 : Int) ≤ 1 ∧ 1 < (2 : Int), 1 ≤ j, (0 : Int) ≤ 0 ∧ 0 < (2 : Int), inR .i64 (i - 0), (0 : Int) ≤ (i - 0) ∧ (i - 0) < (v_1.length : Int), (0 : Int) ≤ 1 ∧ 1 < (2 : Int), inR .i64 (j - 1), (0 : Int) ≤ (j - 1) ∧ (j - 1) < (((at_ v_1 ((i - 0).toNat)).length) : Int), (at_ (at_ v_1 ((i - 0).toNat)) ((j - 1).toNat)) = (lb3 v_1 i j)] (by kernel_rfl) ⟨⟨by decide, by decide⟩, (by omega), ⟨by decide, by decide⟩, h17, ⟨by decide, by decide⟩, (inR_i64 (by omega) (by omega)), ⟨(by omega), (by omega)⟩, ⟨by decide, by decide⟩, (inR_i64 (by omega) (by omega)), ⟨(by omega), (by omega)⟩, h18, trivial⟩ ?_
          refine xe_then ?_
          refine x_true rfl ?_
          refine x_seq ?_
          refine x_reg [] [9, 10, 11, 12] [39] [slLI true v_1, I (i - 0), I (j - 1), .arr 39] [some (.arr 2 back.length (fPair back))] [(0 : Int) ≤ 0 ∧ 0 < (2 : Int), inR .i64 (i - 0), (0 : Int) ≤ 1 ∧ 1 < (2 : Int), inR .i64 (j - 1)] (by kernel_rfl) ⟨⟨by decide, by decide⟩, (inR_i64 (by omega) (by omega)), ⟨by decide, by decide⟩, (inR_i64 (by omega) (by omega)), trivial⟩ ?_
          refine xe_then ?_
          refine x_exit ?_
          refine xe_exit_other rfl ?_
          refine xe_exit_then ?_
          refine xe_loop_exit ?_
          refine xe_exit_same ?_
          refine xe_then ?_
          refine x_reg [(4, .new 94), (5, .new 95)] [9, 10, 11, 12] [95] [slLI true v_1, I (i - 0), I (j - 1), .arr 95] [some (.arr 2 (back.length + 1) (catF back.length (fPair back) (litF [I (i - 0), I (j - 1)] 2)))] [(back.length + 1) * 16 ≤ 140737488355328] (by kernel_rfl) ⟨(by omega), trivial⟩ ?_
          refine xe_block 1 ?_
          refine xe_weak [(39, 95)] (T := [(9, slLI true v_1), (10, I (i - 0)), (11, I (j - 1)), (12, .arr 39)]) (O := [(39, .arr 2 ((back ++ [(Pair.mk (i - 0) (j - 1))]).length) (fPair (back ++ [(Pair.mk (i - 0) (j - 1))])))]) rfl (⟨.inl rfl, .inl rfl, .inl rfl, .inl rfl, trivial⟩) (⟨.inr ⟨rfl, (by first | rfl | (simp; done) | (simp; omega) | omega), fun i_ hi_ => .inl (cat_snoc (enc := cPair) (xs := back) rfl i_ hi_)⟩, trivial⟩) (xe_again ((i - 0), (j - 1), (back ++ [(Pair.mk (i - 0) (j - 1))])) rfl (show (0 ≤ (i - 0) ∧ (i - 0) < (a.length : Int)) ∧ (0 ≤ (j - 1) ∧ (j - 1) < (b.length : Int)) ∧ (inBd band (i - 0).toNat (j - 1).toNat) ∧ ((i - 0) + (j - 1) + ((back ++ [(Pair.mk (i - 0) (j - 1))]).length : Int) ≤ (a.length : Int) + (b.length : Int) - 1) ∧ ((back ++ [(Pair.mk (i - 0) (j - 1))]) ++ (bk a b band (a.length + b.length - (back ++ [(Pair.mk (i - 0) (j - 1))]).length) (i - 0).toNat (j - 1).toNat).tail = tot a b band) ∧ (1 ≤ (back ++ [(Pair.mk (i - 0) (j - 1))]).length) ∧ True from ⟨(by omega), (by omega), (by exact hgo.1), (by (simp; omega)), (by exact htx), (by (simp)), trivial⟩) (by first | (show (((i - 0) + (j - 1)).toNat : Nat) < (i + j).toNat; omega) | (dsimp only; omega)))
         ·refine x_reg [(3, .dec true), (8, .dec true), (25, .dec false)] [9, 10, 11, 12, 13, 15, 50, 51, 80] [15, 39] [slLI true v_1, I i, I j, .arr 39, I (lb3 v_1 i j), .ref 15 0, .agg [I 1, I 1, I 1, I 0, I 0, I 1], I 2, Bv false] [some (.box [I 0, I 1]), some (.arr 2 back.length (fPair back))] [(0 : Int) ≤ 0 ∧ 0 < (2 : Int), 0 ≤ i, (0 : Int) ≤ 1 ∧ 1 < (2 : Int), 1 ≤ j, (0 : Int) ≤ 0 ∧ 0 < (2 : Int), inR .i64 (i - 0), (0 : Int) ≤ (i - 0) ∧ (i - 0) < (v_1.length : Int), (0 : Int) ≤ 1 ∧ 1 < (2 : Int), inR .i64 (j - 1), (0 : Int) ≤ (j - 1) ∧ (j - 1) < (((at_ v_1 ((i - 0).toNat)).length) : Int), ¬ ((at_ (at_ v_1 ((i - 0).toNat)) ((j - 1).toNat)) = (lb3 v_1 i j))] (by kernel_rfl) ⟨⟨by decide, by decide⟩, (by omega), ⟨by decide, by decide⟩, h17, ⟨by decide, by decide⟩, (inR_i64 (by omega) (by omega)), ⟨(by omega), (by omega)⟩, ⟨by decide, by decide⟩, (inR_i64 (by omega) (by omega)), ⟨(by omega), (by omega)⟩, h18, trivial⟩ ?_
          refine xe_then ?_
          refine x_false rfl ?_
          refine x_skip ?_
          refine xe_block 3 ?_
          refine xe_then ?_
          refine x_reg [] [9, 10, 11, 12, 13, 50, 51] [39] [slLI true v_1, I i, I j, .arr 39, I (lb3 v_1 i j), .agg [I 1, I 1, I 1, I 0, I 0, I 1], I (2 + 1)] [some (.arr 2 back.length (fPair back))] [inR .i64 (2 + 1)] (by kernel_rfl) ⟨(inR_i64 (by omega) (by omega)), trivial⟩ ?_
          exact xe_again (i, j, (2 + 1)) rfl (show (0 ≤ (2 + 1) ∧ (2 + 1) ≤ 3) ∧ (i = i ∧ j = j) ∧ (1 ≤ (2 + 1) → ¬ (1 ≤ i ∧ 1 ≤ j ∧ at_ (at_ v_1 (i - 1).toNat) (j - 1).toNat = lb3 v_1 i j)) ∧ (2 ≤ (2 + 1) → ¬ (1 ≤ i ∧ at_ (at_ v_1 (i - 1).toNat) (j - 0).toNat = lb3 v_1 i j)) ∧ (3 ≤ (2 + 1) → False) ∧ True from ⟨(by omega), (by exact ⟨rfl, rfl⟩), (by first | exact fun _ => hno1 (by omega) | exact fun _ q => absurd q.1 (by assumption) | exact fun _ q => absurd q.2.1 (by assumption) | exact fun _ q => absurd q.2.2 (by assumption)), (by first | exact fun q => absurd q (by decide) | exact fun _ => hno2 (by omega) | exact fun _ q => absurd q.1 (by assumption) | exact fun _ q => absurd q.2 (by assumption)), (by first | exact fun q => absurd q (by decide) | exact fun _ => absurd (nx_3 hab htb (by omega) (by omega) hbb h00 (hno1 (by omega)) (hno2 (by omega))).2.1 (by assumption) | exact fun _ => absurd (nx_3 hab htb (by omega) (by omega) hbb h00 (hno1 (by omega)) (hno2 (by omega))).2.2 (by assumption)), trivial⟩) (by first | (show (((3 : Int) - (2 + 1)).toNat : Nat) < ((3 : Int) - t51).toNat; omega) | (dsimp only; omega))
        ·refine x_reg [(3, .dec true), (8, .dec false)] [9, 10, 11, 12, 13, 15, 50, 51, 80] [15, 39] [slLI true v_1, I i, I j, .arr 39, I (lb3 v_1 i j), .ref 15 0, .agg [I 1, I 1, I 1, I 0, I 0, I 1], I 2, Bv false] [some (.box [I 0, I 1]), some (.arr 2 back.length (fPair back))] [(0 : Int) ≤ 0 ∧ 0 < (2 : Int), 0 ≤ i, (0 : Int) ≤ 1 ∧ 1 < (2 : Int), ¬ (1 ≤ j)] (by kernel_rfl) ⟨⟨by decide, by decide⟩, (by omega), ⟨by decide, by decide⟩, h17, trivial⟩ ?_
         refine xe_then ?_
         refine x_false rfl ?_
         refine x_skip ?_
         refine xe_block 3 ?_
         refine xe_then ?_
         refine x_reg [] [9, 10, 11, 12, 13, 50, 51] [39] [slLI true v_1, I i, I j, .arr 39, I (lb3 v_1 i j), .agg [I 1, I 1, I 1, I 0, I 0, I 1], I (2 + 1)] [some (.arr 2 back.length (fPair back))] [inR .i64 (2 + 1)] (by kernel_rfl) ⟨(inR_i64 (by omega) (by omega)), trivial⟩ ?_
         exact xe_again (i, j, (2 + 1)) rfl (show (0 ≤ (2 + 1) ∧ (2 + 1) ≤ 3) ∧ (i = i ∧ j = j) ∧ (1 ≤ (2 + 1) → ¬ (1 ≤ i ∧ 1 ≤ j ∧ at_ (at_ v_1 (i - 1).toNat) (j - 1).toNat = lb3 v_1 i j)) ∧ (2 ≤ (2 + 1) → ¬ (1 ≤ i ∧ at_ (at_ v_1 (i - 1).toNat) (j - 0).toNat = lb3 v_1 i j)) ∧ (3 ≤ (2 + 1) → False) ∧ True from ⟨(by omega), (by exact ⟨rfl, rfl⟩), (by first | exact fun _ => hno1 (by omega) | exact fun _ q => absurd q.1 (by assumption) | exact fun _ q => absurd q.2.1 (by assumption) | exact fun _ q => absurd q.2.2 (by assumption)), (by first | exact fun q => absurd q (by decide) | exact fun _ => hno2 (by omega) | exact fun _ q => absurd q.1 (by assumption) | exact fun _ q => absurd q.2 (by assumption)), (by first | exact fun q => absurd q (by decide) | exact fun _ => absurd (nx_3 hab htb (by omega) (by omega) hbb h00 (hno1 (by omega)) (hno2 (by omega))).2.1 (by assumption) | exact fun _ => absurd (nx_3 hab htb (by omega) (by omega) hbb h00 (hno1 (by omega)) (hno2 (by omega))).2.2 (by assumption)), trivial⟩) (by first | (show (((3 : Int) - (2 + 1)).toNat : Nat) < ((3 : Int) - t51).toNat; omega) | (dsimp only; omega))
      ·exact (hno3 (by omega)).elim
     ·have hfin := tot_end (by omega) htt
      have htn := tot_len a b band
      rw [← hfin] at htn
      refine x_reg [(1, .dec false), (4, .dec false)] [9, 10, 11, 12, 45] [39] [slLI true v_1, I i, I j, .arr 39, Bv false] [some (.arr 2 back.length (fPair back))] [¬ (0 < i), ¬ (0 < j)] (by kernel_rfl) ⟨h1, h10, trivial⟩ ?_
      refine xe_then ?_
      refine x_false rfl ?_
      refine x_exit ?_
      refine xe_exit_then ?_
      refine xe_loop_exit ?_
      refine xe_exit_same ?_
      refine xe_then ?_
      refine x_seq ?_
      refine x_reg [(2, .new 98)] [12, 16] [39, 98] [.arr 39, .arr 98] [some (.arr 2 back.length (fPair back)), some (.arr 2 ((back.length : Int).toNat) (fun _ => [I 0, I 0]))] [(0 : Int) ≤ (back.length : Int) ∧ ((back.length : Int) : Int) ≤ (back.length : Int) ∧ (16 : Int) * (back.length : Int) ≤ 281474976710656 ∧ (back.length : Int) ≤ 9223372036854775807] (by kernel_rfl) ⟨⟨(by omega), (by omega), (by omega), (by omega)⟩, trivial⟩ ?_
      refine xe_then ?_
      refine x_seq ?_
      refine x_seq ?_
      refine x_reg [] [12, 16, 99, 100, 101] [39, 98] [.arr 39, .arr 98, .arr 39, I (back.length : Int), I 0] [some (.arr 2 back.length (fPair back)), some (.arr 2 ((back.length : Int).toNat) (fun _ => [I 0, I 0]))] [] (by kernel_rfl) trivial ?_
      refine xe_then ?_
      refine x_block ?_
      refine x_weak [] (T := [(12, .arr 39), (16, .arr 98), (99, .arr 39), (100, I (back.length : Int)), (101, I 0)]) (O := [(39, .arr 2 back.length (fPair back)), (98, .arr 2 ((List.replicate ((back.length : Int).toNat) (Pair.mk 0 0)).length) (fPair (List.replicate ((back.length : Int).toNat) (Pair.mk 0 0))))]) rfl (⟨.inl rfl, .inl rfl, .inl rfl, .inl rfl, .inl rfl, trivial⟩) (⟨.inl rfl, .inr ⟨rfl, (by first | rfl | (simp; done) | (simp; omega) | omega), fun i_ hi_ => .inl (const_enc (enc := cPair) rfl i_ hi_)⟩, trivial⟩) ?_
      refine x_loop (X := Int × (List Pair)) (fun x => mkS [(12, .arr 39), (16, .arr 98), (99, .arr 39), (100, I (back.length : Int)), (101, I x.1)] [(39, .arr 2 back.length (fPair back)), (98, .arr 2 x.2.length (fPair x.2))]) (fun x => (0 ≤ x.1 ∧ x.1 ≤ (back.length : Int)) ∧ (x.2.length = back.length ∧ ∀ q : Nat, (q : Int) < x.1 → at_ x.2 (back.length - 1 - q) = at_ back q) ∧ True) (fun x => ((back.length : Int) - x.1).toNat) (0, (List.replicate ((back.length : Int).toNat) (Pair.mk 0 0))) rfl (show (0 ≤ (0 : Int) ∧ (0 : Int) ≤ (back.length : Int)) ∧ ((List.replicate ((back.length : Int).toNat) (Pair.mk 0 0)).length = back.length ∧ ∀ q : Nat, (q : Int) < (0 : Int) → at_ (List.replicate ((back.length : Int).toNat) (Pair.mk 0 0)) (back.length - 1 - q) = at_ back q) ∧ True from ⟨(by omega), (by exact ⟨by simp, fun q hq => by omega⟩), trivial⟩) (fun x hI => ?_)
      obtain ⟨t101, ps⟩ := x
      obtain ⟨hk0, hrn, _⟩ : (0 ≤ t101 ∧ t101 ≤ (back.length : Int)) ∧ (ps.length = back.length ∧ ∀ q : Nat, (q : Int) < t101 → at_ ps (back.length - 1 - q) = at_ back q) ∧ True := hI
      show XW _ _ _ _ (mkS [(12, .arr 39), (16, .arr 98), (99, .arr 39), (100, I (back.length : Int)), (101, I t101)] [(39, .arr 2 back.length (fPair back)), (98, .arr 2 ps.length (fPair ps))]) _ _
      refine x_seq ?_
      by_cases h19 : t101 < (back.length : Int)
      ·have hk : t101.toNat < back.length := by omega
       refine x_reg [(0, .dec true)] [12, 16, 99, 100, 101, 102] [39, 98] [.arr 39, .arr 98, .arr 39, I (back.length : Int), I t101, Bv true] [some (.arr 2 back.length (fPair back)), some (.arr 2 ps.length (fPair ps))] [t101 < (back.length : Int)] (by kernel_rfl) ⟨h19, trivial⟩ ?_
       refine xe_then ?_
       refine x_seq ?_
       refine x_true rfl ?_
       refine x_skip ?_
       refine xe_then ?_
       refine x_seq ?_
       refine x_block ?_
       refine x_seq ?_
       refine x_reg [(3, .new 18)] [12, 16, 17, 18, 99, 100, 101] [18, 39, 98] [.arr 39, .arr 98, I t101, .ref 18 0, .arr 39, I (back.length : Int), I t101] [some (bxPair (at_ back t101.toNat)), some (.arr 2 back.length (fPair back)), some (.arr 2 ps.length (fPair ps))] [(0 : Int) ≤ t101 ∧ t101 < (back.length : Int), t101.toNat < back.length] (by kernel_rfl) ⟨⟨(by omega), (by omega)⟩, (by omega), trivial⟩ ?_
       refine xe_then ?_
       refine x_reg [] [12, 16, 99, 100, 101] [39, 98] [.arr 39, .arr 98, .arr 39, I (back.length : Int), I t101] [some (.arr 2 back.length (fPair back)), some (.arr 2 ps.length (fun q => bif Nat.beq q ((((back.length : Int) - 1) - t101).toNat) then [I ((at_ back t101.toNat).I), I ((at_ back t101.toNat).J)] else (fPair ps) q))] [inR .i64 ((back.length : Int) - 1), inR .i64 (((back.length : Int) - 1) - t101), (0 : Int) ≤ (((back.length : Int) - 1) - t101) ∧ (((back.length : Int) - 1) - t101) < (ps.length : Int), (((back.length : Int) - 1) - t101).toNat < ps.length] (by kernel_rfl) ⟨(inR_i64 (by omega) (by omega)), (inR_i64 (by omega) (by omega)), ⟨(by omega), (by omega)⟩, (by omega), trivial⟩ ?_
       refine xe_block 5 ?_
       refine xe_then ?_
       refine x_weak [] (T := [(12, .arr 39), (16, .arr 98), (99, .arr 39), (100, I (back.length : Int)), (101, I t101)]) (O := [(39, .arr 2 back.length (fPair back)), (98, .arr 2 ((ps.set ((((back.length : Int) - 1) - t101).toNat) (at_ back t101.toNat)).length) (fPair (ps.set ((((back.length : Int) - 1) - t101).toNat) (at_ back t101.toNat))))]) rfl (⟨.inl rfl, .inl rfl, .inl rfl, .inl rfl, .inl rfl, trivial⟩) (⟨.inl rfl, .inr ⟨rfl, (by first | rfl | (simp; done) | (simp; omega) | omega), fun i_ hi_ => .inl (upd_enc (enc := cPair) rfl i_ hi_)⟩, trivial⟩) ?_
       refine x_reg [] [12, 16, 99, 100, 101] [39, 98] [.arr 39, .arr 98, .arr 39, I (back.length : Int), I (t101 + 1)] [some (.arr 2 back.length (fPair back)), some (.arr 2 ((ps.set ((((back.length : Int) - 1) - t101).toNat) (at_ back t101.toNat)).length) (fPair (ps.set ((((back.length : Int) - 1) - t101).toNat) (at_ back t101.toNat))))] [inR .i64 (t101 + 1)] (by kernel_rfl) ⟨(inR_i64 (by omega) (by omega)), trivial⟩ ?_
       exact xe_again ((t101 + 1), (ps.set ((((back.length : Int) - 1) - t101).toNat) (at_ back t101.toNat))) rfl (show (0 ≤ (t101 + 1) ∧ (t101 + 1) ≤ (back.length : Int)) ∧ ((ps.set ((((back.length : Int) - 1) - t101).toNat) (at_ back t101.toNat)).length = back.length ∧ ∀ q : Nat, (q : Int) < (t101 + 1) → at_ (ps.set ((((back.length : Int) - 1) - t101).toNat) (at_ back t101.toNat)) (back.length - 1 - q) = at_ back q) ∧ True from ⟨(by omega), (by exact rev_next hk0.1 hk hrn.1 hrn.2 (by first | rfl | (simp; done)) (by omega)), trivial⟩) (by first | (show (((back.length : Int) - (t101 + 1)).toNat : Nat) < ((back.length : Int) - t101).toNat; omega) | (dsimp only; omega))
      ·have hrv := rev_done (by omega) hrn.1 hrn.2
       rw [hfin] at hrv
       refine x_reg [(0, .dec false)] [12, 16, 99, 100, 101, 102] [39, 98] [.arr 39, .arr 98, .arr 39, I (back.length : Int), I t101, Bv false] [some (.arr 2 back.length (fPair back)), some (.arr 2 ps.length (fPair ps))] [¬ (t101 < (back.length : Int))] (by kernel_rfl) ⟨h19, trivial⟩ ?_
       refine xe_then ?_
       refine x_seq ?_
       refine x_false rfl ?_
       refine x_exit ?_
       refine xe_exit_then ?_
       refine xe_loop_exit ?_
       refine xe_exit_same ?_
       refine xe_then ?_
       refine x_seq ?_
       refine x_reg [] [6, 7] [98] [.arr 98, I 0] [some (.arr 2 ps.length (fPair ps))] [] (by kernel_rfl) trivial ?_
       refine xe_then ?_
       refine x_ret ?_
       refine xe_end (ps, 0) (show (ps = (tot a b band).reverse) ∧ (0 = 0) ∧ (True) from ⟨(by first | exact hrv | rfl), (by first | exact hrv | rfl), trivial⟩) (trivial) (.tup [.arr 98, I 0]) (by kernel_rfl) (.inr ⟨⟨(fun _ => rfl), rfl, rfl, fun i _ => .inl rfl⟩, ⟨rfl, rfl⟩⟩) (fun _ => rfl) (fun _ => (by simp [tagged, taggedL, tagPair]))
  obtain ⟨⟨v, c⟩, ⟨hh0, hh1, _⟩, hc⟩ := hh
  exact ⟨v, c, hh0, hh1, hc⟩


-- impl.Feat]
theorem cloneF0_ok (s : List Feat) (hl : s.length ≤ 100000) : ∃ (out : List Feat), (out = s) ∧ CallOK Try.prog 59 [slFeat false s] (lookO []) false (.arr 8311) (lookO [(8311, .arr 3 out.length (fFeat out))]) := by
  refine ⟨s, rfl, ?_⟩
  refine fn_okL [] [(8311, .arr 3 s.length (fFeat s))] (fn := Try.f59) (nt := 8) Try.func59 rfl rfl (args := [slFeat false s]) rfl (allcons (.inl ⟨rfl, tagFeat false _⟩) allnil) (res := .arr 8311) (fun B hB => ?_)
  refine aw_seq ?_
  refine aw_reg [] [0] [] [slFeat false s] [] [] (by kernel_rfl) hB trivial ?_
  refine ae_then ?_
  refine aw_seq ?_
  refine aw_seq ?_
  refine aw_reg [] [0, 4] [] [slFeat false s, .nilq s.length] [] [] (by kernel_rfl) hB trivial ?_
  refine ae_then ?_
  refine aw_nilq (n := s.length) rfl (fun h1 => ?_) ?_
  · refine aw_seq ?_
    refine aw_reg [] [2] [] [nilA] [] [] (by kernel_rfl) hB trivial ?_
    refine ae_then ?_
    refine aw_ret ?_
    refine ae_ret_then ?_
    refine ae_nil hB 2 8311 3 (fun _ => []) (by kernel_rfl) ?_
    refine ae_weak hB [] (T := [(2, .arr 8311)]) (O := [(8311, .arr 3 s.length (fFeat s))]) rfl (⟨.inl rfl, trivial⟩) (⟨.inr ⟨rfl, (by omega), fun i_ hi_ => absurd hi_ (by omega)⟩, trivial⟩) ?_
    refine ae_retL hB [(8311, .arr 3 s.length (fFeat s))] (⟨.inl rfl, trivial⟩) (.arr 8311) (by kernel_rfl) (.inl rfl) (fun h => by cases h) (fun h => by cases h)
  · refine aw_skip ?_
    refine ae_then ?_
    refine aw_seq ?_
    refine aw_reg [(0, .new 5), (2, .new 7)] [2] [7] [.arr 7] [some (.arr 3 (0 + s.length) (catF 0 (litF [] 3) (fFeat s)))] [(0 + s.length) * 24 ≤ 140737488355328] (by kernel_rfl) hB ⟨(by omega), trivial⟩ ?_
    refine ae_then ?_
    refine aw_ret ?_
    refine ae_weak hB [(8311, 7)] (T := [(2, .arr 8311)]) (O := [(8311, .arr 3 s.length (fFeat s))]) rfl (⟨.inl rfl, trivial⟩) (⟨.inr ⟨rfl, (by simp), fun i_ hi_ => .inl (cat_nil i_)⟩, trivial⟩) ?_
    refine ae_retL hB [(8311, .arr 3 s.length (fFeat s))] (⟨.inl rfl, trivial⟩) (.arr 8311) (by kernel_rfl) (.inl rfl) (fun h => by cases h) (fun h => by cases h)

theorem cloneF1_ok (s : List Feat) (hl : s.length ≤ 100000) : ∃ (out : List Feat), (out = s) ∧ CallOK Try.prog 59 [slFeat false s] (lookO []) false (.arr 8312) (lookO [(8312, .arr 3 out.length (fFeat out))]) := by
  refine ⟨s, rfl, ?_⟩
  refine fn_okL [] [(8312, .arr 3 s.length (fFeat s))] (fn := Try.f59) (nt := 8) Try.func59 rfl rfl (args := [slFeat false s]) rfl (allcons (.inl ⟨rfl, tagFeat false _⟩) allnil) (res := .arr 8312) (fun B hB => ?_)
  refine aw_seq ?_
  refine aw_reg [] [0] [] [slFeat false s] [] [] (by kernel_rfl) hB trivial ?_
  refine ae_then ?_
  refine aw_seq ?_
  refine aw_seq ?_
  refine aw_reg [] [0, 4] [] [slFeat false s, .nilq s.length] [] [] (by kernel_rfl) hB trivial ?_
  refine ae_then ?_
  refine aw_nilq (n := s.length) rfl (fun h1 => ?_) ?_
  · refine aw_seq ?_
    refine aw_reg [] [2] [] [nilA] [] [] (by kernel_rfl) hB trivial ?_
    refine ae_then ?_
    refine aw_ret ?_
    refine ae_ret_then ?_
    refine ae_nil hB 2 8312 3 (fun _ => []) (by kernel_rfl) ?_
    refine ae_weak hB [] (T := [(2, .arr 8312)]) (O := [(8312, .arr 3 s.length (fFeat s))]) rfl (⟨.inl rfl, trivial⟩) (⟨.inr ⟨rfl, (by omega), fun i_ hi_ => absurd hi_ (by omega)⟩, trivial⟩) ?_
    refine ae_retL hB [(8312, .arr 3 s.length (fFeat s))] (⟨.inl rfl, trivial⟩) (.arr 8312) (by kernel_rfl) (.inl rfl) (fun h => by cases h) (fun h => by cases h)
  · refine aw_skip ?_
    refine ae_then ?_
    refine aw_seq ?_
    refine aw_reg [(0, .new 5), (2, .new 7)] [2] [7] [.arr 7] [some (.arr 3 (0 + s.length) (catF 0 (litF [] 3) (fFeat s)))] [(0 + s.length) * 24 ≤ 140737488355328] (by kernel_rfl) hB ⟨(by omega), trivial⟩ ?_
    refine ae_then ?_
    refine aw_ret ?_
    refine ae_weak hB [(8312, 7)] (T := [(2, .arr 8312)]) (O := [(8312, .arr 3 s.length (fFeat s))]) rfl (⟨.inl rfl, trivial⟩) (⟨.inr ⟨rfl, (by simp), fun i_ hi_ => .inl (cat_nil i_)⟩, trivial⟩) ?_
    refine ae_retL hB [(8312, .arr 3 s.length (fFeat s))] (⟨.inl rfl, trivial⟩) (.arr 8312) (by kernel_rfl) (.inl rfl) (fun h => by cases h) (fun h => by cases h)


-- slices.Sort[[]int64,int64]
theorem sort_ok (list : List Int) (hl : list.length < 4611686018427387904) : ∃ (list' : List Int), (list' = sortL list) ∧ CallOK Try.prog 79 [.arr 7201] (lookO [(7201, .arr 1 list.length (fI list))]) false (.tup []) (lookO [(7201, .arr 1 list'.length (fI list'))]) :=
  ⟨sortL list, rfl, sort_callOK (fun blk off cap zs w h1 h2 h3 => AnyG.slices_Sort_int Try.laysSort blk off cap zs w h1 h2 h3) (fun p cap w => AnyG.slices_Sort_int_none Try.laysSort p cap w) 7201 list hl⟩


-- impl.medianOf
theorem medianOf_ok (list : List Int) (hl : 1 ≤ list.length ∧ list.length ≤ 1000) : ∃ (v : Int) (list' : List Int), (v = medI list) ∧ CallOK Try.prog 61 [.arr 7201] (lookO [(7201, .arr 1 list.length (fI list))]) true (I v) (lookO [(7201, .arr 1 list'.length (fI list'))]) := by
  have hh : ∃ r : Int × (List Int), ((r.1 = medI list) ∧ (True)) ∧ CallOK Try.prog 61 [.arr 7201] (lookO [(7201, .arr 1 list.length (fI list))]) true (I r.1) (lookO [(7201, .arr 1 r.2.length (fI r.2))]) := by
    refine fn_okX (Φ := fun r : Int × (List Int) => (r.1 = medI list) ∧ (True)) [(7201, .arr 1 list.length (fI list))] (fun r => [(7201, .arr 1 r.2.length (fI r.2))]) (fn := Try.f61) (nt := 12) Try.func61 rfl rfl (args := [.arr 7201]) rfl (allcons (.inr trivial) allnil) (res := fun r => I r.1) ?_
    refine x_seq ?_
    refine x_reg [] [0] [7201] [.arr 7201] [some (.arr 1 list.length (fI list))] [] (by kernel_rfl) trivial ?_
    refine xe_then ?_
    refine x_seq ?_
    obtain ⟨list'_1, hx1_0, hc1⟩ := sort_ok list (by omega)
    have hsl : list'_1.length = list.length := by rw [hx1_0, sortL_len]
    refine x_reg [(1, .lend [(7201, .arr 1 list.length (fI list), .arr 1 list'_1.length (fI list'_1))] [] [(true, .arr 7201)] false (.tup []))] [0] [7201] [.arr 7201] [some (.arr 1 list'_1.length (fI list'_1))] [CallOK Try.prog 79 [.arr 7201] (lookO [(7201, .arr 1 list.length (fI list))]) false (.tup []) (lookO [(7201, .arr 1 list'_1.length (fI list'_1))]) ∧ ((.arr 7201 : AV) = .arr 7201) ∧ (((.arr 1 list.length (fI list) : Ob) = .arr 1 list.length (fI list) ∨ obLe noOb true (.arr 1 list.length (fI list)) (.arr 1 list.length (fI list))) ∧ taggedO false (.arr 1 list.length (fI list))) ∧ True] (by kernel_rfl) ⟨⟨hc1, rfl, ⟨.inl rfl, fun _ _ => tagcI false _⟩, trivial⟩, trivial⟩ ?_
    refine xe_then ?_
    refine x_seq ?_
    refine x_reg [(4, .nn)] [2] [7201] [I (at_ list'_1 ((((list'_1.length : Int) - 1) / 2).toNat))] [some (.arr 1 list'_1.length (fI list'_1))] [inR .i64 ((list'_1.length : Int) - 1), (0 : Int) ≤ ((list'_1.length : Int) - 1) ∧ (0 : Int) < 2 ∧ inR .i64 ((list'_1.length : Int) - 1), (0 : Int) ≤ (((list'_1.length : Int) - 1) / 2) ∧ (((list'_1.length : Int) - 1) / 2) < (list'_1.length : Int), (((list'_1.length : Int) - 1) / 2).toNat < list'_1.length] (by kernel_rfl) ⟨(inR_i64 (by omega) (by omega)), ⟨(by omega), (by omega), (inR_i64 (by omega) (by omega))⟩, ⟨(by omega), (by omega)⟩, (by omega), trivial⟩ ?_
    refine xe_then ?_
    refine x_ret ?_
    refine xe_end ((at_ list'_1 ((((list'_1.length : Int) - 1) / 2).toNat)), list'_1) (show ((at_ list'_1 ((((list'_1.length : Int) - 1) / 2).toNat)) = medI list) ∧ (True) from ⟨(by rw [hx1_0]; unfold medI; congr 1; rw [sortL_len]; omega), trivial⟩) (⟨.inl rfl, trivial⟩) (I (at_ list'_1 ((((list'_1.length : Int) - 1) / 2).toNat))) (by kernel_rfl) (.inl rfl) (fun _ => rfl) (fun _ => trivial)
  obtain ⟨⟨v, list'⟩, ⟨hh0, _⟩, hc⟩ := hh
  exact ⟨v, list', hh0, hc⟩


-- impl.towards
theorem towards_ok (x : Int) (m : Int) (base : Int) (share : Int) (hx : 0 ≤ x ∧ x ≤ 4095) (hm : 0 ≤ m ∧ m ≤ 4095) (hb : 0 ≤ base ∧ base ≤ 4095) (hs : 0 ≤ share ∧ share ≤ 100) : Con Try.prog 60 [I x, I m, I base, I share] true (I (towI x m base share)) := by
  have hq := tdiv_bd ((m - x) * share) 100
  have hml := Int.mul_le_mul_of_nonneg_right (show m - x ≤ 4095 by omega) hs.1
  have hmg := Int.mul_le_mul_of_nonneg_right (show -4095 ≤ m - x by omega) hs.1
  refine fn_ok (fn := Try.f60) (nt := 23) Try.func60 rfl rfl rfl rfl (by simp [taggedL, tagged]) fun B hB => ?_
  refine aw_seq ?_
  refine aw_reg [] [0, 1, 2, 3] [] [I x, I m, I base, I share] [] [] (by kernel_rfl) hB trivial ?_
  refine ae_then ?_
  refine aw_seq ?_
  refine aw_reg [] [8] [] [I (min (max (x + (Int.tdiv ((m - x) * share) 100)) (base - 40)) (base + 40))] [] [inR .i64 (m - x), inR .i64 ((m - x) * share), (100 : Int) ≠ 0 ∧ inR .i64 (Int.tdiv ((m - x) * share) 100), inR .i64 (x + (Int.tdiv ((m - x) * share) 100)), inR .i64 (base - 40), inR .i64 (base + 40)] (by kernel_rfl) hB ⟨(inR_i64 (by omega) (by omega)), (inR_i64 (by omega) (by omega)), ⟨by omega, (inR_i64 (by omega) (by omega))⟩, (inR_i64 (by omega) (by omega)), (inR_i64 (by omega) (by omega)), (inR_i64 (by omega) (by omega)), trivial⟩ ?_
  refine ae_then ?_
  refine aw_ret ?_
  refine ae_ret hB (I (min (max (x + (Int.tdiv ((m - x) * share) 100)) (base - 40)) (base + 40))) (by kernel_rfl) (.inl (by refine congrArg I ?_; unfold towI; first | rfl | omega)) rfl (fun _ => trivial)


-- impl.adapted
set_option maxHeartbeats 4000000 in
theorem adapted_ok (t : Trained) (sample : List Feat) (band : Int) (share : Int) (okt : okTrained' t = true) (oks : okFeats sample 72 = true) (hbd : 0 ≤ band ∧ band ≤ 72) (hnm : inBd band t.Feats.length sample.length) (hsh : 0 ≤ share ∧ share ≤ 100) (hct : t.Count < 100) : ∃ (bs : List Feat) (fs : List Feat), (bs = t.Base) ∧ (fs = (adpT t sample band share).Feats) ∧ CallOK Try.prog 35 [agTrained t, slFeat false sample, I band, I share] (lookO []) false (.agg [Sv t.Label, .arr 8311, .arr 8312, I (t.Count + 1)]) (lookO [(8311, .arr 3 bs.length (fFeat bs)), (8312, .arr 3 fs.length (fFeat fs))]) := by
  have oka := (okTr_iff.1 okt).2.2.1
  have okb := (okTr_iff.1 okt).2.1
  have hlen := (okTr_iff.1 okt).2.2.2.1.1
  have hcn := inB_iff.1 (okTr_iff.1 okt).2.2.2.2
  have hna := okFeats_n oka
  have hns := okFeats_n oks
  have hpl := path_bd oka oks band
  have hh : ∃ r : (List Feat) × (List Feat), ((r.1 = t.Base) ∧ (r.2 = (adpT t sample band share).Feats) ∧ (True)) ∧ CallOK Try.prog 35 [agTrained t, slFeat false sample, I band, I share] (lookO []) false (.agg [Sv t.Label, .arr 8311, .arr 8312, I (t.Count + 1)]) (lookO [(8311, .arr 3 r.1.length (fFeat r.1)), (8312, .arr 3 r.2.length (fFeat r.2))]) := by
    refine fn_okX (Φ := fun r : (List Feat) × (List Feat) => (r.1 = t.Base) ∧ (r.2 = (adpT t sample band share).Feats) ∧ (True)) [] (fun r => [(8311, .arr 3 r.1.length (fFeat r.1)), (8312, .arr 3 r.2.length (fFeat r.2))]) (fn := Try.f35) (nt := 132) Try.func35 rfl rfl (args := [agTrained t, slFeat false sample, I band, I share]) rfl (allcons (.inl ⟨rfl, by simp [tagged, taggedL, tagFeat]⟩) (allcons (.inl ⟨rfl, tagFeat false _⟩) (allcons (.inl ⟨rfl, trivial⟩) (allcons (.inl ⟨rfl, trivial⟩) allnil)))) (res := fun r => .agg [Sv t.Label, .arr 8311, .arr 8312, I (t.Count + 1)]) ?_
    refine x_seq ?_
    refine x_reg [(0, .new 4), (1, .new 8)] [1, 2, 3, 4, 8] [4, 8] [slFeat false sample, I band, I share, .ref 4 0, .ref 8 0] [some (bxTrained t), some (.box [Sv (⟨#[]⟩ : ByteArray), nilA, nilA, I 0])] [] (by kernel_rfl) trivial ?_
    refine xe_then ?_
    refine x_seq ?_
    obtain ⟨v_1, c_1, hx1_0, hx1_1, hc1⟩ := ElasticPath_ok t.Feats sample band oka oks hbd hnm
    have hpv : v_1 = pathOf t.Feats sample band := hx1_0
    have hpl : v_1.length ≤ 145 := by rw [hpv]; exact path_bd oka oks band
    have hpa : ∀ k, k < v_1.length → (0 ≤ (at_ v_1 k).I ∧ (at_ v_1 k).I < (t.Feats.length : Int)) ∧ 0 ≤ (at_ v_1 k).J ∧ (at_ v_1 k).J < (sample.length : Int) := by rw [hpv]; exact fun k hk => path_at oka oks hk
    have hxp : ∀ (f : Feat → Int) (i : Nat), i < t.Feats.length → 1 ≤ (xsF f v_1 sample i).length ∧ (xsF f v_1 sample i).length ≤ 145 := by rw [hpv]; exact fun f i hi => xs_pos oka oks hnm f hi
    have hmX : ∀ i : Nat, i < t.Feats.length → 0 ≤ medI (xsF Feat.X v_1 sample i) ∧ medI (xsF Feat.X v_1 sample i) ≤ 255 := by rw [hpv]; exact fun i hi => med_bd oka oks hnm okF_X hi
    have hmY : ∀ i : Nat, i < t.Feats.length → 0 ≤ medI (xsF Feat.Y v_1 sample i) ∧ medI (xsF Feat.Y v_1 sample i) ≤ 255 := by rw [hpv]; exact fun i hi => med_bd oka oks hnm okF_Y hi
    have had : ∀ i : Nat, adpF t sample band share i = ⟨towI (at_ t.Feats i).X (medI (xsF Feat.X v_1 sample i)) (at_ t.Base i).X share, towI (at_ t.Feats i).Y (medI (xsF Feat.Y v_1 sample i)) (at_ t.Base i).Y share, (at_ t.Feats i).D⟩ := by rw [hpv]; exact fun _ => rfl
    refine x_reg [(4, .call [(true, slFeat false t.Feats), (true, slFeat false sample), (true, I band)] true (.tup [slPair true v_1, I c_1]))] [1, 3, 4, 8, 9] [4, 8] [slFeat false sample, I share, .ref 4 0, .ref 8 0, slPair true v_1] [some (bxTrained t), some (.box [Sv (⟨#[]⟩ : ByteArray), nilA, nilA, I 0])] [Con Try.prog 58 [slFeat false t.Feats, slFeat false sample, I band] true (.tup [slPair true v_1, I c_1]) ∧ ((slFeat false t.Feats : AV) = slFeat false t.Feats) ∧ ((slFeat false sample : AV) = slFeat false sample) ∧ ((I band : AV) = I band) ∧ True] (by kernel_rfl) ⟨⟨hc1, rfl, rfl, rfl, trivial⟩, trivial⟩ ?_
    refine xe_then ?_
    refine x_seq ?_
    refine x_reg [(3, .new 29), (7, .new 33)] [1, 3, 4, 8, 9, 11, 12] [4, 8, 29, 33] [slFeat false sample, I share, .ref 4 0, .ref 8 0, slPair true v_1, .arr 29, .arr 33] [some (bxTrained t), some (.box [Sv (⟨#[]⟩ : ByteArray), nilA, nilA, I 0]), some (.arr 1 ((t.Feats.length : Int).toNat) (fun _ => [nilA])), some (.arr 1 ((t.Feats.length : Int).toNat) (fun _ => [nilA]))] [(0 : Int) ≤ (t.Feats.length : Int) ∧ ((t.Feats.length : Int) : Int) ≤ (t.Feats.length : Int) ∧ (24 : Int) * (t.Feats.length : Int) ≤ 281474976710656 ∧ (t.Feats.length : Int) ≤ 9223372036854775807, (0 : Int) ≤ (t.Feats.length : Int) ∧ ((t.Feats.length : Int) : Int) ≤ (t.Feats.length : Int) ∧ (24 : Int) * (t.Feats.length : Int) ≤ 281474976710656 ∧ (t.Feats.length : Int) ≤ 9223372036854775807] (by kernel_rfl) ⟨⟨(by omega), (by omega), (by omega), (by omega)⟩, ⟨(by omega), (by omega), (by omega), (by omega)⟩, trivial⟩ ?_
    refine xe_then ?_
    refine x_seq ?_
    refine x_seq ?_
    refine x_reg [] [1, 3, 4, 8, 11, 12, 34, 35, 36] [4, 8, 29, 33] [slFeat false sample, I share, .ref 4 0, .ref 8 0, .arr 29, .arr 33, slPair true v_1, I (v_1.length : Int), I 0] [some (bxTrained t), some (.box [Sv (⟨#[]⟩ : ByteArray), nilA, nilA, I 0]), some (.arr 1 ((t.Feats.length : Int).toNat) (fun _ => [nilA])), some (.arr 1 ((t.Feats.length : Int).toNat) (fun _ => [nilA]))] [] (by kernel_rfl) trivial ?_
    refine xe_then ?_
    refine x_block ?_
    refine x_famN 29 8401 1 rfl (fun q _ => ⟨_, rfl, rfl⟩) (by kernel_rfl) ?_
    refine x_famN 33 8402 1 rfl (fun q _ => ⟨_, rfl, rfl⟩) (by kernel_rfl) ?_
    refine x_weak [] (T := [(1, slFeat false sample), (3, I share), (4, .ref 4 0), (8, .ref 8 0), (11, .arr 29), (12, .arr 33), (34, slPair true v_1), (35, I (v_1.length : Int)), (36, I 0)]) (O := [(4, bxTrained t), (8, .box [Sv (⟨#[]⟩ : ByteArray), nilA, nilA, I 0]), (29, .oar [8401] 1 ((List.replicate ((t.Feats.length : Int).toNat) ([] : List Int)).length) (oLI 8401 (List.replicate ((t.Feats.length : Int).toNat) ([] : List Int)))), (33, .oar [8402] 1 ((List.replicate ((t.Feats.length : Int).toNat) ([] : List Int)).length) (oLI 8402 (List.replicate ((t.Feats.length : Int).toNat) ([] : List Int)))), (8401, .fam (List.replicate ((t.Feats.length : Int).toNat) ([] : List Int)).length 1 (mLI (List.replicate ((t.Feats.length : Int).toNat) ([] : List Int))) (gLI (List.replicate ((t.Feats.length : Int).toNat) ([] : List Int)))), (8402, .fam (List.replicate ((t.Feats.length : Int).toNat) ([] : List Int)).length 1 (mLI (List.replicate ((t.Feats.length : Int).toNat) ([] : List Int))) (gLI (List.replicate ((t.Feats.length : Int).toNat) ([] : List Int))))]) rfl (⟨.inl rfl, .inl rfl, .inl rfl, .inl rfl, .inl rfl, .inl rfl, .inl rfl, .inl rfl, .inl rfl, trivial⟩) (⟨.inl rfl, .inl rfl, .inr ⟨rfl, rfl, (by simp), fun i hi => .inl rfl⟩, .inr ⟨rfl, rfl, (by simp), fun i hi => .inl rfl⟩, .inr (fnilLI ((t.Feats.length : Int).toNat)), .inr (fnilLI ((t.Feats.length : Int).toNat)), trivial⟩) ?_
    refine x_loop (X := Int × (List (List Int)) × (List (List Int))) (fun x => mkS [(1, slFeat false sample), (3, I share), (4, .ref 4 0), (8, .ref 8 0), (11, .arr 29), (12, .arr 33), (34, slPair true v_1), (35, I (v_1.length : Int)), (36, I x.1)] [(4, bxTrained t), (8, .box [Sv (⟨#[]⟩ : ByteArray), nilA, nilA, I 0]), (29, .oar [8401] 1 x.2.1.length (oLI 8401 x.2.1)), (33, .oar [8402] 1 x.2.2.length (oLI 8402 x.2.2)), (8401, .fam x.2.1.length 1 (mLI x.2.1) (gLI x.2.1)), (8402, .fam x.2.2.length 1 (mLI x.2.2) (gLI x.2.2))]) (fun x => (0 ≤ x.1 ∧ x.1 ≤ (v_1.length : Int)) ∧ (tabOk Feat.X v_1 sample x.1.toNat t.Feats.length x.2.1) ∧ (tabOk Feat.Y v_1 sample x.1.toNat t.Feats.length x.2.2) ∧ True) (fun x => ((v_1.length : Int) - x.1).toNat) (0, (List.replicate ((t.Feats.length : Int).toNat) ([] : List Int)), (List.replicate ((t.Feats.length : Int).toNat) ([] : List Int))) rfl (show (0 ≤ (0 : Int) ∧ (0 : Int) ≤ (v_1.length : Int)) ∧ (tabOk Feat.X v_1 sample (0 : Int).toNat t.Feats.length (List.replicate ((t.Feats.length : Int).toNat) ([] : List Int))) ∧ (tabOk Feat.Y v_1 sample (0 : Int).toNat t.Feats.length (List.replicate ((t.Feats.length : Int).toNat) ([] : List Int))) ∧ True from ⟨(by omega), (by exact tab_nil _ _ _ (by first | rfl | omega | simp)), (by exact tab_nil _ _ _ (by first | rfl | omega | simp)), trivial⟩) (fun x hI => ?_)
    obtain ⟨t36, xt, yt⟩ := x
    obtain ⟨hp0, hxt, hyt, _⟩ : (0 ≤ t36 ∧ t36 ≤ (v_1.length : Int)) ∧ (tabOk Feat.X v_1 sample t36.toNat t.Feats.length xt) ∧ (tabOk Feat.Y v_1 sample t36.toNat t.Feats.length yt) ∧ True := hI
    show XW _ _ _ _ (mkS [(1, slFeat false sample), (3, I share), (4, .ref 4 0), (8, .ref 8 0), (11, .arr 29), (12, .arr 33), (34, slPair true v_1), (35, I (v_1.length : Int)), (36, I t36)] [(4, bxTrained t), (8, .box [Sv (⟨#[]⟩ : ByteArray), nilA, nilA, I 0]), (29, .oar [8401] 1 xt.length (oLI 8401 xt)), (33, .oar [8402] 1 yt.length (oLI 8402 yt)), (8401, .fam xt.length 1 (mLI xt) (gLI xt)), (8402, .fam yt.length 1 (mLI yt) (gLI yt))]) _ _
    refine x_seq ?_
    by_cases h1 : t36 < (v_1.length : Int)
    ·have hp : t36.toNat < v_1.length := by omega
     have hpp := hpa t36.toNat hp
     have hxl := hxt.1
     have hyl := hyt.1
     have hxw := tab_row hxt (i := (at_ v_1 t36.toNat).I.toNat) (by omega)
     have hyw := tab_row hyt (i := (at_ v_1 t36.toNat).I.toNat) (by omega)
     have hs1 := okF_iff.1 (okFeats_at oks (show (at_ v_1 t36.toNat).J.toNat < sample.length by omega))
     refine x_reg [(0, .dec true)] [1, 3, 4, 8, 11, 12, 34, 35, 36, 37] [4, 8, 29, 33, 8401, 8402] [slFeat false sample, I share, .ref 4 0, .ref 8 0, .arr 29, .arr 33, slPair true v_1, I (v_1.length : Int), I t36, Bv true] [some (bxTrained t), some (.box [Sv (⟨#[]⟩ : ByteArray), nilA, nilA, I 0]), some (.oar [8401] 1 xt.length (oLI 8401 xt)), some (.oar [8402] 1 yt.length (oLI 8402 yt)), some (.fam xt.length 1 (mLI xt) (gLI xt)), some (.fam yt.length 1 (mLI yt) (gLI yt))] [t36 < (v_1.length : Int)] (by kernel_rfl) ⟨h1, trivial⟩ ?_
     refine xe_then ?_
     refine x_seq ?_
     refine x_true rfl ?_
     refine x_skip ?_
     refine xe_then ?_
     refine x_seq ?_
     refine x_block ?_
     refine x_seq ?_
     refine x_reg [(2, .new 14)] [1, 3, 4, 8, 11, 12, 14, 34, 35, 36] [4, 8, 14, 29, 33, 8401, 8402] [slFeat false sample, I share, .ref 4 0, .ref 8 0, .arr 29, .arr 33, .ref 14 0, slPair true v_1, I (v_1.length : Int), I t36] [some (bxTrained t), some (.box [Sv (⟨#[]⟩ : ByteArray), nilA, nilA, I 0]), some (bxPair (at_ v_1 t36.toNat)), some (.oar [8401] 1 xt.length (oLI 8401 xt)), some (.oar [8402] 1 yt.length (oLI 8402 yt)), some (.fam xt.length 1 (mLI xt) (gLI xt)), some (.fam yt.length 1 (mLI yt) (gLI yt))] [(0 : Int) ≤ t36 ∧ t36 < (v_1.length : Int)] (by kernel_rfl) ⟨⟨(by omega), (by omega)⟩, trivial⟩ ?_
     refine xe_then ?_
     refine x_seq ?_
     refine x_takerow 29 8501 8401 (((at_ v_1 t36.toNat).I).toNat) rfl rfl ((by omega)) (fun q _ => rfl) (by kernel_rfl) ?_
     refine x_weak [] (T := [(1, slFeat false sample), (3, I share), (4, .ref 4 0), (8, .ref 8 0), (11, .arr 29), (12, .arr 33), (14, .ref 14 0), (34, slPair true v_1), (35, I (v_1.length : Int)), (36, I t36)]) (O := [(4, bxTrained t), (8, .box [Sv (⟨#[]⟩ : ByteArray), nilA, nilA, I 0]), (14, bxPair (at_ v_1 t36.toNat)), (29, .oar [8501, 8401] 1 ((xt.set (((at_ v_1 t36.toNat).I).toNat) ([] : List Int)).length) (fun q => bif Nat.beq q (((at_ v_1 t36.toNat).I).toNat) then [.arr 8501] else (oLI 8401 (xt.set (((at_ v_1 t36.toNat).I).toNat) ([] : List Int))) q)), (33, .oar [8402] 1 yt.length (oLI 8402 yt)), (8401, .fam (xt.set (((at_ v_1 t36.toNat).I).toNat) ([] : List Int)).length 1 (mLI (xt.set (((at_ v_1 t36.toNat).I).toNat) ([] : List Int))) (gLI (xt.set (((at_ v_1 t36.toNat).I).toNat) ([] : List Int)))), (8402, .fam yt.length 1 (mLI yt) (gLI yt)), (8501, .arr 1 ((at_ xt (((at_ v_1 t36.toNat).I).toNat)).length) (fI (at_ xt (((at_ v_1 t36.toNat).I).toNat))))]) rfl (⟨.inl rfl, .inl rfl, .inl rfl, .inl rfl, .inl rfl, .inl rfl, .inl rfl, .inl rfl, .inl rfl, .inl rfl, trivial⟩) (⟨.inl rfl, .inl rfl, .inl rfl, .inr ⟨rfl, rfl, (by first | rfl | (simp; done)), fun i hi => .inl (by dsimp only; cases Nat.beq i (((at_ v_1 t36.toNat).I).toNat) <;> rfl)⟩, .inl rfl, .inr (fputLI ((by omega)) (by first | rfl | (simp; done) | (simp; omega)) (fun i_ h_ => absurd h_ (Nat.not_lt_zero _))), .inl rfl, .inl rfl, trivial⟩) ?_
     refine x_reg [(7, .as (.arr 8501)), (14, .new 54), (15, .new 55)] [1, 3, 4, 8, 11, 12, 14, 34, 35, 36] [4, 8, 14, 29, 33, 55, 8401, 8402] [slFeat false sample, I share, .ref 4 0, .ref 8 0, .arr 29, .arr 33, .ref 14 0, slPair true v_1, I (v_1.length : Int), I t36] [some (bxTrained t), some (.box [Sv (⟨#[]⟩ : ByteArray), nilA, nilA, I 0]), some (bxPair (at_ v_1 t36.toNat)), some (.oar [8501, 8401, 55] 1 ((xt.set (((at_ v_1 t36.toNat).I).toNat) ([] : List Int)).length) (fun q => bif Nat.beq q (((at_ v_1 t36.toNat).I).toNat) then spl ((fun q => bif Nat.beq q (((at_ v_1 t36.toNat).I).toNat) then [.arr 8501] else (oLI 8401 (xt.set (((at_ v_1 t36.toNat).I).toNat) ([] : List Int))) q) (((at_ v_1 t36.toNat).I).toNat)) 0 [.arr 55] else (fun q => bif Nat.beq q (((at_ v_1 t36.toNat).I).toNat) then [.arr 8501] else (oLI 8401 (xt.set (((at_ v_1 t36.toNat).I).toNat) ([] : List Int))) q) q)), some (.oar [8402] 1 yt.length (oLI 8402 yt)), some (.arr 1 (((at_ xt (((at_ v_1 t36.toNat).I).toNat)).length) + 1) (catF ((at_ xt (((at_ v_1 t36.toNat).I).toNat)).length) (fI (at_ xt (((at_ v_1 t36.toNat).I).toNat))) (litF [I ((at_ sample (((at_ v_1 t36.toNat).J).toNat)).X)] 1))), some (.fam (xt.set (((at_ v_1 t36.toNat).I).toNat) ([] : List Int)).length 1 (mLI (xt.set (((at_ v_1 t36.toNat).I).toNat) ([] : List Int))) (gLI (xt.set (((at_ v_1 t36.toNat).I).toNat) ([] : List Int)))), some (.fam yt.length 1 (mLI yt) (gLI yt))] [(0 : Int) ≤ ((at_ v_1 t36.toNat).I) ∧ ((at_ v_1 t36.toNat).I) < (((xt.set (((at_ v_1 t36.toNat).I).toNat) ([] : List Int)).length) : Int), ((at_ v_1 t36.toNat).I).toNat < (xt.set (((at_ v_1 t36.toNat).I).toNat) ([] : List Int)).length ∧ List.drop 0 ((fun q => bif Nat.beq q (((at_ v_1 t36.toNat).I).toNat) then [.arr 8501] else (oLI 8401 (xt.set (((at_ v_1 t36.toNat).I).toNat) ([] : List Int))) q) (((at_ v_1 t36.toNat).I).toNat)) = [.arr 8501], (0 : Int) ≤ ((at_ v_1 t36.toNat).J) ∧ ((at_ v_1 t36.toNat).J) < (sample.length : Int), (((at_ xt (((at_ v_1 t36.toNat).I).toNat)).length) + 1) * 8 ≤ 140737488355328, (0 : Int) ≤ ((at_ v_1 t36.toNat).I) ∧ ((at_ v_1 t36.toNat).I) < (((xt.set (((at_ v_1 t36.toNat).I).toNat) ([] : List Int)).length) : Int), ((at_ v_1 t36.toNat).I).toNat < (xt.set (((at_ v_1 t36.toNat).I).toNat) ([] : List Int)).length] (by kernel_rfl) ⟨⟨(by first | omega | (simp only [List.length_set]; omega)), (by first | omega | (simp only [List.length_set]; omega))⟩, ⟨(by first | omega | (simp only [List.length_set]; omega)), (by simp only [Nat.beq_refl, cond_true]; rfl)⟩, ⟨(by omega), (by omega)⟩, (by omega), ⟨(by first | omega | (simp only [List.length_set]; omega)), (by first | omega | (simp only [List.length_set]; omega))⟩, (by first | omega | (simp only [List.length_set]; omega)), trivial⟩ ?_
     refine xe_then ?_
     refine x_putrow 29 55 8401 (((at_ v_1 t36.toNat).I).toNat) rfl rfl rfl ((by first | omega | (simp only [List.length_set]; omega))) (by first | exact Nat.le_refl _ | omega) (fun q _ => ⟨fun e => by subst e; simp only [Nat.beq_refl, cond_true]; rfl, fun e => by simp only [beq_ne e, cond_false]; rfl⟩) (by kernel_rfl) ?_
     refine x_weak [] (T := [(1, slFeat false sample), (3, I share), (4, .ref 4 0), (8, .ref 8 0), (11, .arr 29), (12, .arr 33), (14, .ref 14 0), (34, slPair true v_1), (35, I (v_1.length : Int)), (36, I t36)]) (O := [(4, bxTrained t), (8, .box [Sv (⟨#[]⟩ : ByteArray), nilA, nilA, I 0]), (14, bxPair (at_ v_1 t36.toNat)), (29, .oar [8401] 1 (((xt.set (((at_ v_1 t36.toNat).I).toNat) ([] : List Int)).set (((at_ v_1 t36.toNat).I).toNat) ((at_ xt (((at_ v_1 t36.toNat).I).toNat)) ++ [(at_ sample (((at_ v_1 t36.toNat).J).toNat)).X])).length) (oLI 8401 ((xt.set (((at_ v_1 t36.toNat).I).toNat) ([] : List Int)).set (((at_ v_1 t36.toNat).I).toNat) ((at_ xt (((at_ v_1 t36.toNat).I).toNat)) ++ [(at_ sample (((at_ v_1 t36.toNat).J).toNat)).X])))), (33, .oar [8402] 1 yt.length (oLI 8402 yt)), (8401, .fam ((xt.set (((at_ v_1 t36.toNat).I).toNat) ([] : List Int)).set (((at_ v_1 t36.toNat).I).toNat) ((at_ xt (((at_ v_1 t36.toNat).I).toNat)) ++ [(at_ sample (((at_ v_1 t36.toNat).J).toNat)).X])).length 1 (mLI ((xt.set (((at_ v_1 t36.toNat).I).toNat) ([] : List Int)).set (((at_ v_1 t36.toNat).I).toNat) ((at_ xt (((at_ v_1 t36.toNat).I).toNat)) ++ [(at_ sample (((at_ v_1 t36.toNat).J).toNat)).X]))) (gLI ((xt.set (((at_ v_1 t36.toNat).I).toNat) ([] : List Int)).set (((at_ v_1 t36.toNat).I).toNat) ((at_ xt (((at_ v_1 t36.toNat).I).toNat)) ++ [(at_ sample (((at_ v_1 t36.toNat).J).toNat)).X])))), (8402, .fam yt.length 1 (mLI yt) (gLI yt))]) rfl (⟨.inl rfl, .inl rfl, .inl rfl, .inl rfl, .inl rfl, .inl rfl, .inl rfl, .inl rfl, .inl rfl, .inl rfl, trivial⟩) (⟨.inl rfl, .inl rfl, .inl rfl, .inr ⟨rfl, rfl, (by simp), fun i hi => .inl rfl⟩, .inl rfl, .inr (fputLI ((by first | omega | (simp only [List.length_set]; omega))) (by first | rfl | (simp; done) | (simp; omega)) (fun i_ h_ => (show ∀ i_ : Nat, i_ < (((at_ xt (((at_ v_1 t36.toNat).I).toNat)) ++ [(at_ sample (((at_ v_1 t36.toNat).J).toNat)).X]) : List Int).length → (catF ((at_ xt (((at_ v_1 t36.toNat).I).toNat)).length) (fI (at_ xt (((at_ v_1 t36.toNat).I).toNat))) (litF [I ((at_ sample (((at_ v_1 t36.toNat).J).toNat)).X)] 1)) i_ = (fI ((at_ xt (((at_ v_1 t36.toNat).I).toNat)) ++ [(at_ sample (((at_ v_1 t36.toNat).J).toNat)).X])) i_ from fun i_ hi_ => (cat_snoc (enc := cI) (xs := (at_ xt (((at_ v_1 t36.toNat).I).toNat))) rfl i_ hi_)) i_ (by first | exact h_ | (simpa using h_)))), .inl rfl, trivial⟩) ?_
     refine x_takerow 33 8502 8402 (((at_ v_1 t36.toNat).I).toNat) rfl rfl ((by omega)) (fun q _ => rfl) (by kernel_rfl) ?_
     refine x_weak [] (T := [(1, slFeat false sample), (3, I share), (4, .ref 4 0), (8, .ref 8 0), (11, .arr 29), (12, .arr 33), (14, .ref 14 0), (34, slPair true v_1), (35, I (v_1.length : Int)), (36, I t36)]) (O := [(4, bxTrained t), (8, .box [Sv (⟨#[]⟩ : ByteArray), nilA, nilA, I 0]), (14, bxPair (at_ v_1 t36.toNat)), (29, .oar [8401] 1 (((xt.set (((at_ v_1 t36.toNat).I).toNat) ([] : List Int)).set (((at_ v_1 t36.toNat).I).toNat) ((at_ xt (((at_ v_1 t36.toNat).I).toNat)) ++ [(at_ sample (((at_ v_1 t36.toNat).J).toNat)).X])).length) (oLI 8401 ((xt.set (((at_ v_1 t36.toNat).I).toNat) ([] : List Int)).set (((at_ v_1 t36.toNat).I).toNat) ((at_ xt (((at_ v_1 t36.toNat).I).toNat)) ++ [(at_ sample (((at_ v_1 t36.toNat).J).toNat)).X])))), (33, .oar [8502, 8402] 1 ((yt.set (((at_ v_1 t36.toNat).I).toNat) ([] : List Int)).length) (fun q => bif Nat.beq q (((at_ v_1 t36.toNat).I).toNat) then [.arr 8502] else (oLI 8402 (yt.set (((at_ v_1 t36.toNat).I).toNat) ([] : List Int))) q)), (8401, .fam ((xt.set (((at_ v_1 t36.toNat).I).toNat) ([] : List Int)).set (((at_ v_1 t36.toNat).I).toNat) ((at_ xt (((at_ v_1 t36.toNat).I).toNat)) ++ [(at_ sample (((at_ v_1 t36.toNat).J).toNat)).X])).length 1 (mLI ((xt.set (((at_ v_1 t36.toNat).I).toNat) ([] : List Int)).set (((at_ v_1 t36.toNat).I).toNat) ((at_ xt (((at_ v_1 t36.toNat).I).toNat)) ++ [(at_ sample (((at_ v_1 t36.toNat).J).toNat)).X]))) (gLI ((xt.set (((at_ v_1 t36.toNat).I).toNat) ([] : List Int)).set (((at_ v_1 t36.toNat).I).toNat) ((at_ xt (((at_ v_1 t36.toNat).I).toNat)) ++ [(at_ sample (((at_ v_1 t36.toNat).J).toNat)).X])))), (8402, .fam (yt.set (((at_ v_1 t36.toNat).I).toNat) ([] : List Int)).length 1 (mLI (yt.set (((at_ v_1 t36.toNat).I).toNat) ([] : List Int))) (gLI (yt.set (((at_ v_1 t36.toNat).I).toNat) ([] : List Int)))), (8502, .arr 1 ((at_ yt (((at_ v_1 t36.toNat).I).toNat)).length) (fI (at_ yt (((at_ v_1 t36.toNat).I).toNat))))]) rfl (⟨.inl rfl, .inl rfl, .inl rfl, .inl rfl, .inl rfl, .inl rfl, .inl rfl, .inl rfl, .inl rfl, .inl rfl, trivial⟩) (⟨.inl rfl, .inl rfl, .inl rfl, .inl rfl, .inr ⟨rfl, rfl, (by first | rfl | (simp; done)), fun i hi => .inl (by dsimp only; cases Nat.beq i (((at_ v_1 t36.toNat).I).toNat) <;> rfl)⟩, .inl rfl, .inr (fputLI ((by omega)) (by first | rfl | (simp; done) | (simp; omega)) (fun i_ h_ => absurd h_ (Nat.not_lt_zero _))), .inl rfl, trivial⟩) ?_
     refine x_reg [(7, .as (.arr 8502)), (14, .new 71), (15, .new 72)] [1, 3, 4, 8, 11, 12, 34, 35, 36] [4, 8, 29, 33, 72, 8401, 8402] [slFeat false sample, I share, .ref 4 0, .ref 8 0, .arr 29, .arr 33, slPair true v_1, I (v_1.length : Int), I t36] [some (bxTrained t), some (.box [Sv (⟨#[]⟩ : ByteArray), nilA, nilA, I 0]), some (.oar [8401] 1 (((xt.set (((at_ v_1 t36.toNat).I).toNat) ([] : List Int)).set (((at_ v_1 t36.toNat).I).toNat) ((at_ xt (((at_ v_1 t36.toNat).I).toNat)) ++ [(at_ sample (((at_ v_1 t36.toNat).J).toNat)).X])).length) (oLI 8401 ((xt.set (((at_ v_1 t36.toNat).I).toNat) ([] : List Int)).set (((at_ v_1 t36.toNat).I).toNat) ((at_ xt (((at_ v_1 t36.toNat).I).toNat)) ++ [(at_ sample (((at_ v_1 t36.toNat).J).toNat)).X])))), some (.oar [8502, 8402, 72] 1 ((yt.set (((at_ v_1 t36.toNat).I).toNat) ([] : List Int)).length) (fun q => bif Nat.beq q (((at_ v_1 t36.toNat).I).toNat) then spl ((fun q => bif Nat.beq q (((at_ v_1 t36.toNat).I).toNat) then [.arr 8502] else (oLI 8402 (yt.set (((at_ v_1 t36.toNat).I).toNat) ([] : List Int))) q) (((at_ v_1 t36.toNat).I).toNat)) 0 [.arr 72] else (fun q => bif Nat.beq q (((at_ v_1 t36.toNat).I).toNat) then [.arr 8502] else (oLI 8402 (yt.set (((at_ v_1 t36.toNat).I).toNat) ([] : List Int))) q) q)), some (.arr 1 (((at_ yt (((at_ v_1 t36.toNat).I).toNat)).length) + 1) (catF ((at_ yt (((at_ v_1 t36.toNat).I).toNat)).length) (fI (at_ yt (((at_ v_1 t36.toNat).I).toNat))) (litF [I ((at_ sample (((at_ v_1 t36.toNat).J).toNat)).Y)] 1))), some (.fam ((xt.set (((at_ v_1 t36.toNat).I).toNat) ([] : List Int)).set (((at_ v_1 t36.toNat).I).toNat) ((at_ xt (((at_ v_1 t36.toNat).I).toNat)) ++ [(at_ sample (((at_ v_1 t36.toNat).J).toNat)).X])).length 1 (mLI ((xt.set (((at_ v_1 t36.toNat).I).toNat) ([] : List Int)).set (((at_ v_1 t36.toNat).I).toNat) ((at_ xt (((at_ v_1 t36.toNat).I).toNat)) ++ [(at_ sample (((at_ v_1 t36.toNat).J).toNat)).X]))) (gLI ((xt.set (((at_ v_1 t36.toNat).I).toNat) ([] : List Int)).set (((at_ v_1 t36.toNat).I).toNat) ((at_ xt (((at_ v_1 t36.toNat).I).toNat)) ++ [(at_ sample (((at_ v_1 t36.toNat).J).toNat)).X])))), some (.fam (yt.set (((at_ v_1 t36.toNat).I).toNat) ([] : List Int)).length 1 (mLI (yt.set (((at_ v_1 t36.toNat).I).toNat) ([] : List Int))) (gLI (yt.set (((at_ v_1 t36.toNat).I).toNat) ([] : List Int))))] [(0 : Int) ≤ ((at_ v_1 t36.toNat).I) ∧ ((at_ v_1 t36.toNat).I) < (((yt.set (((at_ v_1 t36.toNat).I).toNat) ([] : List Int)).length) : Int), ((at_ v_1 t36.toNat).I).toNat < (yt.set (((at_ v_1 t36.toNat).I).toNat) ([] : List Int)).length ∧ List.drop 0 ((fun q => bif Nat.beq q (((at_ v_1 t36.toNat).I).toNat) then [.arr 8502] else (oLI 8402 (yt.set (((at_ v_1 t36.toNat).I).toNat) ([] : List Int))) q) (((at_ v_1 t36.toNat).I).toNat)) = [.arr 8502], (0 : Int) ≤ ((at_ v_1 t36.toNat).J) ∧ ((at_ v_1 t36.toNat).J) < (sample.length : Int), (((at_ yt (((at_ v_1 t36.toNat).I).toNat)).length) + 1) * 8 ≤ 140737488355328, (0 : Int) ≤ ((at_ v_1 t36.toNat).I) ∧ ((at_ v_1 t36.toNat).I) < (((yt.set (((at_ v_1 t36.toNat).I).toNat) ([] : List Int)).length) : Int), ((at_ v_1 t36.toNat).I).toNat < (yt.set (((at_ v_1 t36.toNat).I).toNat) ([] : List Int)).length] (by kernel_rfl) ⟨⟨(by first | omega | (simp only [List.length_set]; omega)), (by first | omega | (simp only [List.length_set]; omega))⟩, ⟨(by first | omega | (simp only [List.length_set]; omega)), (by simp only [Nat.beq_refl, cond_true]; rfl)⟩, ⟨(by omega), (by omega)⟩, (by omega), ⟨(by first | omega | (simp only [List.length_set]; omega)), (by first | omega | (simp only [List.length_set]; omega))⟩, (by first | omega | (simp only [List.length_set]; omega)), trivial⟩ ?_
     refine xe_block 1 ?_
     refine xe_then ?_
     refine x_putrow 33 72 8402 (((at_ v_1 t36.toNat).I).toNat) rfl rfl rfl ((by first | omega | (simp only [List.length_set]; omega))) (by first | exact Nat.le_refl _ | omega) (fun q _ => ⟨fun e => by subst e; simp only [Nat.beq_refl, cond_true]; rfl, fun e => by simp only [beq_ne e, cond_false]; rfl⟩) (by kernel_rfl) ?_
     refine x_weak [] (T := [(1, slFeat false sample), (3, I share), (4, .ref 4 0), (8, .ref 8 0), (11, .arr 29), (12, .arr 33), (34, slPair true v_1), (35, I (v_1.length : Int)), (36, I t36)]) (O := [(4, bxTrained t), (8, .box [Sv (⟨#[]⟩ : ByteArray), nilA, nilA, I 0]), (29, .oar [8401] 1 (((xt.set (((at_ v_1 t36.toNat).I).toNat) ([] : List Int)).set (((at_ v_1 t36.toNat).I).toNat) ((at_ xt (((at_ v_1 t36.toNat).I).toNat)) ++ [(at_ sample (((at_ v_1 t36.toNat).J).toNat)).X])).length) (oLI 8401 ((xt.set (((at_ v_1 t36.toNat).I).toNat) ([] : List Int)).set (((at_ v_1 t36.toNat).I).toNat) ((at_ xt (((at_ v_1 t36.toNat).I).toNat)) ++ [(at_ sample (((at_ v_1 t36.toNat).J).toNat)).X])))), (33, .oar [8402] 1 (((yt.set (((at_ v_1 t36.toNat).I).toNat) ([] : List Int)).set (((at_ v_1 t36.toNat).I).toNat) ((at_ yt (((at_ v_1 t36.toNat).I).toNat)) ++ [(at_ sample (((at_ v_1 t36.toNat).J).toNat)).Y])).length) (oLI 8402 ((yt.set (((at_ v_1 t36.toNat).I).toNat) ([] : List Int)).set (((at_ v_1 t36.toNat).I).toNat) ((at_ yt (((at_ v_1 t36.toNat).I).toNat)) ++ [(at_ sample (((at_ v_1 t36.toNat).J).toNat)).Y])))), (8401, .fam ((xt.set (((at_ v_1 t36.toNat).I).toNat) ([] : List Int)).set (((at_ v_1 t36.toNat).I).toNat) ((at_ xt (((at_ v_1 t36.toNat).I).toNat)) ++ [(at_ sample (((at_ v_1 t36.toNat).J).toNat)).X])).length 1 (mLI ((xt.set (((at_ v_1 t36.toNat).I).toNat) ([] : List Int)).set (((at_ v_1 t36.toNat).I).toNat) ((at_ xt (((at_ v_1 t36.toNat).I).toNat)) ++ [(at_ sample (((at_ v_1 t36.toNat).J).toNat)).X]))) (gLI ((xt.set (((at_ v_1 t36.toNat).I).toNat) ([] : List Int)).set (((at_ v_1 t36.toNat).I).toNat) ((at_ xt (((at_ v_1 t36.toNat).I).toNat)) ++ [(at_ sample (((at_ v_1 t36.toNat).J).toNat)).X])))), (8402, .fam ((yt.set (((at_ v_1 t36.toNat).I).toNat) ([] : List Int)).set (((at_ v_1 t36.toNat).I).toNat) ((at_ yt (((at_ v_1 t36.toNat).I).toNat)) ++ [(at_ sample (((at_ v_1 t36.toNat).J).toNat)).Y])).length 1 (mLI ((yt.set (((at_ v_1 t36.toNat).I).toNat) ([] : List Int)).set (((at_ v_1 t36.toNat).I).toNat) ((at_ yt (((at_ v_1 t36.toNat).I).toNat)) ++ [(at_ sample (((at_ v_1 t36.toNat).J).toNat)).Y]))) (gLI ((yt.set (((at_ v_1 t36.toNat).I).toNat) ([] : List Int)).set (((at_ v_1 t36.toNat).I).toNat) ((at_ yt (((at_ v_1 t36.toNat).I).toNat)) ++ [(at_ sample (((at_ v_1 t36.toNat).J).toNat)).Y]))))]) rfl (⟨.inl rfl, .inl rfl, .inl rfl, .inl rfl, .inl rfl, .inl rfl, .inl rfl, .inl rfl, .inl rfl, trivial⟩) (⟨.inl rfl, .inl rfl, .inl rfl, .inr ⟨rfl, rfl, (by simp), fun i hi => .inl rfl⟩, .inl rfl, .inr (fputLI ((by first | omega | (simp only [List.length_set]; omega))) (by first | rfl | (simp; done) | (simp; omega)) (fun i_ h_ => (show ∀ i_ : Nat, i_ < (((at_ yt (((at_ v_1 t36.toNat).I).toNat)) ++ [(at_ sample (((at_ v_1 t36.toNat).J).toNat)).Y]) : List Int).length → (catF ((at_ yt (((at_ v_1 t36.toNat).I).toNat)).length) (fI (at_ yt (((at_ v_1 t36.toNat).I).toNat))) (litF [I ((at_ sample (((at_ v_1 t36.toNat).J).toNat)).Y)] 1)) i_ = (fI ((at_ yt (((at_ v_1 t36.toNat).I).toNat)) ++ [(at_ sample (((at_ v_1 t36.toNat).J).toNat)).Y])) i_ from fun i_ hi_ => (cat_snoc (enc := cI) (xs := (at_ yt (((at_ v_1 t36.toNat).I).toNat))) rfl i_ hi_)) i_ (by first | exact h_ | (simpa using h_)))), trivial⟩) ?_
     refine x_reg [] [1, 3, 4, 8, 11, 12, 34, 35, 36] [4, 8, 29, 33, 8401, 8402] [slFeat false sample, I share, .ref 4 0, .ref 8 0, .arr 29, .arr 33, slPair true v_1, I (v_1.length : Int), I (t36 + 1)] [some (bxTrained t), some (.box [Sv (⟨#[]⟩ : ByteArray), nilA, nilA, I 0]), some (.oar [8401] 1 (((xt.set (((at_ v_1 t36.toNat).I).toNat) ([] : List Int)).set (((at_ v_1 t36.toNat).I).toNat) ((at_ xt (((at_ v_1 t36.toNat).I).toNat)) ++ [(at_ sample (((at_ v_1 t36.toNat).J).toNat)).X])).length) (oLI 8401 ((xt.set (((at_ v_1 t36.toNat).I).toNat) ([] : List Int)).set (((at_ v_1 t36.toNat).I).toNat) ((at_ xt (((at_ v_1 t36.toNat).I).toNat)) ++ [(at_ sample (((at_ v_1 t36.toNat).J).toNat)).X])))), some (.oar [8402] 1 (((yt.set (((at_ v_1 t36.toNat).I).toNat) ([] : List Int)).set (((at_ v_1 t36.toNat).I).toNat) ((at_ yt (((at_ v_1 t36.toNat).I).toNat)) ++ [(at_ sample (((at_ v_1 t36.toNat).J).toNat)).Y])).length) (oLI 8402 ((yt.set (((at_ v_1 t36.toNat).I).toNat) ([] : List Int)).set (((at_ v_1 t36.toNat).I).toNat) ((at_ yt (((at_ v_1 t36.toNat).I).toNat)) ++ [(at_ sample (((at_ v_1 t36.toNat).J).toNat)).Y])))), some (.fam ((xt.set (((at_ v_1 t36.toNat).I).toNat) ([] : List Int)).set (((at_ v_1 t36.toNat).I).toNat) ((at_ xt (((at_ v_1 t36.toNat).I).toNat)) ++ [(at_ sample (((at_ v_1 t36.toNat).J).toNat)).X])).length 1 (mLI ((xt.set (((at_ v_1 t36.toNat).I).toNat) ([] : List Int)).set (((at_ v_1 t36.toNat).I).toNat) ((at_ xt (((at_ v_1 t36.toNat).I).toNat)) ++ [(at_ sample (((at_ v_1 t36.toNat).J).toNat)).X]))) (gLI ((xt.set (((at_ v_1 t36.toNat).I).toNat) ([] : List Int)).set (((at_ v_1 t36.toNat).I).toNat) ((at_ xt (((at_ v_1 t36.toNat).I).toNat)) ++ [(at_ sample (((at_ v_1 t36.toNat).J).toNat)).X])))), some (.fam ((yt.set (((at_ v_1 t36.toNat).I).toNat) ([] : List Int)).set (((at_ v_1 t36.toNat).I).toNat) ((at_ yt (((at_ v_1 t36.toNat).I).toNat)) ++ [(at_ sample (((at_ v_1 t36.toNat).J).toNat)).Y])).length 1 (mLI ((yt.set (((at_ v_1 t36.toNat).I).toNat) ([] : List Int)).set (((at_ v_1 t36.toNat).I).toNat) ((at_ yt (((at_ v_1 t36.toNat).I).toNat)) ++ [(at_ sample (((at_ v_1 t36.toNat).J).toNat)).Y]))) (gLI ((yt.set (((at_ v_1 t36.toNat).I).toNat) ([] : List Int)).set (((at_ v_1 t36.toNat).I).toNat) ((at_ yt (((at_ v_1 t36.toNat).I).toNat)) ++ [(at_ sample (((at_ v_1 t36.toNat).J).toNat)).Y]))))] [inR .i64 (t36 + 1)] (by kernel_rfl) ⟨(inR_i64 (by omega) (by omega)), trivial⟩ ?_
     exact xe_again ((t36 + 1), ((xt.set (((at_ v_1 t36.toNat).I).toNat) ([] : List Int)).set (((at_ v_1 t36.toNat).I).toNat) ((at_ xt (((at_ v_1 t36.toNat).I).toNat)) ++ [(at_ sample (((at_ v_1 t36.toNat).J).toNat)).X])), ((yt.set (((at_ v_1 t36.toNat).I).toNat) ([] : List Int)).set (((at_ v_1 t36.toNat).I).toNat) ((at_ yt (((at_ v_1 t36.toNat).I).toNat)) ++ [(at_ sample (((at_ v_1 t36.toNat).J).toNat)).Y]))) rfl (show (0 ≤ (t36 + 1) ∧ (t36 + 1) ≤ (v_1.length : Int)) ∧ (tabOk Feat.X v_1 sample (t36 + 1).toNat t.Feats.length ((xt.set (((at_ v_1 t36.toNat).I).toNat) ([] : List Int)).set (((at_ v_1 t36.toNat).I).toNat) ((at_ xt (((at_ v_1 t36.toNat).I).toNat)) ++ [(at_ sample (((at_ v_1 t36.toNat).J).toNat)).X]))) ∧ (tabOk Feat.Y v_1 sample (t36 + 1).toNat t.Feats.length ((yt.set (((at_ v_1 t36.toNat).I).toNat) ([] : List Int)).set (((at_ v_1 t36.toNat).I).toNat) ((at_ yt (((at_ v_1 t36.toNat).I).toNat)) ++ [(at_ sample (((at_ v_1 t36.toNat).J).toNat)).Y]))) ∧ True from ⟨(by omega), (by rw [show (t36 + 1).toNat = t36.toNat + 1 from by omega]; exact tab_next hxt hp hpp.1 rfl rfl), (by rw [show (t36 + 1).toNat = t36.toNat + 1 from by omega]; exact tab_next hyt hp hpp.1 rfl rfl), trivial⟩) (by first | (show (((v_1.length : Int) - (t36 + 1)).toNat : Nat) < ((v_1.length : Int) - t36).toNat; omega) | (dsimp only; omega))
    ·have hpe : t36.toNat = v_1.length := by omega
     have hxl := hxt.1
     have hyl := hyt.1
     refine x_reg [(0, .dec false)] [1, 3, 4, 8, 11, 12, 34, 35, 36, 37] [4, 8, 29, 33, 8401, 8402] [slFeat false sample, I share, .ref 4 0, .ref 8 0, .arr 29, .arr 33, slPair true v_1, I (v_1.length : Int), I t36, Bv false] [some (bxTrained t), some (.box [Sv (⟨#[]⟩ : ByteArray), nilA, nilA, I 0]), some (.oar [8401] 1 xt.length (oLI 8401 xt)), some (.oar [8402] 1 yt.length (oLI 8402 yt)), some (.fam xt.length 1 (mLI xt) (gLI xt)), some (.fam yt.length 1 (mLI yt) (gLI yt))] [¬ (t36 < (v_1.length : Int))] (by kernel_rfl) ⟨h1, trivial⟩ ?_
     refine xe_then ?_
     refine x_seq ?_
     refine x_false rfl ?_
     refine x_exit ?_
     refine xe_exit_then ?_
     refine xe_loop_exit ?_
     refine xe_exit_same ?_
     refine xe_then ?_
     refine x_seq ?_
     obtain ⟨out_2, hx2_0, hc2⟩ := cloneF0_ok t.Base (by omega)
     refine x_reg [(4, .lend [] [(8311, .arr 3 out_2.length (fFeat out_2))] [(true, slFeat false t.Base)] false (.arr 8311)), (9, .new 15)] [3, 4, 8, 11, 12, 15] [4, 8, 15, 29, 33, 8311, 8401, 8402] [I share, .ref 4 0, .ref 8 0, .arr 29, .arr 33, .ref 15 0] [some (bxTrained t), some (.box [Sv (⟨#[]⟩ : ByteArray), nilA, nilA, I 0]), some (.box [Sv t.Label, .arr 8311, nilA, I (t.Count + 1)]), some (.oar [8401] 1 xt.length (oLI 8401 xt)), some (.oar [8402] 1 yt.length (oLI 8402 yt)), some (.arr 3 out_2.length (fFeat out_2)), some (.fam xt.length 1 (mLI xt) (gLI xt)), some (.fam yt.length 1 (mLI yt) (gLI yt))] [CallOK Try.prog 59 [slFeat false t.Base] (lookO []) false (.arr 8311) (lookO [(8311, .arr 3 out_2.length (fFeat out_2))]) ∧ ((slFeat false t.Base : AV) = slFeat false t.Base) ∧ True, inR .i64 (t.Count + 1)] (by kernel_rfl) ⟨⟨hc2, rfl, trivial⟩, (inR_i64 (by omega) (by omega)), trivial⟩ ?_
     refine xe_then ?_
     refine x_seq ?_
     refine x_seq ?_
     refine x_reg [] [3, 4, 8, 11, 12, 15, 85, 86, 87] [4, 8, 15, 29, 33, 8311, 8401, 8402] [I share, .ref 4 0, .ref 8 0, .arr 29, .arr 33, .ref 15 0, slFeat false t.Feats, I (t.Feats.length : Int), I 0] [some (bxTrained t), some (.box [Sv (⟨#[]⟩ : ByteArray), nilA, nilA, I 0]), some (.box [Sv t.Label, .arr 8311, nilA, I (t.Count + 1)]), some (.oar [8401] 1 xt.length (oLI 8401 xt)), some (.oar [8402] 1 yt.length (oLI 8402 yt)), some (.arr 3 out_2.length (fFeat out_2)), some (.fam xt.length 1 (mLI xt) (gLI xt)), some (.fam yt.length 1 (mLI yt) (gLI yt))] [] (by kernel_rfl) trivial ?_
     refine xe_then ?_
     refine x_block ?_
     refine x_nilC 15 2 852 3 (fun _ => []) rfl (by kernel_rfl) ?_
     refine x_weak [] (T := [(3, I share), (4, .ref 4 0), (8, .ref 8 0), (11, .arr 29), (12, .arr 33), (15, .ref 15 0), (85, slFeat false t.Feats), (86, I (t.Feats.length : Int)), (87, I 0)]) (O := [(4, bxTrained t), (8, .box [Sv (⟨#[]⟩ : ByteArray), nilA, nilA, I 0]), (15, .box [Sv t.Label, .arr 8311, .arr 852, I (t.Count + 1)]), (29, .oar [8401] 1 xt.length (oLI 8401 xt)), (33, .oar [8402] 1 yt.length (oLI 8402 yt)), (852, .arr 3 (([] : List Feat).length) (fFeat ([] : List Feat))), (8311, .arr 3 out_2.length (fFeat out_2)), (8401, .fam xt.length 1 (mLI xt) (gLI xt)), (8402, .fam yt.length 1 (mLI yt) (gLI yt))]) rfl (⟨.inl rfl, .inl rfl, .inl rfl, .inl rfl, .inl rfl, .inl rfl, .inl rfl, .inl rfl, .inl rfl, trivial⟩) (⟨.inl rfl, .inl rfl, .inl rfl, .inl rfl, .inl rfl, .inr ⟨rfl, (by first | rfl | (simp; done) | (simp; omega) | omega), fun i_ hi_ => absurd hi_ (Nat.not_lt_zero _)⟩, .inl rfl, .inl rfl, .inl rfl, trivial⟩) ?_
     refine x_loop (X := Int × (List Feat) × (List (List Int)) × (List (List Int))) (fun x => mkS [(3, I share), (4, .ref 4 0), (8, .ref 8 0), (11, .arr 29), (12, .arr 33), (15, .ref 15 0), (85, slFeat false t.Feats), (86, I (t.Feats.length : Int)), (87, I x.1)] [(4, bxTrained t), (8, .box [Sv (⟨#[]⟩ : ByteArray), nilA, nilA, I 0]), (15, .box [Sv t.Label, .arr 8311, .arr 852, I (t.Count + 1)]), (29, .oar [8401] 1 x.2.2.1.length (oLI 8401 x.2.2.1)), (33, .oar [8402] 1 x.2.2.2.length (oLI 8402 x.2.2.2)), (852, .arr 3 x.2.1.length (fFeat x.2.1)), (8311, .arr 3 out_2.length (fFeat out_2)), (8401, .fam x.2.2.1.length 1 (mLI x.2.2.1) (gLI x.2.2.1)), (8402, .fam x.2.2.2.length 1 (mLI x.2.2.2) (gLI x.2.2.2))]) (fun x => (0 ≤ x.1 ∧ x.1 ≤ (t.Feats.length : Int)) ∧ (tabR Feat.X v_1 sample x.1.toNat t.Feats.length x.2.2.1) ∧ (tabR Feat.Y v_1 sample x.1.toNat t.Feats.length x.2.2.2) ∧ (x.2.1 = adpN t sample band share x.1.toNat) ∧ True) (fun x => ((t.Feats.length : Int) - x.1).toNat) (0, ([] : List Feat), xt, yt) rfl (show (0 ≤ (0 : Int) ∧ (0 : Int) ≤ (t.Feats.length : Int)) ∧ (tabR Feat.X v_1 sample (0 : Int).toNat t.Feats.length xt) ∧ (tabR Feat.Y v_1 sample (0 : Int).toNat t.Feats.length yt) ∧ (([] : List Feat) = adpN t sample band share (0 : Int).toNat) ∧ True from ⟨(by omega), (by exact tabR_start hxt hpe), (by exact tabR_start hyt hpe), (by rfl), trivial⟩) (fun x hI => ?_)
     obtain ⟨t87, fs, xt', yt'⟩ := x
     obtain ⟨hi0, hxt', hyt', hfs, _⟩ : (0 ≤ t87 ∧ t87 ≤ (t.Feats.length : Int)) ∧ (tabR Feat.X v_1 sample t87.toNat t.Feats.length xt') ∧ (tabR Feat.Y v_1 sample t87.toNat t.Feats.length yt') ∧ (fs = adpN t sample band share t87.toNat) ∧ True := hI
     show XW _ _ _ _ (mkS [(3, I share), (4, .ref 4 0), (8, .ref 8 0), (11, .arr 29), (12, .arr 33), (15, .ref 15 0), (85, slFeat false t.Feats), (86, I (t.Feats.length : Int)), (87, I t87)] [(4, bxTrained t), (8, .box [Sv (⟨#[]⟩ : ByteArray), nilA, nilA, I 0]), (15, .box [Sv t.Label, .arr 8311, .arr 852, I (t.Count + 1)]), (29, .oar [8401] 1 xt'.length (oLI 8401 xt')), (33, .oar [8402] 1 yt'.length (oLI 8402 yt')), (852, .arr 3 fs.length (fFeat fs)), (8311, .arr 3 out_2.length (fFeat out_2)), (8401, .fam xt'.length 1 (mLI xt') (gLI xt')), (8402, .fam yt'.length 1 (mLI yt') (gLI yt'))]) _ _
     refine x_seq ?_
     by_cases h2 : t87 < (t.Feats.length : Int)
     ·have hi : t87.toNat < t.Feats.length := by omega
      have hix : ((t87.toNat : Nat) : Int) = t87 := by omega
      have hfo := okF_iff.1 (okFeats_at oka hi)
      have hbo := okF_iff.1 (okFeats_at okb (show t87.toNat < t.Base.length by omega))
      have hfl : fs.length = t87.toNat := by rw [hfs, adpN_len]
      have hxl' := hxt'.1
      have hyl' := hyt'.1
      have hxr := hxt'.2 t87.toNat (Nat.le_refl _) hi
      have hyr := hyt'.2 t87.toNat (Nat.le_refl _) hi
      have hxq := hxp Feat.X t87.toNat hi
      have hyq := hxp Feat.Y t87.toNat hi
      rw [← hxr] at hxq
      rw [← hyr] at hyq
      refine x_reg [(0, .dec true)] [3, 4, 8, 11, 12, 15, 85, 86, 87, 88] [4, 8, 15, 29, 33, 852, 8311, 8401, 8402] [I share, .ref 4 0, .ref 8 0, .arr 29, .arr 33, .ref 15 0, slFeat false t.Feats, I (t.Feats.length : Int), I t87, Bv true] [some (bxTrained t), some (.box [Sv (⟨#[]⟩ : ByteArray), nilA, nilA, I 0]), some (.box [Sv t.Label, .arr 8311, .arr 852, I (t.Count + 1)]), some (.oar [8401] 1 xt'.length (oLI 8401 xt')), some (.oar [8402] 1 yt'.length (oLI 8402 yt')), some (.arr 3 fs.length (fFeat fs)), some (.arr 3 out_2.length (fFeat out_2)), some (.fam xt'.length 1 (mLI xt') (gLI xt')), some (.fam yt'.length 1 (mLI yt') (gLI yt'))] [t87 < (t.Feats.length : Int)] (by kernel_rfl) ⟨h2, trivial⟩ ?_
      refine xe_then ?_
      refine x_seq ?_
      refine x_true rfl ?_
      refine x_skip ?_
      refine xe_then ?_
      refine x_seq ?_
      refine x_block ?_
      refine x_seq ?_
      refine x_reg [(3, .new 17)] [3, 4, 8, 11, 12, 15, 16, 17, 85, 86, 87] [4, 8, 15, 17, 29, 33, 852, 8311, 8401, 8402] [I share, .ref 4 0, .ref 8 0, .arr 29, .arr 33, .ref 15 0, I t87, .ref 17 0, slFeat false t.Feats, I (t.Feats.length : Int), I t87] [some (bxTrained t), some (.box [Sv (⟨#[]⟩ : ByteArray), nilA, nilA, I 0]), some (.box [Sv t.Label, .arr 8311, .arr 852, I (t.Count + 1)]), some (bxFeat (at_ t.Feats t87.toNat)), some (.oar [8401] 1 xt'.length (oLI 8401 xt')), some (.oar [8402] 1 yt'.length (oLI 8402 yt')), some (.arr 3 fs.length (fFeat fs)), some (.arr 3 out_2.length (fFeat out_2)), some (.fam xt'.length 1 (mLI xt') (gLI xt')), some (.fam yt'.length 1 (mLI yt') (gLI yt'))] [(0 : Int) ≤ t87 ∧ t87 < (t.Feats.length : Int)] (by kernel_rfl) ⟨⟨(by omega), (by omega)⟩, trivial⟩ ?_
      refine xe_then ?_
      refine x_seq ?_
      refine x_takerow 29 7201 8401 t87.toNat rfl rfl ((by omega)) (fun q _ => rfl) (by kernel_rfl) ?_
      refine x_weak [] (T := [(3, I share), (4, .ref 4 0), (8, .ref 8 0), (11, .arr 29), (12, .arr 33), (15, .ref 15 0), (16, I t87), (17, .ref 17 0), (85, slFeat false t.Feats), (86, I (t.Feats.length : Int)), (87, I t87)]) (O := [(4, bxTrained t), (8, .box [Sv (⟨#[]⟩ : ByteArray), nilA, nilA, I 0]), (15, .box [Sv t.Label, .arr 8311, .arr 852, I (t.Count + 1)]), (17, bxFeat (at_ t.Feats t87.toNat)), (29, .oar [7201, 8401] 1 ((xt'.set t87.toNat ([] : List Int)).length) (fun q => bif Nat.beq q t87.toNat then [.arr 7201] else (oLI 8401 (xt'.set t87.toNat ([] : List Int))) q)), (33, .oar [8402] 1 yt'.length (oLI 8402 yt')), (852, .arr 3 fs.length (fFeat fs)), (7201, .arr 1 ((at_ xt' t87.toNat).length) (fI (at_ xt' t87.toNat))), (8311, .arr 3 out_2.length (fFeat out_2)), (8401, .fam (xt'.set t87.toNat ([] : List Int)).length 1 (mLI (xt'.set t87.toNat ([] : List Int))) (gLI (xt'.set t87.toNat ([] : List Int)))), (8402, .fam yt'.length 1 (mLI yt') (gLI yt'))]) rfl (⟨.inl rfl, .inl rfl, .inl rfl, .inl rfl, .inl rfl, .inl rfl, .inl rfl, .inl rfl, .inl rfl, .inl rfl, .inl rfl, trivial⟩) (⟨.inl rfl, .inl rfl, .inl rfl, .inl rfl, .inr ⟨rfl, rfl, (by first | rfl | (simp; done)), fun i hi => .inl (by dsimp only; cases Nat.beq i t87.toNat <;> rfl)⟩, .inl rfl, .inl rfl, .inl rfl, .inl rfl, .inr (fputLI ((by omega)) (by first | rfl | (simp; done) | (simp; omega)) (fun i_ h_ => absurd h_ (Nat.not_lt_zero _))), .inl rfl, trivial⟩) ?_
      obtain ⟨v_3, list'_3, hx3_0, hc3⟩ := medianOf_ok (at_ xt' t87.toNat) (by omega)
      have hMX : medI (xsF Feat.X v_1 sample t87) = v_3 := by rw [← hix, ← hxr]; exact hx3_0.symm
      have hmX2 : 0 ≤ v_3 ∧ v_3 ≤ 255 := by have q := hmX t87.toNat hi; rw [hix, hMX] at q; exact q
      refine x_reg [(5, .as (.arr 7201)), (6, .lend [(7201, .arr 1 ((at_ xt' t87.toNat).length) (fI (at_ xt' t87.toNat)), .arr 1 list'_3.length (fI list'_3))] [] [(true, .arr 7201)] true (I v_3)), (14, .call [(true, I ((at_ t.Feats t87.toNat).X)), (true, I v_3), (true, I ((at_ t.Base t87.toNat).X)), (true, I share)] true (I (towI ((at_ t.Feats t87.toNat).X) v_3 ((at_ t.Base t87.toNat).X) share)))] [3, 4, 8, 11, 12, 15, 16, 17, 85, 86, 87] [4, 8, 15, 17, 29, 33, 852, 7201, 8311, 8401, 8402] [I share, .ref 4 0, .ref 8 0, .arr 29, .arr 33, .ref 15 0, I t87, .ref 17 0, slFeat false t.Feats, I (t.Feats.length : Int), I t87] [some (bxTrained t), some (.box [Sv (⟨#[]⟩ : ByteArray), nilA, nilA, I 0]), some (.box [Sv t.Label, .arr 8311, .arr 852, I (t.Count + 1)]), some (.box [I (towI ((at_ t.Feats t87.toNat).X) v_3 ((at_ t.Base t87.toNat).X) share), I ((at_ t.Feats t87.toNat).Y), I ((at_ t.Feats t87.toNat).D)]), some (.oar [7201, 8401] 1 ((xt'.set t87.toNat ([] : List Int)).length) (fun q => bif Nat.beq q t87.toNat then [.arr 7201] else (oLI 8401 (xt'.set t87.toNat ([] : List Int))) q)), some (.oar [8402] 1 yt'.length (oLI 8402 yt')), some (.arr 3 fs.length (fFeat fs)), some (.arr 1 list'_3.length (fI list'_3)), some (.arr 3 out_2.length (fFeat out_2)), some (.fam (xt'.set t87.toNat ([] : List Int)).length 1 (mLI (xt'.set t87.toNat ([] : List Int))) (gLI (xt'.set t87.toNat ([] : List Int)))), some (.fam yt'.length 1 (mLI yt') (gLI yt'))] [(0 : Int) ≤ t87 ∧ t87 < (((xt'.set t87.toNat ([] : List Int)).length) : Int), t87.toNat < (xt'.set t87.toNat ([] : List Int)).length ∧ List.drop 0 ((fun q => bif Nat.beq q t87.toNat then [.arr 7201] else (oLI 8401 (xt'.set t87.toNat ([] : List Int))) q) t87.toNat) = [.arr 7201], CallOK Try.prog 61 [.arr 7201] (lookO [(7201, .arr 1 ((at_ xt' t87.toNat).length) (fI (at_ xt' t87.toNat)))]) true (I v_3) (lookO [(7201, .arr 1 list'_3.length (fI list'_3))]) ∧ ((.arr 7201 : AV) = .arr 7201) ∧ (((.arr 1 ((at_ xt' t87.toNat).length) (fI (at_ xt' t87.toNat)) : Ob) = .arr 1 ((at_ xt' t87.toNat).length) (fI (at_ xt' t87.toNat)) ∨ obLe noOb true (.arr 1 ((at_ xt' t87.toNat).length) (fI (at_ xt' t87.toNat))) (.arr 1 ((at_ xt' t87.toNat).length) (fI (at_ xt' t87.toNat)))) ∧ taggedO false (.arr 1 ((at_ xt' t87.toNat).length) (fI (at_ xt' t87.toNat)))) ∧ True, (0 : Int) ≤ t87 ∧ t87 < (t.Base.length : Int), Con Try.prog 60 [I ((at_ t.Feats t87.toNat).X), I v_3, I ((at_ t.Base t87.toNat).X), I share] true (I (towI ((at_ t.Feats t87.toNat).X) v_3 ((at_ t.Base t87.toNat).X) share)) ∧ ((I ((at_ t.Feats t87.toNat).X) : AV) = I ((at_ t.Feats t87.toNat).X)) ∧ ((I v_3 : AV) = I v_3) ∧ ((I ((at_ t.Base t87.toNat).X) : AV) = I ((at_ t.Base t87.toNat).X)) ∧ ((I share : AV) = I share) ∧ True] (by kernel_rfl) ⟨⟨(by first | omega | (simp only [List.length_set]; omega)), (by first | omega | (simp only [List.length_set]; omega))⟩, ⟨(by first | omega | (simp only [List.length_set]; omega)), (by simp only [Nat.beq_refl, cond_true]; rfl)⟩, ⟨hc3, rfl, ⟨.inl rfl, fun _ _ => tagcI false _⟩, trivial⟩, ⟨(by omega), (by omega)⟩, ⟨(towards_ok ((at_ t.Feats t87.toNat).X) v_3 ((at_ t.Base t87.toNat).X) share (by omega) (by omega) (by omega) (by omega)), rfl, rfl, rfl, rfl, trivial⟩, trivial⟩ ?_
      refine xe_then ?_
      refine x_seq ?_
      refine x_putrow 29 7201 8401 t87.toNat rfl rfl rfl ((by first | omega | (simp only [List.length_set]; omega))) (by first | exact Nat.le_refl _ | omega) (fun q _ => ⟨fun e => by subst e; simp only [Nat.beq_refl, cond_true], fun e => by simp only [beq_ne e, cond_false]; rfl⟩) (by kernel_rfl) ?_
      refine x_weak [] (T := [(3, I share), (4, .ref 4 0), (8, .ref 8 0), (11, .arr 29), (12, .arr 33), (15, .ref 15 0), (16, I t87), (17, .ref 17 0), (85, slFeat false t.Feats), (86, I (t.Feats.length : Int)), (87, I t87)]) (O := [(4, bxTrained t), (8, .box [Sv (⟨#[]⟩ : ByteArray), nilA, nilA, I 0]), (15, .box [Sv t.Label, .arr 8311, .arr 852, I (t.Count + 1)]), (17, .box [I (towI ((at_ t.Feats t87.toNat).X) v_3 ((at_ t.Base t87.toNat).X) share), I ((at_ t.Feats t87.toNat).Y), I ((at_ t.Feats t87.toNat).D)]), (29, .oar [8401] 1 (((xt'.set t87.toNat ([] : List Int)).set t87.toNat list'_3).length) (oLI 8401 ((xt'.set t87.toNat ([] : List Int)).set t87.toNat list'_3))), (33, .oar [8402] 1 yt'.length (oLI 8402 yt')), (852, .arr 3 fs.length (fFeat fs)), (8311, .arr 3 out_2.length (fFeat out_2)), (8401, .fam ((xt'.set t87.toNat ([] : List Int)).set t87.toNat list'_3).length 1 (mLI ((xt'.set t87.toNat ([] : List Int)).set t87.toNat list'_3)) (gLI ((xt'.set t87.toNat ([] : List Int)).set t87.toNat list'_3))), (8402, .fam yt'.length 1 (mLI yt') (gLI yt'))]) rfl (⟨.inl rfl, .inl rfl, .inl rfl, .inl rfl, .inl rfl, .inl rfl, .inl rfl, .inl rfl, .inl rfl, .inl rfl, .inl rfl, trivial⟩) (⟨.inl rfl, .inl rfl, .inl rfl, .inl rfl, .inr ⟨rfl, rfl, (by simp), fun i hi => .inl rfl⟩, .inl rfl, .inl rfl, .inl rfl, .inr (fputLI ((by first | omega | (simp only [List.length_set]; omega))) (by first | rfl | (simp; done) | (simp; omega)) (fun i _ => rfl)), .inl rfl, trivial⟩) ?_
      refine x_takerow 33 7201 8402 t87.toNat rfl rfl ((by omega)) (fun q _ => rfl) (by kernel_rfl) ?_
      refine x_weak [] (T := [(3, I share), (4, .ref 4 0), (8, .ref 8 0), (11, .arr 29), (12, .arr 33), (15, .ref 15 0), (16, I t87), (17, .ref 17 0), (85, slFeat false t.Feats), (86, I (t.Feats.length : Int)), (87, I t87)]) (O := [(4, bxTrained t), (8, .box [Sv (⟨#[]⟩ : ByteArray), nilA, nilA, I 0]), (15, .box [Sv t.Label, .arr 8311, .arr 852, I (t.Count + 1)]), (17, .box [I (towI ((at_ t.Feats t87.toNat).X) v_3 ((at_ t.Base t87.toNat).X) share), I ((at_ t.Feats t87.toNat).Y), I ((at_ t.Feats t87.toNat).D)]), (29, .oar [8401] 1 (((xt'.set t87.toNat ([] : List Int)).set t87.toNat list'_3).length) (oLI 8401 ((xt'.set t87.toNat ([] : List Int)).set t87.toNat list'_3))), (33, .oar [7201, 8402] 1 ((yt'.set t87.toNat ([] : List Int)).length) (fun q => bif Nat.beq q t87.toNat then [.arr 7201] else (oLI 8402 (yt'.set t87.toNat ([] : List Int))) q)), (852, .arr 3 fs.length (fFeat fs)), (7201, .arr 1 ((at_ yt' t87.toNat).length) (fI (at_ yt' t87.toNat))), (8311, .arr 3 out_2.length (fFeat out_2)), (8401, .fam ((xt'.set t87.toNat ([] : List Int)).set t87.toNat list'_3).length 1 (mLI ((xt'.set t87.toNat ([] : List Int)).set t87.toNat list'_3)) (gLI ((xt'.set t87.toNat ([] : List Int)).set t87.toNat list'_3))), (8402, .fam (yt'.set t87.toNat ([] : List Int)).length 1 (mLI (yt'.set t87.toNat ([] : List Int))) (gLI (yt'.set t87.toNat ([] : List Int))))]) rfl (⟨.inl rfl, .inl rfl, .inl rfl, .inl rfl, .inl rfl, .inl rfl, .inl rfl, .inl rfl, .inl rfl, .inl rfl, .inl rfl, trivial⟩) (⟨.inl rfl, .inl rfl, .inl rfl, .inl rfl, .inl rfl, .inr ⟨rfl, rfl, (by first | rfl | (simp; done)), fun i hi => .inl (by dsimp only; cases Nat.beq i t87.toNat <;> rfl)⟩, .inl rfl, .inl rfl, .inl rfl, .inl rfl, .inr (fputLI ((by omega)) (by first | rfl | (simp; done) | (simp; omega)) (fun i_ h_ => absurd h_ (Nat.not_lt_zero _))), trivial⟩) ?_
      obtain ⟨v_4, list'_4, hx4_0, hc4⟩ := medianOf_ok (at_ yt' t87.toNat) (by omega)
      have hMY : medI (xsF Feat.Y v_1 sample t87) = v_4 := by rw [← hix, ← hyr]; exact hx4_0.symm
      have hmY2 : 0 ≤ v_4 ∧ v_4 ≤ 255 := by have q := hmY t87.toNat hi; rw [hix, hMY] at q; exact q
      refine x_reg [(5, .as (.arr 7201)), (6, .lend [(7201, .arr 1 ((at_ yt' t87.toNat).length) (fI (at_ yt' t87.toNat)), .arr 1 list'_4.length (fI list'_4))] [] [(true, .arr 7201)] true (I v_4)), (14, .call [(true, I ((at_ t.Feats t87.toNat).Y)), (true, I v_4), (true, I ((at_ t.Base t87.toNat).Y)), (true, I share)] true (I (towI ((at_ t.Feats t87.toNat).Y) v_4 ((at_ t.Base t87.toNat).Y) share)))] [3, 4, 8, 11, 12, 15, 17, 85, 86, 87] [4, 8, 15, 17, 29, 33, 852, 7201, 8311, 8401, 8402] [I share, .ref 4 0, .ref 8 0, .arr 29, .arr 33, .ref 15 0, .ref 17 0, slFeat false t.Feats, I (t.Feats.length : Int), I t87] [some (bxTrained t), some (.box [Sv (⟨#[]⟩ : ByteArray), nilA, nilA, I 0]), some (.box [Sv t.Label, .arr 8311, .arr 852, I (t.Count + 1)]), some (.box [I (towI ((at_ t.Feats t87.toNat).X) v_3 ((at_ t.Base t87.toNat).X) share), I (towI ((at_ t.Feats t87.toNat).Y) v_4 ((at_ t.Base t87.toNat).Y) share), I ((at_ t.Feats t87.toNat).D)]), some (.oar [8401] 1 (((xt'.set t87.toNat ([] : List Int)).set t87.toNat list'_3).length) (oLI 8401 ((xt'.set t87.toNat ([] : List Int)).set t87.toNat list'_3))), some (.oar [7201, 8402] 1 ((yt'.set t87.toNat ([] : List Int)).length) (fun q => bif Nat.beq q t87.toNat then [.arr 7201] else (oLI 8402 (yt'.set t87.toNat ([] : List Int))) q)), some (.arr 3 fs.length (fFeat fs)), some (.arr 1 list'_4.length (fI list'_4)), some (.arr 3 out_2.length (fFeat out_2)), some (.fam ((xt'.set t87.toNat ([] : List Int)).set t87.toNat list'_3).length 1 (mLI ((xt'.set t87.toNat ([] : List Int)).set t87.toNat list'_3)) (gLI ((xt'.set t87.toNat ([] : List Int)).set t87.toNat list'_3))), some (.fam (yt'.set t87.toNat ([] : List Int)).length 1 (mLI (yt'.set t87.toNat ([] : List Int))) (gLI (yt'.set t87.toNat ([] : List Int))))] [(0 : Int) ≤ t87 ∧ t87 < (((yt'.set t87.toNat ([] : List Int)).length) : Int), t87.toNat < (yt'.set t87.toNat ([] : List Int)).length ∧ List.drop 0 ((fun q => bif Nat.beq q t87.toNat then [.arr 7201] else (oLI 8402 (yt'.set t87.toNat ([] : List Int))) q) t87.toNat) = [.arr 7201], CallOK Try.prog 61 [.arr 7201] (lookO [(7201, .arr 1 ((at_ yt' t87.toNat).length) (fI (at_ yt' t87.toNat)))]) true (I v_4) (lookO [(7201, .arr 1 list'_4.length (fI list'_4))]) ∧ ((.arr 7201 : AV) = .arr 7201) ∧ (((.arr 1 ((at_ yt' t87.toNat).length) (fI (at_ yt' t87.toNat)) : Ob) = .arr 1 ((at_ yt' t87.toNat).length) (fI (at_ yt' t87.toNat)) ∨ obLe noOb true (.arr 1 ((at_ yt' t87.toNat).length) (fI (at_ yt' t87.toNat))) (.arr 1 ((at_ yt' t87.toNat).length) (fI (at_ yt' t87.toNat)))) ∧ taggedO false (.arr 1 ((at_ yt' t87.toNat).length) (fI (at_ yt' t87.toNat)))) ∧ True, (0 : Int) ≤ t87 ∧ t87 < (t.Base.length : Int), Con Try.prog 60 [I ((at_ t.Feats t87.toNat).Y), I v_4, I ((at_ t.Base t87.toNat).Y), I share] true (I (towI ((at_ t.Feats t87.toNat).Y) v_4 ((at_ t.Base t87.toNat).Y) share)) ∧ ((I ((at_ t.Feats t87.toNat).Y) : AV) = I ((at_ t.Feats t87.toNat).Y)) ∧ ((I v_4 : AV) = I v_4) ∧ ((I ((at_ t.Base t87.toNat).Y) : AV) = I ((at_ t.Base t87.toNat).Y)) ∧ ((I share : AV) = I share) ∧ True] (by kernel_rfl) ⟨⟨(by first | omega | (simp only [List.length_set]; omega)), (by first | omega | (simp only [List.length_set]; omega))⟩, ⟨(by first | omega | (simp only [List.length_set]; omega)), (by simp only [Nat.beq_refl, cond_true]; rfl)⟩, ⟨hc4, rfl, ⟨.inl rfl, fun _ _ => tagcI false _⟩, trivial⟩, ⟨(by omega), (by omega)⟩, ⟨(towards_ok ((at_ t.Feats t87.toNat).Y) v_4 ((at_ t.Base t87.toNat).Y) share (by omega) (by omega) (by omega) (by omega)), rfl, rfl, rfl, rfl, trivial⟩, trivial⟩ ?_
      refine xe_then ?_
      refine x_putrow 33 7201 8402 t87.toNat rfl rfl rfl ((by first | omega | (simp only [List.length_set]; omega))) (by first | exact Nat.le_refl _ | omega) (fun q _ => ⟨fun e => by subst e; simp only [Nat.beq_refl, cond_true], fun e => by simp only [beq_ne e, cond_false]; rfl⟩) (by kernel_rfl) ?_
      refine x_weak [] (T := [(3, I share), (4, .ref 4 0), (8, .ref 8 0), (11, .arr 29), (12, .arr 33), (15, .ref 15 0), (17, .ref 17 0), (85, slFeat false t.Feats), (86, I (t.Feats.length : Int)), (87, I t87)]) (O := [(4, bxTrained t), (8, .box [Sv (⟨#[]⟩ : ByteArray), nilA, nilA, I 0]), (15, .box [Sv t.Label, .arr 8311, .arr 852, I (t.Count + 1)]), (17, .box [I (towI ((at_ t.Feats t87.toNat).X) v_3 ((at_ t.Base t87.toNat).X) share), I (towI ((at_ t.Feats t87.toNat).Y) v_4 ((at_ t.Base t87.toNat).Y) share), I ((at_ t.Feats t87.toNat).D)]), (29, .oar [8401] 1 (((xt'.set t87.toNat ([] : List Int)).set t87.toNat list'_3).length) (oLI 8401 ((xt'.set t87.toNat ([] : List Int)).set t87.toNat list'_3))), (33, .oar [8402] 1 (((yt'.set t87.toNat ([] : List Int)).set t87.toNat list'_4).length) (oLI 8402 ((yt'.set t87.toNat ([] : List Int)).set t87.toNat list'_4))), (852, .arr 3 fs.length (fFeat fs)), (8311, .arr 3 out_2.length (fFeat out_2)), (8401, .fam ((xt'.set t87.toNat ([] : List Int)).set t87.toNat list'_3).length 1 (mLI ((xt'.set t87.toNat ([] : List Int)).set t87.toNat list'_3)) (gLI ((xt'.set t87.toNat ([] : List Int)).set t87.toNat list'_3))), (8402, .fam ((yt'.set t87.toNat ([] : List Int)).set t87.toNat list'_4).length 1 (mLI ((yt'.set t87.toNat ([] : List Int)).set t87.toNat list'_4)) (gLI ((yt'.set t87.toNat ([] : List Int)).set t87.toNat list'_4)))]) rfl (⟨.inl rfl, .inl rfl, .inl rfl, .inl rfl, .inl rfl, .inl rfl, .inl rfl, .inl rfl, .inl rfl, .inl rfl, trivial⟩) (⟨.inl rfl, .inl rfl, .inl rfl, .inl rfl, .inl rfl, .inr ⟨rfl, rfl, (by simp), fun i hi => .inl rfl⟩, .inl rfl, .inl rfl, .inl rfl, .inr (fputLI ((by first | omega | (simp only [List.length_set]; omega))) (by first | rfl | (simp; done) | (simp; omega)) (fun i _ => rfl)), trivial⟩) ?_
      refine x_reg [(3, .new 127), (4, .new 128)] [3, 4, 8, 11, 12, 15, 85, 86, 87] [4, 8, 15, 29, 33, 128, 8311, 8401, 8402] [I share, .ref 4 0, .ref 8 0, .arr 29, .arr 33, .ref 15 0, slFeat false t.Feats, I (t.Feats.length : Int), I t87] [some (bxTrained t), some (.box [Sv (⟨#[]⟩ : ByteArray), nilA, nilA, I 0]), some (.box [Sv t.Label, .arr 8311, .arr 128, I (t.Count + 1)]), some (.oar [8401] 1 (((xt'.set t87.toNat ([] : List Int)).set t87.toNat list'_3).length) (oLI 8401 ((xt'.set t87.toNat ([] : List Int)).set t87.toNat list'_3))), some (.oar [8402] 1 (((yt'.set t87.toNat ([] : List Int)).set t87.toNat list'_4).length) (oLI 8402 ((yt'.set t87.toNat ([] : List Int)).set t87.toNat list'_4))), some (.arr 3 (fs.length + 1) (catF fs.length (fFeat fs) (litF [I (towI ((at_ t.Feats t87.toNat).X) v_3 ((at_ t.Base t87.toNat).X) share), I (towI ((at_ t.Feats t87.toNat).Y) v_4 ((at_ t.Base t87.toNat).Y) share), I ((at_ t.Feats t87.toNat).D)] 3))), some (.arr 3 out_2.length (fFeat out_2)), some (.fam ((xt'.set t87.toNat ([] : List Int)).set t87.toNat list'_3).length 1 (mLI ((xt'.set t87.toNat ([] : List Int)).set t87.toNat list'_3)) (gLI ((xt'.set t87.toNat ([] : List Int)).set t87.toNat list'_3))), some (.fam ((yt'.set t87.toNat ([] : List Int)).set t87.toNat list'_4).length 1 (mLI ((yt'.set t87.toNat ([] : List Int)).set t87.toNat list'_4)) (gLI ((yt'.set t87.toNat ([] : List Int)).set t87.toNat list'_4)))] [(fs.length + 1) * 24 ≤ 140737488355328] (by kernel_rfl) ⟨(by omega), trivial⟩ ?_
      refine xe_block 3 ?_
      refine xe_then ?_
      refine x_reg [] [3, 4, 8, 11, 12, 15, 85, 86, 87] [4, 8, 15, 29, 33, 128, 8311, 8401, 8402] [I share, .ref 4 0, .ref 8 0, .arr 29, .arr 33, .ref 15 0, slFeat false t.Feats, I (t.Feats.length : Int), I (t87 + 1)] [some (bxTrained t), some (.box [Sv (⟨#[]⟩ : ByteArray), nilA, nilA, I 0]), some (.box [Sv t.Label, .arr 8311, .arr 128, I (t.Count + 1)]), some (.oar [8401] 1 (((xt'.set t87.toNat ([] : List Int)).set t87.toNat list'_3).length) (oLI 8401 ((xt'.set t87.toNat ([] : List Int)).set t87.toNat list'_3))), some (.oar [8402] 1 (((yt'.set t87.toNat ([] : List Int)).set t87.toNat list'_4).length) (oLI 8402 ((yt'.set t87.toNat ([] : List Int)).set t87.toNat list'_4))), some (.arr 3 (fs.length + 1) (catF fs.length (fFeat fs) (litF [I (towI ((at_ t.Feats t87.toNat).X) v_3 ((at_ t.Base t87.toNat).X) share), I (towI ((at_ t.Feats t87.toNat).Y) v_4 ((at_ t.Base t87.toNat).Y) share), I ((at_ t.Feats t87.toNat).D)] 3))), some (.arr 3 out_2.length (fFeat out_2)), some (.fam ((xt'.set t87.toNat ([] : List Int)).set t87.toNat list'_3).length 1 (mLI ((xt'.set t87.toNat ([] : List Int)).set t87.toNat list'_3)) (gLI ((xt'.set t87.toNat ([] : List Int)).set t87.toNat list'_3))), some (.fam ((yt'.set t87.toNat ([] : List Int)).set t87.toNat list'_4).length 1 (mLI ((yt'.set t87.toNat ([] : List Int)).set t87.toNat list'_4)) (gLI ((yt'.set t87.toNat ([] : List Int)).set t87.toNat list'_4)))] [inR .i64 (t87 + 1)] (by kernel_rfl) ⟨(inR_i64 (by omega) (by omega)), trivial⟩ ?_
      refine xe_weak [(852, 128)] (T := [(3, I share), (4, .ref 4 0), (8, .ref 8 0), (11, .arr 29), (12, .arr 33), (15, .ref 15 0), (85, slFeat false t.Feats), (86, I (t.Feats.length : Int)), (87, I (t87 + 1))]) (O := [(4, bxTrained t), (8, .box [Sv (⟨#[]⟩ : ByteArray), nilA, nilA, I 0]), (15, .box [Sv t.Label, .arr 8311, .arr 852, I (t.Count + 1)]), (29, .oar [8401] 1 (((xt'.set t87.toNat ([] : List Int)).set t87.toNat list'_3).length) (oLI 8401 ((xt'.set t87.toNat ([] : List Int)).set t87.toNat list'_3))), (33, .oar [8402] 1 (((yt'.set t87.toNat ([] : List Int)).set t87.toNat list'_4).length) (oLI 8402 ((yt'.set t87.toNat ([] : List Int)).set t87.toNat list'_4))), (852, .arr 3 ((fs ++ [(Feat.mk (towI ((at_ t.Feats t87.toNat).X) v_3 ((at_ t.Base t87.toNat).X) share) (towI ((at_ t.Feats t87.toNat).Y) v_4 ((at_ t.Base t87.toNat).Y) share) ((at_ t.Feats t87.toNat).D))]).length) (fFeat (fs ++ [(Feat.mk (towI ((at_ t.Feats t87.toNat).X) v_3 ((at_ t.Base t87.toNat).X) share) (towI ((at_ t.Feats t87.toNat).Y) v_4 ((at_ t.Base t87.toNat).Y) share) ((at_ t.Feats t87.toNat).D))]))), (8311, .arr 3 out_2.length (fFeat out_2)), (8401, .fam ((xt'.set t87.toNat ([] : List Int)).set t87.toNat list'_3).length 1 (mLI ((xt'.set t87.toNat ([] : List Int)).set t87.toNat list'_3)) (gLI ((xt'.set t87.toNat ([] : List Int)).set t87.toNat list'_3))), (8402, .fam ((yt'.set t87.toNat ([] : List Int)).set t87.toNat list'_4).length 1 (mLI ((yt'.set t87.toNat ([] : List Int)).set t87.toNat list'_4)) (gLI ((yt'.set t87.toNat ([] : List Int)).set t87.toNat list'_4)))]) rfl (⟨.inl rfl, .inl rfl, .inl rfl, .inl rfl, .inl rfl, .inl rfl, .inl rfl, .inl rfl, .inl rfl, trivial⟩) (⟨.inl rfl, .inl rfl, .inl rfl, .inl rfl, .inl rfl, .inr ⟨rfl, (by first | rfl | (simp; done) | (simp; omega) | omega), fun i_ hi_ => .inl (cat_snoc (enc := cFeat) (xs := fs) rfl i_ hi_)⟩, .inl rfl, .inl rfl, .inl rfl, trivial⟩) (xe_again ((t87 + 1), (fs ++ [(Feat.mk (towI ((at_ t.Feats t87.toNat).X) v_3 ((at_ t.Base t87.toNat).X) share) (towI ((at_ t.Feats t87.toNat).Y) v_4 ((at_ t.Base t87.toNat).Y) share) ((at_ t.Feats t87.toNat).D))]), ((xt'.set t87.toNat ([] : List Int)).set t87.toNat list'_3), ((yt'.set t87.toNat ([] : List Int)).set t87.toNat list'_4)) rfl (show (0 ≤ (t87 + 1) ∧ (t87 + 1) ≤ (t.Feats.length : Int)) ∧ (tabR Feat.X v_1 sample (t87 + 1).toNat t.Feats.length ((xt'.set t87.toNat ([] : List Int)).set t87.toNat list'_3)) ∧ (tabR Feat.Y v_1 sample (t87 + 1).toNat t.Feats.length ((yt'.set t87.toNat ([] : List Int)).set t87.toNat list'_4)) ∧ ((fs ++ [(Feat.mk (towI ((at_ t.Feats t87.toNat).X) v_3 ((at_ t.Base t87.toNat).X) share) (towI ((at_ t.Feats t87.toNat).Y) v_4 ((at_ t.Base t87.toNat).Y) share) ((at_ t.Feats t87.toNat).D))]) = adpN t sample band share (t87 + 1).toNat) ∧ True from ⟨(by omega), (by rw [show (t87 + 1).toNat = t87.toNat + 1 from by omega]; exact tabR_next hxt'), (by rw [show (t87 + 1).toNat = t87.toNat + 1 from by omega]; exact tabR_next hyt'), (by (rw [show (t87 + 1).toNat = t87.toNat + 1 from by omega, hfs]; exact adpN_succ (by rw [had, hix, hMX, hMY]))), trivial⟩) (by first | (show (((t.Feats.length : Int) - (t87 + 1)).toNat : Nat) < ((t.Feats.length : Int) - t87).toNat; omega) | (dsimp only; omega)))
     ·have hie : t87.toNat = t.Feats.length := by omega
      refine x_reg [(0, .dec false)] [3, 4, 8, 11, 12, 15, 85, 86, 87, 88] [4, 8, 15, 29, 33, 852, 8311, 8401, 8402] [I share, .ref 4 0, .ref 8 0, .arr 29, .arr 33, .ref 15 0, slFeat false t.Feats, I (t.Feats.length : Int), I t87, Bv false] [some (bxTrained t), some (.box [Sv (⟨#[]⟩ : ByteArray), nilA, nilA, I 0]), some (.box [Sv t.Label, .arr 8311, .arr 852, I (t.Count + 1)]), some (.oar [8401] 1 xt'.length (oLI 8401 xt')), some (.oar [8402] 1 yt'.length (oLI 8402 yt')), some (.arr 3 fs.length (fFeat fs)), some (.arr 3 out_2.length (fFeat out_2)), some (.fam xt'.length 1 (mLI xt') (gLI xt')), some (.fam yt'.length 1 (mLI yt') (gLI yt'))] [¬ (t87 < (t.Feats.length : Int))] (by kernel_rfl) ⟨h2, trivial⟩ ?_
      refine xe_then ?_
      refine x_seq ?_
      refine x_false rfl ?_
      refine x_exit ?_
      refine xe_exit_then ?_
      refine xe_loop_exit ?_
      refine xe_exit_same ?_
      refine xe_then ?_
      refine x_seq ?_
      refine x_reg [] [8] [8, 852, 8311] [.ref 8 0] [some (.box [Sv t.Label, .arr 8311, .arr 852, I (t.Count + 1)]), some (.arr 3 fs.length (fFeat fs)), some (.arr 3 out_2.length (fFeat out_2))] [] (by kernel_rfl) trivial ?_
      refine xe_then ?_
      refine x_ret ?_
      refine xe_weak [(8312, 852)] (T := [(8, .ref 8 0)]) (O := [(8, .box [Sv t.Label, .arr 8311, .arr 8312, I (t.Count + 1)]), (8311, .arr 3 out_2.length (fFeat out_2)), (8312, .arr 3 fs.length (fFeat fs))]) rfl (⟨.inl rfl, trivial⟩) (⟨.inl rfl, .inl rfl, .inl rfl, trivial⟩) ?_
      refine xe_end (out_2, fs) (show (out_2 = t.Base) ∧ (fs = (adpT t sample band share).Feats) ∧ (True) from ⟨(by first | assumption | (unfold adpT; rw [hfs, hie])), (by first | assumption | (unfold adpT; rw [hfs, hie])), trivial⟩) (⟨.inl rfl, .inl rfl, trivial⟩) (.agg [Sv t.Label, .arr 8311, .arr 8312, I (t.Count + 1)]) (by kernel_rfl) (.inl rfl) (fun h => by cases h) (fun h => by cases h)
  obtain ⟨⟨bs, fs⟩, ⟨hh0, hh1, _⟩, hc⟩ := hh
  exact ⟨bs, fs, hh0, hh1, hc⟩


-- impl.AdaptTrained
theorem implAdaptTrained_ok (t : Trained) (sample : List Feat) (band : Int) (share : Int) (ok : okTrained t) : ∃ (bs : List Feat) (fs : List Feat), (bs = (adR t sample band share).1.Base) ∧ (fs = (adR t sample band share).1.Feats) ∧ CallOK Try.prog 10 [agTrained t, slFeat false sample, I band, I share] (lookO []) false (.tup [.agg [Sv ((adR t sample band share).1.Label), .arr 8311, .arr 8312, I ((adR t sample band share).1.Count)], I ((adR t sample band share).2)]) (lookO [(8311, .arr 3 bs.length (fFeat bs)), (8312, .arr 3 fs.length (fFeat fs))]) := by
  have hh : ∃ r : (List Feat) × (List Feat), ((r.1 = (adR t sample band share).1.Base) ∧ (r.2 = (adR t sample band share).1.Feats) ∧ (True)) ∧ CallOK Try.prog 10 [agTrained t, slFeat false sample, I band, I share] (lookO []) false (.tup [.agg [Sv ((adR t sample band share).1.Label), .arr 8311, .arr 8312, I ((adR t sample band share).1.Count)], I ((adR t sample band share).2)]) (lookO [(8311, .arr 3 r.1.length (fFeat r.1)), (8312, .arr 3 r.2.length (fFeat r.2))]) := by
    refine fn_okX (Φ := fun r : (List Feat) × (List Feat) => (r.1 = (adR t sample band share).1.Base) ∧ (r.2 = (adR t sample band share).1.Feats) ∧ (True)) [] (fun r => [(8311, .arr 3 r.1.length (fFeat r.1)), (8312, .arr 3 r.2.length (fFeat r.2))]) (fn := Try.f10) (nt := 45) Try.func10 rfl rfl (args := [agTrained t, slFeat false sample, I band, I share]) rfl (allcons (.inl ⟨rfl, by simp [tagged, taggedL, tagFeat]⟩) (allcons (.inl ⟨rfl, tagFeat false _⟩) (allcons (.inl ⟨rfl, trivial⟩) (allcons (.inl ⟨rfl, trivial⟩) allnil)))) (res := fun r => .tup [.agg [Sv ((adR t sample band share).1.Label), .arr 8311, .arr 8312, I ((adR t sample band share).1.Count)], I ((adR t sample band share).2)]) ?_
    refine x_seq ?_
    refine x_reg [(0, .new 4), (1, .new 8)] [1, 2, 3, 4, 8] [4, 8] [slFeat false sample, I band, I share, .ref 4 0, .ref 8 0] [some (bxTrained t), some (.box [Sv (⟨#[]⟩ : ByteArray), nilA, nilA, I 0])] [] (by kernel_rfl) trivial ?_
    refine xe_then ?_
    refine x_seq ?_
    refine x_block ?_
    refine x_seq ?_
    rcases Bool.eq_false_or_eq_true (okTrained' t) with h1 | h1
    ·have okt := h1
     rcases Bool.eq_false_or_eq_true (okFeats sample 72) with h2 | h2
     ·have oks := h2
      have okl := okTr_len okt
      have hns := okFeats_n oks
      have hna := okFeats_n (okTr_iff.1 okt).2.2.1
      have hlen := (okTr_iff.1 okt).2.2.2.1.1
      refine x_reg [(1, .call [(true, agTrained t)] true (Bv true)), (5, .call [(true, slFeat false sample)] true (Bv true))] [1, 2, 3, 4, 8, 10] [4, 8] [slFeat false sample, I band, I share, .ref 4 0, .ref 8 0, Bv false] [some (bxTrained t), some (.box [Sv (⟨#[]⟩ : ByteArray), nilA, nilA, I 0])] [Con Try.prog 31 [agTrained t] true (Bv true) ∧ ((agTrained t : AV) = agTrained t) ∧ True, Con Try.prog 32 [slFeat false sample] true (Bv true) ∧ ((slFeat false sample : AV) = slFeat false sample) ∧ True] (by kernel_rfl) ⟨⟨(con_bool h1 (ValidTrained_ok t ok)), rfl, trivial⟩, ⟨(con_bool h2 (ValidSeq_ok sample)), rfl, trivial⟩, trivial⟩ ?_
      refine xe_then ?_
      refine x_false rfl ?_
      refine x_seq ?_
      rcases Bool.eq_false_or_eq_true (inB share 0 100) with h3 | h3
      ·have hsh := inB_iff.1 h3
       rcases Bool.eq_false_or_eq_true (inB band 0 72 && decide ((((t.Feats.length : Int) - (sample.length : Int)).natAbs : Int) ≤ band)) with h4 | h4
       ·have hbn := band_of h4 (by omega) (by omega)
        have hbd := hbn.1
        have hnm : inBd band t.Feats.length sample.length := hbn.2
        refine x_reg [(1, .call [(true, I share), (true, I 0), (true, I 100)] true (Bv true)), (10, .call [(true, I band), (true, I (t.Feats.length : Int)), (true, I (sample.length : Int))] true (Bv true))] [1, 2, 3, 4, 8, 20] [4, 8] [slFeat false sample, I band, I share, .ref 4 0, .ref 8 0, Bv false] [some (bxTrained t), some (.box [Sv (⟨#[]⟩ : ByteArray), nilA, nilA, I 0])] [Con Try.prog 33 [I share, I 0, I 100] true (Bv true) ∧ ((I share : AV) = I share) ∧ ((I 0 : AV) = I 0) ∧ ((I 100 : AV) = I 100) ∧ True, Con Try.prog 34 [I band, I (t.Feats.length : Int), I (sample.length : Int)] true (Bv true) ∧ ((I band : AV) = I band) ∧ ((I (t.Feats.length : Int) : AV) = I (t.Feats.length : Int)) ∧ ((I (sample.length : Int) : AV) = I (sample.length : Int)) ∧ True] (by kernel_rfl) ⟨⟨(con_bool h3 (within_ok share 0 100)), rfl, rfl, rfl, trivial⟩, ⟨(con_bool h4 (isBand_ok band (t.Feats.length : Int) (sample.length : Int) (by omega) (by omega))), rfl, rfl, rfl, trivial⟩, trivial⟩ ?_
        refine xe_then ?_
        refine x_false rfl ?_
        refine x_seq ?_
        by_cases h5 : 100 ≤ t.Count
        ·have hst : adR t sample band share = (zT, 5) := by unfold adR; simp [*]
         refine x_reg [(2, .dec true)] [1, 2, 3, 4, 8, 35] [4, 8] [slFeat false sample, I band, I share, .ref 4 0, .ref 8 0, Bv true] [some (bxTrained t), some (.box [Sv (⟨#[]⟩ : ByteArray), nilA, nilA, I 0])] [100 ≤ t.Count] (by kernel_rfl) ⟨h5, trivial⟩ ?_
         refine xe_then ?_
         refine x_true rfl ?_
         refine x_seq ?_
         refine x_reg [] [8, 9] [8] [.ref 8 0, I 5] [some (.box [Sv (⟨#[]⟩ : ByteArray), nilA, nilA, I 0])] [] (by kernel_rfl) trivial ?_
         refine xe_then ?_
         refine x_ret ?_
         refine xe_ret_block (xe_ret_then ?_)
         refine xe_nilC 8 1 8311 3 (fun _ => []) rfl (by kernel_rfl) ?_
         refine xe_nilC 8 2 8312 3 (fun _ => []) rfl (by kernel_rfl) ?_
         refine xe_weak [] (T := [(8, .ref 8 0), (9, I 5)]) (O := [(8, .box [Sv ((adR t sample band share).1.Label), .arr 8311, .arr 8312, I ((adR t sample band share).1.Count)]), (8311, .arr 3 (([] : List Feat).length) (fFeat ([] : List Feat))), (8312, .arr 3 (([] : List Feat).length) (fFeat ([] : List Feat)))]) rfl (⟨.inl rfl, .inl rfl, trivial⟩) (⟨.inr ⟨(by first | rfl | (simp [valOf]; done) | (simp [valOf]; first | omega | (rw [hst]; exact rfl) | (simp [hst]))), ⟨rfl, ⟨rfl, ⟨(by first | rfl | (simp [valOf]; done) | (simp [valOf]; first | omega | (rw [hst]; exact rfl) | (simp [hst]))), rfl⟩⟩⟩⟩, .inr ⟨rfl, (by first | rfl | (simp; done) | (simp; omega) | omega), fun i_ hi_ => absurd hi_ (Nat.not_lt_zero _)⟩, .inr ⟨rfl, (by first | rfl | (simp; done) | (simp; omega) | omega), fun i_ hi_ => absurd hi_ (Nat.not_lt_zero _)⟩, trivial⟩) ?_
         refine xe_end (([] : List Feat), ([] : List Feat)) (show (([] : List Feat) = (adR t sample band share).1.Base) ∧ (([] : List Feat) = (adR t sample band share).1.Feats) ∧ (True) from ⟨(by first | (rw [hst]; done) | (rw [hst]; assumption) | (rw [hst]; exact rfl)), (by first | (rw [hst]; done) | (rw [hst]; assumption) | (rw [hst]; exact rfl)), trivial⟩) (⟨.inl rfl, .inl rfl, trivial⟩) (.tup [.agg [Sv ((adR t sample band share).1.Label), .arr 8311, .arr 8312, I ((adR t sample band share).1.Count)], I 5]) (by kernel_rfl) (.inr ⟨⟨rfl, ⟨rfl, ⟨rfl, ⟨rfl, rfl⟩⟩⟩⟩, ⟨(by first | rfl | (simp [valOf]; done) | (simp [valOf]; first | omega | (rw [hst]; exact rfl) | (simp [hst]))), rfl⟩⟩) (fun h => by cases h) (fun h => by cases h)
        ·have hct : t.Count < 100 := by omega
         have hst : adR t sample band share = (adpT t sample band share, 0) := by unfold adR; simp [*]
         refine x_reg [(2, .dec false)] [1, 2, 3, 4, 8, 35] [4, 8] [slFeat false sample, I band, I share, .ref 4 0, .ref 8 0, Bv false] [some (bxTrained t), some (.box [Sv (⟨#[]⟩ : ByteArray), nilA, nilA, I 0])] [¬ (100 ≤ t.Count)] (by kernel_rfl) ⟨h5, trivial⟩ ?_
         refine xe_then ?_
         refine x_false rfl ?_
         refine x_skip ?_
         refine xe_block 0 ?_
         refine xe_then ?_
         refine x_seq ?_
         obtain ⟨bs_1, fs_1, hx1_0, hx1_1, hc1⟩ := adapted_ok t sample band share okt oks hbd hnm hsh hct
         refine x_reg [(4, .lend [] [(8311, .arr 3 bs_1.length (fFeat bs_1)), (8312, .arr 3 fs_1.length (fFeat fs_1))] [(true, agTrained t), (true, slFeat false sample), (true, I band), (true, I share)] false (.agg [Sv t.Label, .arr 8311, .arr 8312, I (t.Count + 1)]))] [8, 9] [8, 8311, 8312] [.ref 8 0, I 0] [some (.box [Sv t.Label, .arr 8311, .arr 8312, I (t.Count + 1)]), some (.arr 3 bs_1.length (fFeat bs_1)), some (.arr 3 fs_1.length (fFeat fs_1))] [CallOK Try.prog 35 [agTrained t, slFeat false sample, I band, I share] (lookO []) false (.agg [Sv t.Label, .arr 8311, .arr 8312, I (t.Count + 1)]) (lookO [(8311, .arr 3 bs_1.length (fFeat bs_1)), (8312, .arr 3 fs_1.length (fFeat fs_1))]) ∧ ((agTrained t : AV) = agTrained t) ∧ ((slFeat false sample : AV) = slFeat false sample) ∧ ((I band : AV) = I band) ∧ ((I share : AV) = I share) ∧ True] (by kernel_rfl) ⟨⟨hc1, rfl, rfl, rfl, rfl, trivial⟩, trivial⟩ ?_
         refine xe_then ?_
         refine x_ret ?_
         refine xe_weak [] (T := [(8, .ref 8 0), (9, I 0)]) (O := [(8, .box [Sv ((adR t sample band share).1.Label), .arr 8311, .arr 8312, I ((adR t sample band share).1.Count)]), (8311, .arr 3 bs_1.length (fFeat bs_1)), (8312, .arr 3 fs_1.length (fFeat fs_1))]) rfl (⟨.inl rfl, .inl rfl, trivial⟩) (⟨.inr ⟨(by first | rfl | (simp [valOf]; done) | (simp [valOf]; first | omega | (rw [hst]; exact rfl) | (simp [hst]))), ⟨rfl, ⟨rfl, ⟨(by first | rfl | (simp [valOf]; done) | (simp [valOf]; first | omega | (rw [hst]; exact rfl) | (simp [hst]))), rfl⟩⟩⟩⟩, .inl rfl, .inl rfl, trivial⟩) ?_
         refine xe_end (bs_1, fs_1) (show (bs_1 = (adR t sample band share).1.Base) ∧ (fs_1 = (adR t sample band share).1.Feats) ∧ (True) from ⟨(by first | (rw [hst]; done) | (rw [hst]; assumption) | (rw [hst]; exact rfl)), (by first | (rw [hst]; done) | (rw [hst]; assumption) | (rw [hst]; exact rfl)), trivial⟩) (⟨.inl rfl, .inl rfl, trivial⟩) (.tup [.agg [Sv ((adR t sample band share).1.Label), .arr 8311, .arr 8312, I ((adR t sample band share).1.Count)], I 0]) (by kernel_rfl) (.inr ⟨⟨rfl, ⟨rfl, ⟨rfl, ⟨rfl, rfl⟩⟩⟩⟩, ⟨(by first | rfl | (simp [valOf]; done) | (simp [valOf]; first | omega | (rw [hst]; exact rfl) | (simp [hst]))), rfl⟩⟩) (fun h => by cases h) (fun h => by cases h)
       ·have hst : adR t sample band share = (zT, 2) := by unfold adR; simp [*]
        refine x_reg [(1, .call [(true, I share), (true, I 0), (true, I 100)] true (Bv true)), (10, .call [(true, I band), (true, I (t.Feats.length : Int)), (true, I (sample.length : Int))] true (Bv false))] [1, 2, 3, 4, 8, 20] [4, 8] [slFeat false sample, I band, I share, .ref 4 0, .ref 8 0, Bv true] [some (bxTrained t), some (.box [Sv (⟨#[]⟩ : ByteArray), nilA, nilA, I 0])] [Con Try.prog 33 [I share, I 0, I 100] true (Bv true) ∧ ((I share : AV) = I share) ∧ ((I 0 : AV) = I 0) ∧ ((I 100 : AV) = I 100) ∧ True, Con Try.prog 34 [I band, I (t.Feats.length : Int), I (sample.length : Int)] true (Bv false) ∧ ((I band : AV) = I band) ∧ ((I (t.Feats.length : Int) : AV) = I (t.Feats.length : Int)) ∧ ((I (sample.length : Int) : AV) = I (sample.length : Int)) ∧ True] (by kernel_rfl) ⟨⟨(con_bool h3 (within_ok share 0 100)), rfl, rfl, rfl, trivial⟩, ⟨(con_bool h4 (isBand_ok band (t.Feats.length : Int) (sample.length : Int) (by omega) (by omega))), rfl, rfl, rfl, trivial⟩, trivial⟩ ?_
        refine xe_then ?_
        refine x_true rfl ?_
        refine x_seq ?_
        refine x_reg [] [8, 9] [8] [.ref 8 0, I 2] [some (.box [Sv (⟨#[]⟩ : ByteArray), nilA, nilA, I 0])] [] (by kernel_rfl) trivial ?_
        refine xe_then ?_
        refine x_ret ?_
        refine xe_ret_block (xe_ret_then ?_)
        refine xe_nilC 8 1 8311 3 (fun _ => []) rfl (by kernel_rfl) ?_
        refine xe_nilC 8 2 8312 3 (fun _ => []) rfl (by kernel_rfl) ?_
        refine xe_weak [] (T := [(8, .ref 8 0), (9, I 2)]) (O := [(8, .box [Sv ((adR t sample band share).1.Label), .arr 8311, .arr 8312, I ((adR t sample band share).1.Count)]), (8311, .arr 3 (([] : List Feat).length) (fFeat ([] : List Feat))), (8312, .arr 3 (([] : List Feat).length) (fFeat ([] : List Feat)))]) rfl (⟨.inl rfl, .inl rfl, trivial⟩) (⟨.inr ⟨(by first | rfl | (simp [valOf]; done) | (simp [valOf]; first | omega | (rw [hst]; exact rfl) | (simp [hst]))), ⟨rfl, ⟨rfl, ⟨(by first | rfl | (simp [valOf]; done) | (simp [valOf]; first | omega | (rw [hst]; exact rfl) | (simp [hst]))), rfl⟩⟩⟩⟩, .inr ⟨rfl, (by first | rfl | (simp; done) | (simp; omega) | omega), fun i_ hi_ => absurd hi_ (Nat.not_lt_zero _)⟩, .inr ⟨rfl, (by first | rfl | (simp; done) | (simp; omega) | omega), fun i_ hi_ => absurd hi_ (Nat.not_lt_zero _)⟩, trivial⟩) ?_
        refine xe_end (([] : List Feat), ([] : List Feat)) (show (([] : List Feat) = (adR t sample band share).1.Base) ∧ (([] : List Feat) = (adR t sample band share).1.Feats) ∧ (True) from ⟨(by first | (rw [hst]; done) | (rw [hst]; assumption) | (rw [hst]; exact rfl)), (by first | (rw [hst]; done) | (rw [hst]; assumption) | (rw [hst]; exact rfl)), trivial⟩) (⟨.inl rfl, .inl rfl, trivial⟩) (.tup [.agg [Sv ((adR t sample band share).1.Label), .arr 8311, .arr 8312, I ((adR t sample band share).1.Count)], I 2]) (by kernel_rfl) (.inr ⟨⟨rfl, ⟨rfl, ⟨rfl, ⟨rfl, rfl⟩⟩⟩⟩, ⟨(by first | rfl | (simp [valOf]; done) | (simp [valOf]; first | omega | (rw [hst]; exact rfl) | (simp [hst]))), rfl⟩⟩) (fun h => by cases h) (fun h => by cases h)
      ·have hst : adR t sample band share = (zT, 2) := by unfold adR; simp [*]
       refine x_reg [(1, .call [(true, I share), (true, I 0), (true, I 100)] true (Bv false))] [1, 2, 3, 4, 8, 20] [4, 8] [slFeat false sample, I band, I share, .ref 4 0, .ref 8 0, Bv true] [some (bxTrained t), some (.box [Sv (⟨#[]⟩ : ByteArray), nilA, nilA, I 0])] [Con Try.prog 33 [I share, I 0, I 100] true (Bv false) ∧ ((I share : AV) = I share) ∧ ((I 0 : AV) = I 0) ∧ ((I 100 : AV) = I 100) ∧ True] (by kernel_rfl) ⟨⟨(con_bool h3 (within_ok share 0 100)), rfl, rfl, rfl, trivial⟩, trivial⟩ ?_
       refine xe_then ?_
       refine x_true rfl ?_
       refine x_seq ?_
       refine x_reg [] [8, 9] [8] [.ref 8 0, I 2] [some (.box [Sv (⟨#[]⟩ : ByteArray), nilA, nilA, I 0])] [] (by kernel_rfl) trivial ?_
       refine xe_then ?_
       refine x_ret ?_
       refine xe_ret_block (xe_ret_then ?_)
       refine xe_nilC 8 1 8311 3 (fun _ => []) rfl (by kernel_rfl) ?_
       refine xe_nilC 8 2 8312 3 (fun _ => []) rfl (by kernel_rfl) ?_
       refine xe_weak [] (T := [(8, .ref 8 0), (9, I 2)]) (O := [(8, .box [Sv ((adR t sample band share).1.Label), .arr 8311, .arr 8312, I ((adR t sample band share).1.Count)]), (8311, .arr 3 (([] : List Feat).length) (fFeat ([] : List Feat))), (8312, .arr 3 (([] : List Feat).length) (fFeat ([] : List Feat)))]) rfl (⟨.inl rfl, .inl rfl, trivial⟩) (⟨.inr ⟨(by first | rfl | (simp [valOf]; done) | (simp [valOf]; first | omega | (rw [hst]; exact rfl) | (simp [hst]))), ⟨rfl, ⟨rfl, ⟨(by first | rfl | (simp [valOf]; done) | (simp [valOf]; first | omega | (rw [hst]; exact rfl) | (simp [hst]))), rfl⟩⟩⟩⟩, .inr ⟨rfl, (by first | rfl | (simp; done) | (simp; omega) | omega), fun i_ hi_ => absurd hi_ (Nat.not_lt_zero _)⟩, .inr ⟨rfl, (by first | rfl | (simp; done) | (simp; omega) | omega), fun i_ hi_ => absurd hi_ (Nat.not_lt_zero _)⟩, trivial⟩) ?_
       refine xe_end (([] : List Feat), ([] : List Feat)) (show (([] : List Feat) = (adR t sample band share).1.Base) ∧ (([] : List Feat) = (adR t sample band share).1.Feats) ∧ (True) from ⟨(by first | (rw [hst]; done) | (rw [hst]; assumption) | (rw [hst]; exact rfl)), (by first | (rw [hst]; done) | (rw [hst]; assumption) | (rw [hst]; exact rfl)), trivial⟩) (⟨.inl rfl, .inl rfl, trivial⟩) (.tup [.agg [Sv ((adR t sample band share).1.Label), .arr 8311, .arr 8312, I ((adR t sample band share).1.Count)], I 2]) (by kernel_rfl) (.inr ⟨⟨rfl, ⟨rfl, ⟨rfl, ⟨rfl, rfl⟩⟩⟩⟩, ⟨(by first | rfl | (simp [valOf]; done) | (simp [valOf]; first | omega | (rw [hst]; exact rfl) | (simp [hst]))), rfl⟩⟩) (fun h => by cases h) (fun h => by cases h)
     ·have hst : adR t sample band share = (zT, 1) := by unfold adR; simp [*]
      refine x_reg [(1, .call [(true, agTrained t)] true (Bv true)), (5, .call [(true, slFeat false sample)] true (Bv false))] [1, 2, 3, 4, 8, 10] [4, 8] [slFeat false sample, I band, I share, .ref 4 0, .ref 8 0, Bv true] [some (bxTrained t), some (.box [Sv (⟨#[]⟩ : ByteArray), nilA, nilA, I 0])] [Con Try.prog 31 [agTrained t] true (Bv true) ∧ ((agTrained t : AV) = agTrained t) ∧ True, Con Try.prog 32 [slFeat false sample] true (Bv false) ∧ ((slFeat false sample : AV) = slFeat false sample) ∧ True] (by kernel_rfl) ⟨⟨(con_bool h1 (ValidTrained_ok t ok)), rfl, trivial⟩, ⟨(con_bool h2 (ValidSeq_ok sample)), rfl, trivial⟩, trivial⟩ ?_
      refine xe_then ?_
      refine x_true rfl ?_
      refine x_seq ?_
      refine x_reg [] [8, 9] [8] [.ref 8 0, I 1] [some (.box [Sv (⟨#[]⟩ : ByteArray), nilA, nilA, I 0])] [] (by kernel_rfl) trivial ?_
      refine xe_then ?_
      refine x_ret ?_
      refine xe_ret_block (xe_ret_then ?_)
      refine xe_nilC 8 1 8311 3 (fun _ => []) rfl (by kernel_rfl) ?_
      refine xe_nilC 8 2 8312 3 (fun _ => []) rfl (by kernel_rfl) ?_
      refine xe_weak [] (T := [(8, .ref 8 0), (9, I 1)]) (O := [(8, .box [Sv ((adR t sample band share).1.Label), .arr 8311, .arr 8312, I ((adR t sample band share).1.Count)]), (8311, .arr 3 (([] : List Feat).length) (fFeat ([] : List Feat))), (8312, .arr 3 (([] : List Feat).length) (fFeat ([] : List Feat)))]) rfl (⟨.inl rfl, .inl rfl, trivial⟩) (⟨.inr ⟨(by first | rfl | (simp [valOf]; done) | (simp [valOf]; first | omega | (rw [hst]; exact rfl) | (simp [hst]))), ⟨rfl, ⟨rfl, ⟨(by first | rfl | (simp [valOf]; done) | (simp [valOf]; first | omega | (rw [hst]; exact rfl) | (simp [hst]))), rfl⟩⟩⟩⟩, .inr ⟨rfl, (by first | rfl | (simp; done) | (simp; omega) | omega), fun i_ hi_ => absurd hi_ (Nat.not_lt_zero _)⟩, .inr ⟨rfl, (by first | rfl | (simp; done) | (simp; omega) | omega), fun i_ hi_ => absurd hi_ (Nat.not_lt_zero _)⟩, trivial⟩) ?_
      refine xe_end (([] : List Feat), ([] : List Feat)) (show (([] : List Feat) = (adR t sample band share).1.Base) ∧ (([] : List Feat) = (adR t sample band share).1.Feats) ∧ (True) from ⟨(by first | (rw [hst]; done) | (rw [hst]; assumption) | (rw [hst]; exact rfl)), (by first | (rw [hst]; done) | (rw [hst]; assumption) | (rw [hst]; exact rfl)), trivial⟩) (⟨.inl rfl, .inl rfl, trivial⟩) (.tup [.agg [Sv ((adR t sample band share).1.Label), .arr 8311, .arr 8312, I ((adR t sample band share).1.Count)], I 1]) (by kernel_rfl) (.inr ⟨⟨rfl, ⟨rfl, ⟨rfl, ⟨rfl, rfl⟩⟩⟩⟩, ⟨(by first | rfl | (simp [valOf]; done) | (simp [valOf]; first | omega | (rw [hst]; exact rfl) | (simp [hst]))), rfl⟩⟩) (fun h => by cases h) (fun h => by cases h)
    ·have hst : adR t sample band share = (zT, 1) := by unfold adR; simp [*]
     refine x_reg [(1, .call [(true, agTrained t)] true (Bv false))] [1, 2, 3, 4, 8, 10] [4, 8] [slFeat false sample, I band, I share, .ref 4 0, .ref 8 0, Bv true] [some (bxTrained t), some (.box [Sv (⟨#[]⟩ : ByteArray), nilA, nilA, I 0])] [Con Try.prog 31 [agTrained t] true (Bv false) ∧ ((agTrained t : AV) = agTrained t) ∧ True] (by kernel_rfl) ⟨⟨(con_bool h1 (ValidTrained_ok t ok)), rfl, trivial⟩, trivial⟩ ?_
     refine xe_then ?_
     refine x_true rfl ?_
     refine x_seq ?_
     refine x_reg [] [8, 9] [8] [.ref 8 0, I 1] [some (.box [Sv (⟨#[]⟩ : ByteArray), nilA, nilA, I 0])] [] (by kernel_rfl) trivial ?_
     refine xe_then ?_
     refine x_ret ?_
     refine xe_ret_block (xe_ret_then ?_)
     refine xe_nilC 8 1 8311 3 (fun _ => []) rfl (by kernel_rfl) ?_
     refine xe_nilC 8 2 8312 3 (fun _ => []) rfl (by kernel_rfl) ?_
     refine xe_weak [] (T := [(8, .ref 8 0), (9, I 1)]) (O := [(8, .box [Sv ((adR t sample band share).1.Label), .arr 8311, .arr 8312, I ((adR t sample band share).1.Count)]), (8311, .arr 3 (([] : List Feat).length) (fFeat ([] : List Feat))), (8312, .arr 3 (([] : List Feat).length) (fFeat ([] : List Feat)))]) rfl (⟨.inl rfl, .inl rfl, trivial⟩) (⟨.inr ⟨(by first | rfl | (simp [valOf]; done) | (simp [valOf]; first | omega | (rw [hst]; exact rfl) | (simp [hst]))), ⟨rfl, ⟨rfl, ⟨(by first | rfl | (simp [valOf]; done) | (simp [valOf]; first | omega | (rw [hst]; exact rfl) | (simp [hst]))), rfl⟩⟩⟩⟩, .inr ⟨rfl, (by first | rfl | (simp; done) | (simp; omega) | omega), fun i_ hi_ => absurd hi_ (Nat.not_lt_zero _)⟩, .inr ⟨rfl, (by first | rfl | (simp; done) | (simp; omega) | omega), fun i_ hi_ => absurd hi_ (Nat.not_lt_zero _)⟩, trivial⟩) ?_
     refine xe_end (([] : List Feat), ([] : List Feat)) (show (([] : List Feat) = (adR t sample band share).1.Base) ∧ (([] : List Feat) = (adR t sample band share).1.Feats) ∧ (True) from ⟨(by first | (rw [hst]; done) | (rw [hst]; assumption) | (rw [hst]; exact rfl)), (by first | (rw [hst]; done) | (rw [hst]; assumption) | (rw [hst]; exact rfl)), trivial⟩) (⟨.inl rfl, .inl rfl, trivial⟩) (.tup [.agg [Sv ((adR t sample band share).1.Label), .arr 8311, .arr 8312, I ((adR t sample band share).1.Count)], I 1]) (by kernel_rfl) (.inr ⟨⟨rfl, ⟨rfl, ⟨rfl, ⟨rfl, rfl⟩⟩⟩⟩, ⟨(by first | rfl | (simp [valOf]; done) | (simp [valOf]; first | omega | (rw [hst]; exact rfl) | (simp [hst]))), rfl⟩⟩) (fun h => by cases h) (fun h => by cases h)
  obtain ⟨⟨bs, fs⟩, ⟨hh0, hh1, _⟩, hc⟩ := hh
  exact ⟨bs, fs, hh0, hh1, hc⟩


-- laws.eqFeat
theorem eqFeat_ok (a : Feat) (b : Feat) : Con Try.prog 36 [agFeat a, agFeat b] true (Bv (same a b)) := by
  refine fn_ok (fn := Try.f36) (nt := 20) Try.func36 rfl rfl rfl rfl (by simp [taggedL, tagged]) fun B hB => ?_
  refine aw_seq ?_
  refine aw_reg [(0, .new 2), (1, .new 3)] [2, 3] [2, 3] [.ref 2 0, .ref 3 0] [some (bxFeat a), some (bxFeat b)] [] (by kernel_rfl) hB trivial ?_
  refine ae_then ?_
  refine aw_seq ?_
  refine aw_seq ?_
  by_cases h1 : a.X = b.X
  ·refine aw_reg [(4, .dec false)] [2, 3, 9] [2, 3] [.ref 2 0, .ref 3 0, Bv false] [some (bxFeat a), some (bxFeat b)] [¬ (a.X ≠ b.X)] (by kernel_rfl) hB ⟨(fun hq => hq h1), trivial⟩ ?_
   refine ae_then ?_
   refine aw_false rfl ?_
   refine aw_skip ?_
   refine ae_then ?_
   refine aw_seq ?_
   refine aw_seq ?_
   by_cases h2 : a.Y = b.Y
   ·refine aw_reg [(4, .dec false)] [2, 3, 14] [2, 3] [.ref 2 0, .ref 3 0, Bv false] [some (bxFeat a), some (bxFeat b)] [¬ (a.Y ≠ b.Y)] (by kernel_rfl) hB ⟨(fun hq => hq h2), trivial⟩ ?_
    refine ae_then ?_
    refine aw_false rfl ?_
    refine aw_skip ?_
    refine ae_then ?_
    refine aw_seq ?_
    refine aw_seq ?_
    by_cases h3 : a.D = b.D
    ·refine aw_reg [(4, .dec false)] [19] [] [Bv false] [] [¬ (a.D ≠ b.D)] (by kernel_rfl) hB ⟨(fun hq => hq h3), trivial⟩ ?_
     refine ae_then ?_
     refine aw_false rfl ?_
     refine aw_skip ?_
     refine ae_then ?_
     refine aw_seq ?_
     refine aw_reg [] [4] [] [Bv true] [] [] (by kernel_rfl) hB trivial ?_
     refine ae_then ?_
     refine aw_ret ?_
     refine ae_ret hB (Bv true) (by kernel_rfl) (.inl (by first | (cases a; cases b; simp_all [same]; done) | (cases a; cases b; simp_all [same]; omega))) rfl (fun _ => trivial)
    ·refine aw_reg [(4, .dec true)] [19] [] [Bv true] [] [a.D ≠ b.D] (by kernel_rfl) hB ⟨h3, trivial⟩ ?_
     refine ae_then ?_
     refine aw_true rfl ?_
     refine aw_seq ?_
     refine aw_reg [] [4] [] [Bv false] [] [] (by kernel_rfl) hB trivial ?_
     refine ae_then ?_
     refine aw_ret ?_
     refine ae_ret_then ?_
     refine ae_ret hB (Bv false) (by kernel_rfl) (.inl (by first | (cases a; cases b; simp_all [same]; done) | (cases a; cases b; simp_all [same]; omega))) rfl (fun _ => trivial)
   ·refine aw_reg [(4, .dec true)] [2, 3, 14] [2, 3] [.ref 2 0, .ref 3 0, Bv true] [some (bxFeat a), some (bxFeat b)] [a.Y ≠ b.Y] (by kernel_rfl) hB ⟨h2, trivial⟩ ?_
    refine ae_then ?_
    refine aw_true rfl ?_
    refine aw_seq ?_
    refine aw_reg [] [4] [] [Bv false] [] [] (by kernel_rfl) hB trivial ?_
    refine ae_then ?_
    refine aw_ret ?_
    refine ae_ret_then ?_
    refine ae_ret hB (Bv false) (by kernel_rfl) (.inl (by first | (cases a; cases b; simp_all [same]; done) | (cases a; cases b; simp_all [same]; omega))) rfl (fun _ => trivial)
  ·refine aw_reg [(4, .dec true)] [2, 3, 9] [2, 3] [.ref 2 0, .ref 3 0, Bv true] [some (bxFeat a), some (bxFeat b)] [a.X ≠ b.X] (by kernel_rfl) hB ⟨h1, trivial⟩ ?_
   refine ae_then ?_
   refine aw_true rfl ?_
   refine aw_seq ?_
   refine aw_reg [] [4] [] [Bv false] [] [] (by kernel_rfl) hB trivial ?_
   refine ae_then ?_
   refine aw_ret ?_
   refine ae_ret_then ?_
   refine ae_ret hB (Bv false) (by kernel_rfl) (.inl (by first | (cases a; cases b; simp_all [same]; done) | (cases a; cases b; simp_all [same]; omega))) rfl (fun _ => trivial)


-- laws.eqFeatS
theorem eqFeatS_ok (a : List Feat) (b : List Feat) : Con Try.prog 12 [slFeat false a, slFeat false b] true (Bv (same a b)) := by
  refine fn_ok (fn := Try.f12) (nt := 27) Try.func12 rfl rfl rfl rfl (by simp [taggedL, tagged, tagFeat]) fun B hB => ?_
  refine aw_lens (x := slFeat false a) 0 rfl (fun len_a => ?_)
  simp [LenOK, LenL, cFeat, fFeat, slFeat] at len_a
  refine aw_lens (x := slFeat false b) 1 rfl (fun len_b => ?_)
  simp [LenOK, LenL, cFeat, fFeat, slFeat] at len_b
  refine aw_seq ?_
  refine aw_reg [] [0, 1] [] [slFeat false a, slFeat false b] [] [] (by kernel_rfl) hB trivial ?_
  refine ae_then ?_
  refine aw_seq ?_
  refine aw_seq ?_
  by_cases h1 : (a.length : Int) = (b.length : Int)
  ·refine aw_reg [(4, .dec false)] [0, 1, 10] [] [slFeat false a, slFeat false b, Bv false] [] [¬ ((a.length : Int) ≠ (b.length : Int))] (by kernel_rfl) hB ⟨(fun hq => hq h1), trivial⟩ ?_
   refine ae_then ?_
   refine aw_false rfl ?_
   refine aw_skip ?_
   refine ae_then ?_
   refine aw_seq ?_
   refine aw_seq ?_
   refine aw_reg [] [0, 1, 5] [] [slFeat false a, slFeat false b, I 0] [] [] (by kernel_rfl) hB trivial ?_
   refine ae_then ?_
   refine aw_block ?_
   refine aw_loop (fun gn gσ => ∃ (i : Int), gn = ((a.length : Int) - i).toNat ∧ (0 ≤ i ∧ i ≤ (a.length : Int)) ∧ (∀ j : Nat, (j : Int) < i → at_ a j = at_ b j) ∧ gσ = mkS [(0, slFeat false a), (1, slFeat false b), (5, I i)] []) (((a.length : Int) - 0).toNat) ⟨0, rfl, (by omega), (by intro j hj; omega), rfl⟩ (fun gn gσ hI => ?_)
   obtain ⟨i, rfl, hi0, he0, rfl⟩ := hI
   refine aw_seq ?_
   refine aw_seq ?_
   by_cases h2 : i < (a.length : Int)
   ·have hi : i.toNat < a.length := by omega
    have hib : i.toNat < b.length := by omega
    refine aw_reg [(3, .dec true)] [0, 1, 5, 14] [] [slFeat false a, slFeat false b, I i, Bv true] [] [i < (a.length : Int)] (by kernel_rfl) hB ⟨h2, trivial⟩ ?_
    refine ae_then ?_
    refine aw_true rfl ?_
    refine aw_skip ?_
    refine ae_then ?_
    refine aw_seq ?_
    refine aw_block ?_
    refine aw_seq ?_
    rcases Bool.eq_false_or_eq_true (same (at_ a i.toNat) (at_ b i.toNat)) with h3 | h3
    ·have HEQ := h3
     refine aw_reg [(8, .call [(true, agFeat (at_ a i.toNat)), (true, agFeat (at_ b i.toNat))] true (Bv true))] [0, 1, 5, 26] [] [slFeat false a, slFeat false b, I i, Bv false] [] [(0 : Int) ≤ i ∧ i < (a.length : Int), (0 : Int) ≤ i ∧ i < (b.length : Int), Con Try.prog 36 [agFeat (at_ a i.toNat), agFeat (at_ b i.toNat)] true (Bv true) ∧ ((agFeat (at_ a i.toNat) : AV) = agFeat (at_ a i.toNat)) ∧ ((agFeat (at_ b i.toNat) : AV) = agFeat (at_ b i.toNat)) ∧ True] (by kernel_rfl) hB ⟨⟨(by omega), (by omega)⟩, ⟨(by omega), (by omega)⟩, ⟨(con_bool h3 (eqFeat_ok (at_ a i.toNat) (at_ b i.toNat))), rfl, rfl, trivial⟩, trivial⟩ ?_
     refine ae_then ?_
     refine aw_false rfl ?_
     refine aw_skip ?_
     refine ae_block 1 ?_
     refine ae_then ?_
     refine aw_reg [] [0, 1, 5] [] [slFeat false a, slFeat false b, I (i + 1)] [] [inR .i64 (i + 1)] (by kernel_rfl) hB ⟨(inR_i64 (by omega) (by omega)), trivial⟩ ?_
     exact ae_again _ (by omega) ⟨(i + 1), rfl, (by omega), (by intro j hj; by_cases ej : j = i.toNat; (subst ej; simpa [same] using HEQ); exact he0 j (by omega)), rfl⟩
    ·refine aw_reg [(8, .call [(true, agFeat (at_ a i.toNat)), (true, agFeat (at_ b i.toNat))] true (Bv false))] [0, 1, 5, 26] [] [slFeat false a, slFeat false b, I i, Bv true] [] [(0 : Int) ≤ i ∧ i < (a.length : Int), (0 : Int) ≤ i ∧ i < (b.length : Int), Con Try.prog 36 [agFeat (at_ a i.toNat), agFeat (at_ b i.toNat)] true (Bv false) ∧ ((agFeat (at_ a i.toNat) : AV) = agFeat (at_ a i.toNat)) ∧ ((agFeat (at_ b i.toNat) : AV) = agFeat (at_ b i.toNat)) ∧ True] (by kernel_rfl) hB ⟨⟨(by omega), (by omega)⟩, ⟨(by omega), (by omega)⟩, ⟨(con_bool h3 (eqFeat_ok (at_ a i.toNat) (at_ b i.toNat))), rfl, rfl, trivial⟩, trivial⟩ ?_
     refine ae_then ?_
     refine aw_true rfl ?_
     refine aw_seq ?_
     refine aw_reg [] [4] [] [Bv false] [] [] (by kernel_rfl) hB trivial ?_
     refine ae_then ?_
     refine aw_ret ?_
     refine ae_ret_block (ae_ret_then (ae_ret_then (ae_ret_block (ae_ret_then ?_))))
     refine ae_ret hB (Bv false) (by kernel_rfl) (.inl (by first | (refine congrArg Bv (Eq.symm (decide_eq_false ?_)); intro e; subst e; simp_all [same]; done) | (exact congrArg Bv (Eq.symm (decide_eq_true hfin))))) rfl (fun _ => trivial)
   ·have hfin : a = b := ext_at (by omega) (fun j hj => he0 j (by omega))
    refine aw_reg [(3, .dec false)] [0, 1, 5, 14] [] [slFeat false a, slFeat false b, I i, Bv false] [] [¬ (i < (a.length : Int))] (by kernel_rfl) hB ⟨h2, trivial⟩ ?_
    refine ae_then ?_
    refine aw_false rfl ?_
    refine aw_exit ?_
    refine ae_exit_then ?_
    refine ae_exit_then ?_
    refine ae_exit_same ?_
    refine ae_then ?_
    refine aw_seq ?_
    refine aw_reg [] [4] [] [Bv true] [] [] (by kernel_rfl) hB trivial ?_
    refine ae_then ?_
    refine aw_ret ?_
    refine ae_ret hB (Bv true) (by kernel_rfl) (.inl (by first | (refine congrArg Bv (Eq.symm (decide_eq_false ?_)); intro e; subst e; simp_all [same]; done) | (exact congrArg Bv (Eq.symm (decide_eq_true hfin))))) rfl (fun _ => trivial)
  ·refine aw_reg [(4, .dec true)] [0, 1, 10] [] [slFeat false a, slFeat false b, Bv true] [] [(a.length : Int) ≠ (b.length : Int)] (by kernel_rfl) hB ⟨h1, trivial⟩ ?_
   refine ae_then ?_
   refine aw_true rfl ?_
   refine aw_seq ?_
   refine aw_reg [] [4] [] [Bv false] [] [] (by kernel_rfl) hB trivial ?_
   refine ae_then ?_
   refine aw_ret ?_
   refine ae_ret_then ?_
   refine ae_ret hB (Bv false) (by kernel_rfl) (.inl (by first | (refine congrArg Bv (Eq.symm (decide_eq_false ?_)); intro e; subst e; simp_all [same]; done) | (exact congrArg Bv (Eq.symm (decide_eq_true hfin))))) rfl (fun _ => trivial)


-- laws.eqTrained
theorem eqTrained_ok (a : Trained) (b : Trained) : Con Try.prog 11 [agTrained a, agTrained b] true (Bv (same a b)) := by
  refine fn_ok (fn := Try.f11) (nt := 27) Try.func11 rfl rfl rfl rfl (by simp [taggedL, tagged, tagFeat]) fun B hB => ?_
  refine aw_lens (x := agTrained a) 0 rfl (fun len_a => ?_)
  simp [LenOK, LenL, cFeat, fFeat, slFeat] at len_a
  refine aw_lens (x := agTrained b) 1 rfl (fun len_b => ?_)
  simp [LenOK, LenL, cFeat, fFeat, slFeat] at len_b
  refine aw_seq ?_
  refine aw_reg [(0, .new 2), (1, .new 3)] [2, 3] [2, 3] [.ref 2 0, .ref 3 0] [some (bxTrained a), some (bxTrained b)] [] (by kernel_rfl) hB trivial ?_
  refine ae_then ?_
  refine aw_seq ?_
  refine aw_seq ?_
  by_cases h1 : a.Label = b.Label
  ·refine aw_reg [(4, .dec false)] [2, 3, 9] [2, 3] [.ref 2 0, .ref 3 0, Bv false] [some (bxTrained a), some (bxTrained b)] [¬ (a.Label ≠ b.Label)] (by kernel_rfl) hB ⟨(fun hq => hq h1), trivial⟩ ?_
   refine ae_then ?_
   refine aw_false rfl ?_
   refine aw_skip ?_
   refine ae_then ?_
   refine aw_seq ?_
   refine aw_seq ?_
   rcases Bool.eq_false_or_eq_true (same a.Base b.Base) with h2 | h2
   ·refine aw_reg [(4, .call [(true, slFeat false a.Base), (true, slFeat false b.Base)] true (Bv true))] [2, 3, 15] [2, 3] [.ref 2 0, .ref 3 0, Bv false] [some (bxTrained a), some (bxTrained b)] [Con Try.prog 12 [slFeat false a.Base, slFeat false b.Base] true (Bv true) ∧ ((slFeat false a.Base : AV) = slFeat false a.Base) ∧ ((slFeat false b.Base : AV) = slFeat false b.Base) ∧ True] (by kernel_rfl) hB ⟨⟨(con_bool h2 (eqFeatS_ok a.Base b.Base)), rfl, rfl, trivial⟩, trivial⟩ ?_
    refine ae_then ?_
    refine aw_false rfl ?_
    refine aw_skip ?_
    refine ae_then ?_
    refine aw_seq ?_
    refine aw_seq ?_
    rcases Bool.eq_false_or_eq_true (same a.Feats b.Feats) with h3 | h3
    ·refine aw_reg [(4, .call [(true, slFeat false a.Feats), (true, slFeat false b.Feats)] true (Bv true))] [2, 3, 21] [2, 3] [.ref 2 0, .ref 3 0, Bv false] [some (bxTrained a), some (bxTrained b)] [Con Try.prog 12 [slFeat false a.Feats, slFeat false b.Feats] true (Bv true) ∧ ((slFeat false a.Feats : AV) = slFeat false a.Feats) ∧ ((slFeat false b.Feats : AV) = slFeat false b.Feats) ∧ True] (by kernel_rfl) hB ⟨⟨(con_bool h3 (eqFeatS_ok a.Feats b.Feats)), rfl, rfl, trivial⟩, trivial⟩ ?_
     refine ae_then ?_
     refine aw_false rfl ?_
     refine aw_skip ?_
     refine ae_then ?_
     refine aw_seq ?_
     refine aw_seq ?_
     by_cases h4 : a.Count = b.Count
     ·refine aw_reg [(4, .dec false)] [26] [] [Bv false] [] [¬ (a.Count ≠ b.Count)] (by kernel_rfl) hB ⟨(fun hq => hq h4), trivial⟩ ?_
      refine ae_then ?_
      refine aw_false rfl ?_
      refine aw_skip ?_
      refine ae_then ?_
      refine aw_seq ?_
      refine aw_reg [] [4] [] [Bv true] [] [] (by kernel_rfl) hB trivial ?_
      refine ae_then ?_
      refine aw_ret ?_
      refine ae_ret hB (Bv true) (by kernel_rfl) (.inl (by first | (cases a; cases b; simp_all [same]; done) | (cases a; cases b; simp_all [same]; omega))) rfl (fun _ => trivial)
     ·refine aw_reg [(4, .dec true)] [26] [] [Bv true] [] [a.Count ≠ b.Count] (by kernel_rfl) hB ⟨h4, trivial⟩ ?_
      refine ae_then ?_
      refine aw_true rfl ?_
      refine aw_seq ?_
      refine aw_reg [] [4] [] [Bv false] [] [] (by kernel_rfl) hB trivial ?_
      refine ae_then ?_
      refine aw_ret ?_
      refine ae_ret_then ?_
      refine ae_ret hB (Bv false) (by kernel_rfl) (.inl (by first | (cases a; cases b; simp_all [same]; done) | (cases a; cases b; simp_all [same]; omega))) rfl (fun _ => trivial)
    ·refine aw_reg [(4, .call [(true, slFeat false a.Feats), (true, slFeat false b.Feats)] true (Bv false))] [2, 3, 21] [2, 3] [.ref 2 0, .ref 3 0, Bv true] [some (bxTrained a), some (bxTrained b)] [Con Try.prog 12 [slFeat false a.Feats, slFeat false b.Feats] true (Bv false) ∧ ((slFeat false a.Feats : AV) = slFeat false a.Feats) ∧ ((slFeat false b.Feats : AV) = slFeat false b.Feats) ∧ True] (by kernel_rfl) hB ⟨⟨(con_bool h3 (eqFeatS_ok a.Feats b.Feats)), rfl, rfl, trivial⟩, trivial⟩ ?_
     refine ae_then ?_
     refine aw_true rfl ?_
     refine aw_seq ?_
     refine aw_reg [] [4] [] [Bv false] [] [] (by kernel_rfl) hB trivial ?_
     refine ae_then ?_
     refine aw_ret ?_
     refine ae_ret_then ?_
     refine ae_ret hB (Bv false) (by kernel_rfl) (.inl (by first | (cases a; cases b; simp_all [same]; done) | (cases a; cases b; simp_all [same]; omega))) rfl (fun _ => trivial)
   ·refine aw_reg [(4, .call [(true, slFeat false a.Base), (true, slFeat false b.Base)] true (Bv false))] [2, 3, 15] [2, 3] [.ref 2 0, .ref 3 0, Bv true] [some (bxTrained a), some (bxTrained b)] [Con Try.prog 12 [slFeat false a.Base, slFeat false b.Base] true (Bv false) ∧ ((slFeat false a.Base : AV) = slFeat false a.Base) ∧ ((slFeat false b.Base : AV) = slFeat false b.Base) ∧ True] (by kernel_rfl) hB ⟨⟨(con_bool h2 (eqFeatS_ok a.Base b.Base)), rfl, rfl, trivial⟩, trivial⟩ ?_
    refine ae_then ?_
    refine aw_true rfl ?_
    refine aw_seq ?_
    refine aw_reg [] [4] [] [Bv false] [] [] (by kernel_rfl) hB trivial ?_
    refine ae_then ?_
    refine aw_ret ?_
    refine ae_ret_then ?_
    refine ae_ret hB (Bv false) (by kernel_rfl) (.inl (by first | (cases a; cases b; simp_all [same]; done) | (cases a; cases b; simp_all [same]; omega))) rfl (fun _ => trivial)
  ·refine aw_reg [(4, .dec true)] [2, 3, 9] [2, 3] [.ref 2 0, .ref 3 0, Bv true] [some (bxTrained a), some (bxTrained b)] [a.Label ≠ b.Label] (by kernel_rfl) hB ⟨h1, trivial⟩ ?_
   refine ae_then ?_
   refine aw_true rfl ?_
   refine aw_seq ?_
   refine aw_reg [] [4] [] [Bv false] [] [] (by kernel_rfl) hB trivial ?_
   refine ae_then ?_
   refine aw_ret ?_
   refine ae_ret_then ?_
   refine ae_ret hB (Bv false) (by kernel_rfl) (.inl (by first | (cases a; cases b; simp_all [same]; done) | (cases a; cases b; simp_all [same]; omega))) rfl (fun _ => trivial)


-- laws.markFeatS
theorem markFeatS0_ok (al : List Feat) (k : Int) (hk : 0 ≤ k ∧ k ≤ 100000000 ∧ al.length ≤ 1048576) : ∃ (v : Int) (al' : List Feat), (v = k + 3 * (al.length : Int)) ∧ (al' = mkL k al.length) ∧ CallOK Try.prog 14 [.arr 7301, I k] (lookO [(7301, .arr 3 al.length (fFeat al))]) true (I v) (lookO [(7301, .arr 3 al'.length (fFeat al'))]) := by
  have hh : ∃ r : Int × (List Feat), ((r.1 = k + 3 * (al.length : Int)) ∧ (r.2 = mkL k al.length) ∧ (True)) ∧ CallOK Try.prog 14 [.arr 7301, I k] (lookO [(7301, .arr 3 al.length (fFeat al))]) true (I r.1) (lookO [(7301, .arr 3 r.2.length (fFeat r.2))]) := by
    refine fn_okX (Φ := fun r : Int × (List Feat) => (r.1 = k + 3 * (al.length : Int)) ∧ (r.2 = mkL k al.length) ∧ (True)) [(7301, .arr 3 al.length (fFeat al))] (fun r => [(7301, .arr 3 r.2.length (fFeat r.2))]) (fn := Try.f14) (nt := 34) Try.func14 rfl rfl (args := [.arr 7301, I k]) rfl (allcons (.inr trivial) (allcons (.inl ⟨rfl, trivial⟩) allnil)) (res := fun r => I r.1) ?_
    refine x_seq ?_
    refine x_reg [] [0, 1] [7301] [.arr 7301, I k] [some (.arr 3 al.length (fFeat al))] [] (by kernel_rfl) trivial ?_
    refine xe_then ?_
    refine x_seq ?_
    refine x_seq ?_
    refine x_reg [] [0, 1, 5] [7301] [.arr 7301, I k, I 0] [some (.arr 3 al.length (fFeat al))] [] (by kernel_rfl) trivial ?_
    refine xe_then ?_
    refine x_block ?_
    refine x_loop (X := Int × Int × (List Feat)) (fun x => mkS [(0, .arr 7301), (1, I x.1), (5, I x.2.1)] [(7301, .arr 3 x.2.2.length (fFeat x.2.2))]) (fun x => (0 ≤ x.2.1 ∧ x.2.1 ≤ (al.length : Int)) ∧ (x.2.2.length = al.length) ∧ (x.1 = k + 3 * x.2.1) ∧ (∀ j : Nat, (j : Int) < x.2.1 → at_ x.2.2 j = ⟨k + 3 * (j : Int), k + 3 * (j : Int) + 1, k + 3 * (j : Int) + 2⟩) ∧ True) (fun x => ((al.length : Int) - x.2.1).toNat) (k, 0, al) rfl (show (0 ≤ (0 : Int) ∧ (0 : Int) ≤ (al.length : Int)) ∧ (al.length = al.length) ∧ (k = k + 3 * (0 : Int)) ∧ (∀ j : Nat, (j : Int) < (0 : Int) → at_ al j = ⟨k + 3 * (j : Int), k + 3 * (j : Int) + 1, k + 3 * (j : Int) + 2⟩) ∧ True from ⟨(by omega), (by rfl), (by omega), (by intro j hj; omega), trivial⟩) (fun x hI => ?_)
    obtain ⟨k', i, ys⟩ := x
    obtain ⟨hi0, hy0, hk1, hy1, _⟩ : (0 ≤ i ∧ i ≤ (al.length : Int)) ∧ (ys.length = al.length) ∧ (k' = k + 3 * i) ∧ (∀ j : Nat, (j : Int) < i → at_ ys j = ⟨k + 3 * (j : Int), k + 3 * (j : Int) + 1, k + 3 * (j : Int) + 2⟩) ∧ True := hI
    show XW _ _ _ _ (mkS [(0, .arr 7301), (1, I k'), (5, I i)] [(7301, .arr 3 ys.length (fFeat ys))]) _ _
    refine x_seq ?_
    refine x_seq ?_
    by_cases h1 : i < (ys.length : Int)
    ·have hi : i.toNat < al.length := by omega
     have hiy : i.toNat < ys.length := by omega
     refine x_reg [(3, .dec true)] [0, 1, 5, 9] [7301] [.arr 7301, I k', I i, Bv true] [some (.arr 3 ys.length (fFeat ys))] [i < (ys.length : Int)] (by kernel_rfl) ⟨h1, trivial⟩ ?_
     refine xe_then ?_
     refine x_true rfl ?_
     refine x_skip ?_
     refine xe_then ?_
     refine x_seq ?_
     refine x_block ?_
     refine x_seq ?_
     refine x_reg [] [0, 1, 5] [7301] [.arr 7301, I k', I i] [some (.arr 3 ys.length (fun q => bif Nat.beq q i.toNat then [I k', I ((at_ ys i.toNat).Y), I ((at_ ys i.toNat).D)] else (fFeat ys) q))] [(0 : Int) ≤ i ∧ i < (ys.length : Int), i.toNat < ys.length] (by kernel_rfl) ⟨⟨(by omega), (by omega)⟩, (by omega), trivial⟩ ?_
     refine xe_then ?_
     refine x_seq ?_
     refine x_weak [] (T := [(0, .arr 7301), (1, I k'), (5, I i)]) (O := [(7301, .arr 3 ((ys.set i.toNat (Feat.mk k' ((at_ ys i.toNat).Y) ((at_ ys i.toNat).D))).length) (fFeat (ys.set i.toNat (Feat.mk k' ((at_ ys i.toNat).Y) ((at_ ys i.toNat).D)))))]) rfl (⟨.inl rfl, .inl rfl, .inl rfl, trivial⟩) (⟨.inr ⟨rfl, (by first | rfl | (simp; done) | (simp; omega) | omega), fun i_ hi_ => .inl (upd_enc (enc := cFeat) rfl i_ hi_)⟩, trivial⟩) ?_
     refine x_reg [] [0, 1, 5] [7301] [.arr 7301, I (k' + 1), I i] [some (.arr 3 ((ys.set i.toNat (Feat.mk k' ((at_ ys i.toNat).Y) ((at_ ys i.toNat).D))).length) (fFeat (ys.set i.toNat (Feat.mk k' ((at_ ys i.toNat).Y) ((at_ ys i.toNat).D)))))] [inR .i64 (k' + 1)] (by kernel_rfl) ⟨(inR_i64 (by omega) (by omega)), trivial⟩ ?_
     refine xe_then ?_
     refine x_seq ?_
     refine x_reg [] [0, 1, 5] [7301] [.arr 7301, I (k' + 1), I i] [some (.arr 3 ((ys.set i.toNat (Feat.mk k' ((at_ ys i.toNat).Y) ((at_ ys i.toNat).D))).length) (fun q => bif Nat.beq q i.toNat then [I ((at_ (ys.set i.toNat (Feat.mk k' ((at_ ys i.toNat).Y) ((at_ ys i.toNat).D))) i.toNat).X), I (k' + 1), I ((at_ (ys.set i.toNat (Feat.mk k' ((at_ ys i.toNat).Y) ((at_ ys i.toNat).D))) i.toNat).D)] else (fFeat (ys.set i.toNat (Feat.mk k' ((at_ ys i.toNat).Y) ((at_ ys i.toNat).D)))) q))] [(0 : Int) ≤ i ∧ i < (((ys.set i.toNat (Feat.mk k' ((at_ ys i.toNat).Y) ((at_ ys i.toNat).D))).length) : Int), i.toNat < (ys.set i.toNat (Feat.mk k' ((at_ ys i.toNat).Y) ((at_ ys i.toNat).D))).length] (by kernel_rfl) ⟨⟨(by (try simp only [List.length_set]); omega), (by (try simp only [List.length_set]); omega)⟩, (by (try simp only [List.length_set]); omega), trivial⟩ ?_
     refine xe_then ?_
     refine x_seq ?_
     refine x_weak [] (T := [(0, .arr 7301), (1, I (k' + 1)), (5, I i)]) (O := [(7301, .arr 3 (((ys.set i.toNat (Feat.mk k' ((at_ ys i.toNat).Y) ((at_ ys i.toNat).D))).set i.toNat (Feat.mk ((at_ (ys.set i.toNat (Feat.mk k' ((at_ ys i.toNat).Y) ((at_ ys i.toNat).D))) i.toNat).X) (k' + 1) ((at_ (ys.set i.toNat (Feat.mk k' ((at_ ys i.toNat).Y) ((at_ ys i.toNat).D))) i.toNat).D))).length) (fFeat ((ys.set i.toNat (Feat.mk k' ((at_ ys i.toNat).Y) ((at_ ys i.toNat).D))).set i.toNat (Feat.mk ((at_ (ys.set i.toNat (Feat.mk k' ((at_ ys i.toNat).Y) ((at_ ys i.toNat).D))) i.toNat).X) (k' + 1) ((at_ (ys.set i.toNat (Feat.mk k' ((at_ ys i.toNat).Y) ((at_ ys i.toNat).D))) i.toNat).D)))))]) rfl (⟨.inl rfl, .inl rfl, .inl rfl, trivial⟩) (⟨.inr ⟨rfl, (by first | rfl | (simp; done) | (simp; omega) | omega), fun i_ hi_ => .inl (upd_enc (enc := cFeat) rfl i_ hi_)⟩, trivial⟩) ?_
     refine x_reg [] [0, 1, 5] [7301] [.arr 7301, I ((k' + 1) + 1), I i] [some (.arr 3 (((ys.set i.toNat (Feat.mk k' ((at_ ys i.toNat).Y) ((at_ ys i.toNat).D))).set i.toNat (Feat.mk ((at_ (ys.set i.toNat (Feat.mk k' ((at_ ys i.toNat).Y) ((at_ ys i.toNat).D))) i.toNat).X) (k' + 1) ((at_ (ys.set i.toNat (Feat.mk k' ((at_ ys i.toNat).Y) ((at_ ys i.toNat).D))) i.toNat).D))).length) (fFeat ((ys.set i.toNat (Feat.mk k' ((at_ ys i.toNat).Y) ((at_ ys i.toNat).D))).set i.toNat (Feat.mk ((at_ (ys.set i.toNat (Feat.mk k' ((at_ ys i.toNat).Y) ((at_ ys i.toNat).D))) i.toNat).X) (k' + 1) ((at_ (ys.set i.toNat (Feat.mk k' ((at_ ys i.toNat).Y) ((at_ ys i.toNat).D))) i.toNat).D)))))] [inR .i64 ((k' + 1) + 1)] (by kernel_rfl) ⟨(inR_i64 (by omega) (by omega)), trivial⟩ ?_
     refine xe_then ?_
     refine x_seq ?_
     refine x_reg [] [0, 1, 5] [7301] [.arr 7301, I ((k' + 1) + 1), I i] [some (.arr 3 (((ys.set i.toNat (Feat.mk k' ((at_ ys i.toNat).Y) ((at_ ys i.toNat).D))).set i.toNat (Feat.mk ((at_ (ys.set i.toNat (Feat.mk k' ((at_ ys i.toNat).Y) ((at_ ys i.toNat).D))) i.toNat).X) (k' + 1) ((at_ (ys.set i.toNat (Feat.mk k' ((at_ ys i.toNat).Y) ((at_ ys i.toNat).D))) i.toNat).D))).length) (fun q => bif Nat.beq q i.toNat then [I ((at_ ((ys.set i.toNat (Feat.mk k' ((at_ ys i.toNat).Y) ((at_ ys i.toNat).D))).set i.toNat (Feat.mk ((at_ (ys.set i.toNat (Feat.mk k' ((at_ ys i.toNat).Y) ((at_ ys i.toNat).D))) i.toNat).X) (k' + 1) ((at_ (ys.set i.toNat (Feat.mk k' ((at_ ys i.toNat).Y) ((at_ ys i.toNat).D))) i.toNat).D))) i.toNat).X), I ((at_ ((ys.set i.toNat (Feat.mk k' ((at_ ys i.toNat).Y) ((at_ ys i.toNat).D))).set i.toNat (Feat.mk ((at_ (ys.set i.toNat (Feat.mk k' ((at_ ys i.toNat).Y) ((at_ ys i.toNat).D))) i.toNat).X) (k' + 1) ((at_ (ys.set i.toNat (Feat.mk k' ((at_ ys i.toNat).Y) ((at_ ys i.toNat).D))) i.toNat).D))) i.toNat).Y), I ((k' + 1) + 1)] else (fFeat ((ys.set i.toNat (Feat.mk k' ((at_ ys i.toNat).Y) ((at_ ys i.toNat).D))).set i.toNat (Feat.mk ((at_ (ys.set i.toNat (Feat.mk k' ((at_ ys i.toNat).Y) ((at_ ys i.toNat).D))) i.toNat).X) (k' + 1) ((at_ (ys.set i.toNat (Feat.mk k' ((at_ ys i.toNat).Y) ((at_ ys i.toNat).D))) i.toNat).D)))) q))] [(0 : Int) ≤ i ∧ i < ((((ys.set i.toNat (Feat.mk k' ((at_ ys i.toNat).Y) ((at_ ys i.toNat).D))).set i.toNat (Feat.mk ((at_ (ys.set i.toNat (Feat.mk k' ((at_ ys i.toNat).Y) ((at_ ys i.toNat).D))) i.toNat).X) (k' + 1) ((at_ (ys.set i.toNat (Feat.mk k' ((at_ ys i.toNat).Y) ((at_ ys i.toNat).D))) i.toNat).D))).length) : Int), i.toNat < ((ys.set i.toNat (Feat.mk k' ((at_ ys i.toNat).Y) ((at_ ys i.toNat).D))).set i.toNat (Feat.mk ((at_ (ys.set i.toNat (Feat.mk k' ((at_ ys i.toNat).Y) ((at_ ys i.toNat).D))) i.toNat).X) (k' + 1) ((at_ (ys.set i.toNat (Feat.mk k' ((at_ ys i.toNat).Y) ((at_ ys i.toNat).D))) i.toNat).D))).length] (by kernel_rfl) ⟨⟨(by (try simp only [List.length_set]); omega), (by (try simp only [List.length_set]); omega)⟩, (by (try simp only [List.length_set]); omega), trivial⟩ ?_
     refine xe_then ?_
     refine x_weak [] (T := [(0, .arr 7301), (1, I ((k' + 1) + 1)), (5, I i)]) (O := [(7301, .arr 3 ((((ys.set i.toNat (Feat.mk k' ((at_ ys i.toNat).Y) ((at_ ys i.toNat).D))).set i.toNat (Feat.mk ((at_ (ys.set i.toNat (Feat.mk k' ((at_ ys i.toNat).Y) ((at_ ys i.toNat).D))) i.toNat).X) (k' + 1) ((at_ (ys.set i.toNat (Feat.mk k' ((at_ ys i.toNat).Y) ((at_ ys i.toNat).D))) i.toNat).D))).set i.toNat (Feat.mk ((at_ ((ys.set i.toNat (Feat.mk k' ((at_ ys i.toNat).Y) ((at_ ys i.toNat).D))).set i.toNat (Feat.mk ((at_ (ys.set i.toNat (Feat.mk k' ((at_ ys i.toNat).Y) ((at_ ys i.toNat).D))) i.toNat).X) (k' + 1) ((at_ (ys.set i.toNat (Feat.mk k' ((at_ ys i.toNat).Y) ((at_ ys i.toNat).D))) i.toNat).D))) i.toNat).X) ((at_ ((ys.set i.toNat (Feat.mk k' ((at_ ys i.toNat).Y) ((at_ ys i.toNat).D))).set i.toNat (Feat.mk ((at_ (ys.set i.toNat (Feat.mk k' ((at_ ys i.toNat).Y) ((at_ ys i.toNat).D))) i.toNat).X) (k' + 1) ((at_ (ys.set i.toNat (Feat.mk k' ((at_ ys i.toNat).Y) ((at_ ys i.toNat).D))) i.toNat).D))) i.toNat).Y) ((k' + 1) + 1))).length) (fFeat (((ys.set i.toNat (Feat.mk k' ((at_ ys i.toNat).Y) ((at_ ys i.toNat).D))).set i.toNat (Feat.mk ((at_ (ys.set i.toNat (Feat.mk k' ((at_ ys i.toNat).Y) ((at_ ys i.toNat).D))) i.toNat).X) (k' + 1) ((at_ (ys.set i.toNat (Feat.mk k' ((at_ ys i.toNat).Y) ((at_ ys i.toNat).D))) i.toNat).D))).set i.toNat (Feat.mk ((at_ ((ys.set i.toNat (Feat.mk k' ((at_ ys i.toNat).Y) ((at_ ys i.toNat).D))).set i.toNat (Feat.mk ((at_ (ys.set i.toNat (Feat.mk k' ((at_ ys i.toNat).Y) ((at_ ys i.toNat).D))) i.toNat).X) (k' + 1) ((at_ (ys.set i.toNat (Feat.mk k' ((at_ ys i.toNat).Y) ((at_ ys i.toNat).D))) i.toNat).D))) i.toNat).X) ((at_ ((ys.set i.toNat (Feat.mk k' ((at_ ys i.toNat).Y) ((at_ ys i.toNat).D))).set i.toNat (Feat.mk ((at_ (ys.set i.toNat (Feat.mk k' ((at_ ys i.toNat).Y) ((at_ ys i.toNat).D))) i.toNat).X) (k' + 1) ((at_ (ys.set i.toNat (Feat.mk k' ((at_ ys i.toNat).Y) ((at_ ys i.toNat).D))) i.toNat).D))) i.toNat).Y) ((k' + 1) + 1)))))]) rfl (⟨.inl rfl, .inl rfl, .inl rfl, trivial⟩) (⟨.inr ⟨rfl, (by first | rfl | (simp; done) | (simp; omega) | omega), fun i_ hi_ => .inl (upd_enc (enc := cFeat) rfl i_ hi_)⟩, trivial⟩) ?_
     refine x_reg [] [0, 1, 5] [7301] [.arr 7301, I (((k' + 1) + 1) + 1), I i] [some (.arr 3 ((((ys.set i.toNat (Feat.mk k' ((at_ ys i.toNat).Y) ((at_ ys i.toNat).D))).set i.toNat (Feat.mk ((at_ (ys.set i.toNat (Feat.mk k' ((at_ ys i.toNat).Y) ((at_ ys i.toNat).D))) i.toNat).X) (k' + 1) ((at_ (ys.set i.toNat (Feat.mk k' ((at_ ys i.toNat).Y) ((at_ ys i.toNat).D))) i.toNat).D))).set i.toNat (Feat.mk ((at_ ((ys.set i.toNat (Feat.mk k' ((at_ ys i.toNat).Y) ((at_ ys i.toNat).D))).set i.toNat (Feat.mk ((at_ (ys.set i.toNat (Feat.mk k' ((at_ ys i.toNat).Y) ((at_ ys i.toNat).D))) i.toNat).X) (k' + 1) ((at_ (ys.set i.toNat (Feat.mk k' ((at_ ys i.toNat).Y) ((at_ ys i.toNat).D))) i.toNat).D))) i.toNat).X) ((at_ ((ys.set i.toNat (Feat.mk k' ((at_ ys i.toNat).Y) ((at_ ys i.toNat).D))).set i.toNat (Feat.mk ((at_ (ys.set i.toNat (Feat.mk k' ((at_ ys i.toNat).Y) ((at_ ys i.toNat).D))) i.toNat).X) (k' + 1) ((at_ (ys.set i.toNat (Feat.mk k' ((at_ ys i.toNat).Y) ((at_ ys i.toNat).D))) i.toNat).D))) i.toNat).Y) ((k' + 1) + 1))).length) (fFeat (((ys.set i.toNat (Feat.mk k' ((at_ ys i.toNat).Y) ((at_ ys i.toNat).D))).set i.toNat (Feat.mk ((at_ (ys.set i.toNat (Feat.mk k' ((at_ ys i.toNat).Y) ((at_ ys i.toNat).D))) i.toNat).X) (k' + 1) ((at_ (ys.set i.toNat (Feat.mk k' ((at_ ys i.toNat).Y) ((at_ ys i.toNat).D))) i.toNat).D))).set i.toNat (Feat.mk ((at_ ((ys.set i.toNat (Feat.mk k' ((at_ ys i.toNat).Y) ((at_ ys i.toNat).D))).set i.toNat (Feat.mk ((at_ (ys.set i.toNat (Feat.mk k' ((at_ ys i.toNat).Y) ((at_ ys i.toNat).D))) i.toNat).X) (k' + 1) ((at_ (ys.set i.toNat (Feat.mk k' ((at_ ys i.toNat).Y) ((at_ ys i.toNat).D))) i.toNat).D))) i.toNat).X) ((at_ ((ys.set i.toNat (Feat.mk k' ((at_ ys i.toNat).Y) ((at_ ys i.toNat).D))).set i.toNat (Feat.mk ((at_ (ys.set i.toNat (Feat.mk k' ((at_ ys i.toNat).Y) ((at_ ys i.toNat).D))) i.toNat).X) (k' + 1) ((at_ (ys.set i.toNat (Feat.mk k' ((at_ ys i.toNat).Y) ((at_ ys i.toNat).D))) i.toNat).D))) i.toNat).Y) ((k' + 1) + 1)))))] [inR .i64 (((k' + 1) + 1) + 1)] (by kernel_rfl) ⟨(inR_i64 (by omega) (by omega)), trivial⟩ ?_
     refine xe_block 1 ?_
     refine xe_then ?_
     refine x_reg [] [0, 1, 5] [7301] [.arr 7301, I (((k' + 1) + 1) + 1), I (i + 1)] [some (.arr 3 ((((ys.set i.toNat (Feat.mk k' ((at_ ys i.toNat).Y) ((at_ ys i.toNat).D))).set i.toNat (Feat.mk ((at_ (ys.set i.toNat (Feat.mk k' ((at_ ys i.toNat).Y) ((at_ ys i.toNat).D))) i.toNat).X) (k' + 1) ((at_ (ys.set i.toNat (Feat.mk k' ((at_ ys i.toNat).Y) ((at_ ys i.toNat).D))) i.toNat).D))).set i.toNat (Feat.mk ((at_ ((ys.set i.toNat (Feat.mk k' ((at_ ys i.toNat).Y) ((at_ ys i.toNat).D))).set i.toNat (Feat.mk ((at_ (ys.set i.toNat (Feat.mk k' ((at_ ys i.toNat).Y) ((at_ ys i.toNat).D))) i.toNat).X) (k' + 1) ((at_ (ys.set i.toNat (Feat.mk k' ((at_ ys i.toNat).Y) ((at_ ys i.toNat).D))) i.toNat).D))) i.toNat).X) ((at_ ((ys.set i.toNat (Feat.mk k' ((at_ ys i.toNat).Y) ((at_ ys i.toNat).D))).set i.toNat (Feat.mk ((at_ (ys.set i.toNat (Feat.mk k' ((at_ ys i.toNat).Y) ((at_ ys i.toNat).D))) i.toNat).X) (k' + 1) ((at_ (ys.set i.toNat (Feat.mk k' ((at_ ys i.toNat).Y) ((at_ ys i.toNat).D))) i.toNat).D))) i.toNat).Y) ((k' + 1) + 1))).length) (fFeat (((ys.set i.toNat (Feat.mk k' ((at_ ys i.toNat).Y) ((at_ ys i.toNat).D))).set i.toNat (Feat.mk ((at_ (ys.set i.toNat (Feat.mk k' ((at_ ys i.toNat).Y) ((at_ ys i.toNat).D))) i.toNat).X) (k' + 1) ((at_ (ys.set i.toNat (Feat.mk k' ((at_ ys i.toNat).Y) ((at_ ys i.toNat).D))) i.toNat).D))).set i.toNat (Feat.mk ((at_ ((ys.set i.toNat (Feat.mk k' ((at_ ys i.toNat).Y) ((at_ ys i.toNat).D))).set i.toNat (Feat.mk ((at_ (ys.set i.toNat (Feat.mk k' ((at_ ys i.toNat).Y) ((at_ ys i.toNat).D))) i.toNat).X) (k' + 1) ((at_ (ys.set i.toNat (Feat.mk k' ((at_ ys i.toNat).Y) ((at_ ys i.toNat).D))) i.toNat).D))) i.toNat).X) ((at_ ((ys.set i.toNat (Feat.mk k' ((at_ ys i.toNat).Y) ((at_ ys i.toNat).D))).set i.toNat (Feat.mk ((at_ (ys.set i.toNat (Feat.mk k' ((at_ ys i.toNat).Y) ((at_ ys i.toNat).D))) i.toNat).X) (k' + 1) ((at_ (ys.set i.toNat (Feat.mk k' ((at_ ys i.toNat).Y) ((at_ ys i.toNat).D))) i.toNat).D))) i.toNat).Y) ((k' + 1) + 1)))))] [inR .i64 (i + 1)] (by kernel_rfl) ⟨(inR_i64 (by omega) (by omega)), trivial⟩ ?_
     exact xe_again ((((k' + 1) + 1) + 1), (i + 1), (((ys.set i.toNat (Feat.mk k' ((at_ ys i.toNat).Y) ((at_ ys i.toNat).D))).set i.toNat (Feat.mk ((at_ (ys.set i.toNat (Feat.mk k' ((at_ ys i.toNat).Y) ((at_ ys i.toNat).D))) i.toNat).X) (k' + 1) ((at_ (ys.set i.toNat (Feat.mk k' ((at_ ys i.toNat).Y) ((at_ ys i.toNat).D))) i.toNat).D))).set i.toNat (Feat.mk ((at_ ((ys.set i.toNat (Feat.mk k' ((at_ ys i.toNat).Y) ((at_ ys i.toNat).D))).set i.toNat (Feat.mk ((at_ (ys.set i.toNat (Feat.mk k' ((at_ ys i.toNat).Y) ((at_ ys i.toNat).D))) i.toNat).X) (k' + 1) ((at_ (ys.set i.toNat (Feat.mk k' ((at_ ys i.toNat).Y) ((at_ ys i.toNat).D))) i.toNat).D))) i.toNat).X) ((at_ ((ys.set i.toNat (Feat.mk k' ((at_ ys i.toNat).Y) ((at_ ys i.toNat).D))).set i.toNat (Feat.mk ((at_ (ys.set i.toNat (Feat.mk k' ((at_ ys i.toNat).Y) ((at_ ys i.toNat).D))) i.toNat).X) (k' + 1) ((at_ (ys.set i.toNat (Feat.mk k' ((at_ ys i.toNat).Y) ((at_ ys i.toNat).D))) i.toNat).D))) i.toNat).Y) ((k' + 1) + 1)))) rfl (show (0 ≤ (i + 1) ∧ (i + 1) ≤ (al.length : Int)) ∧ ((((ys.set i.toNat (Feat.mk k' ((at_ ys i.toNat).Y) ((at_ ys i.toNat).D))).set i.toNat (Feat.mk ((at_ (ys.set i.toNat (Feat.mk k' ((at_ ys i.toNat).Y) ((at_ ys i.toNat).D))) i.toNat).X) (k' + 1) ((at_ (ys.set i.toNat (Feat.mk k' ((at_ ys i.toNat).Y) ((at_ ys i.toNat).D))) i.toNat).D))).set i.toNat (Feat.mk ((at_ ((ys.set i.toNat (Feat.mk k' ((at_ ys i.toNat).Y) ((at_ ys i.toNat).D))).set i.toNat (Feat.mk ((at_ (ys.set i.toNat (Feat.mk k' ((at_ ys i.toNat).Y) ((at_ ys i.toNat).D))) i.toNat).X) (k' + 1) ((at_ (ys.set i.toNat (Feat.mk k' ((at_ ys i.toNat).Y) ((at_ ys i.toNat).D))) i.toNat).D))) i.toNat).X) ((at_ ((ys.set i.toNat (Feat.mk k' ((at_ ys i.toNat).Y) ((at_ ys i.toNat).D))).set i.toNat (Feat.mk ((at_ (ys.set i.toNat (Feat.mk k' ((at_ ys i.toNat).Y) ((at_ ys i.toNat).D))) i.toNat).X) (k' + 1) ((at_ (ys.set i.toNat (Feat.mk k' ((at_ ys i.toNat).Y) ((at_ ys i.toNat).D))) i.toNat).D))) i.toNat).Y) ((k' + 1) + 1))).length = al.length) ∧ ((((k' + 1) + 1) + 1) = k + 3 * (i + 1)) ∧ (∀ j : Nat, (j : Int) < (i + 1) → at_ (((ys.set i.toNat (Feat.mk k' ((at_ ys i.toNat).Y) ((at_ ys i.toNat).D))).set i.toNat (Feat.mk ((at_ (ys.set i.toNat (Feat.mk k' ((at_ ys i.toNat).Y) ((at_ ys i.toNat).D))) i.toNat).X) (k' + 1) ((at_ (ys.set i.toNat (Feat.mk k' ((at_ ys i.toNat).Y) ((at_ ys i.toNat).D))) i.toNat).D))).set i.toNat (Feat.mk ((at_ ((ys.set i.toNat (Feat.mk k' ((at_ ys i.toNat).Y) ((at_ ys i.toNat).D))).set i.toNat (Feat.mk ((at_ (ys.set i.toNat (Feat.mk k' ((at_ ys i.toNat).Y) ((at_ ys i.toNat).D))) i.toNat).X) (k' + 1) ((at_ (ys.set i.toNat (Feat.mk k' ((at_ ys i.toNat).Y) ((at_ ys i.toNat).D))) i.toNat).D))) i.toNat).X) ((at_ ((ys.set i.toNat (Feat.mk k' ((at_ ys i.toNat).Y) ((at_ ys i.toNat).D))).set i.toNat (Feat.mk ((at_ (ys.set i.toNat (Feat.mk k' ((at_ ys i.toNat).Y) ((at_ ys i.toNat).D))) i.toNat).X) (k' + 1) ((at_ (ys.set i.toNat (Feat.mk k' ((at_ ys i.toNat).Y) ((at_ ys i.toNat).D))) i.toNat).D))) i.toNat).Y) ((k' + 1) + 1))) j = ⟨k + 3 * (j : Int), k + 3 * (j : Int) + 1, k + 3 * (j : Int) + 2⟩) ∧ True from ⟨(by omega), (by simp; omega), (by omega), (by simp only [List.set_set, at_setQ hiy]; exact mk_next hi0.1 hiy hy1 (by simp only [Feat.mk.injEq]; omega)), trivial⟩) (by first | (show (((al.length : Int) - (i + 1)).toNat : Nat) < ((al.length : Int) - i).toNat; omega) | (dsimp only; omega))
    ·refine x_reg [(3, .dec false)] [0, 1, 5, 9] [7301] [.arr 7301, I k', I i, Bv false] [some (.arr 3 ys.length (fFeat ys))] [¬ (i < (ys.length : Int))] (by kernel_rfl) ⟨h1, trivial⟩ ?_
     refine xe_then ?_
     refine x_false rfl ?_
     refine x_exit ?_
     refine xe_exit_then ?_
     refine xe_loop_exit ?_
     refine xe_exit_same ?_
     refine xe_then ?_
     refine x_seq ?_
     refine x_reg [] [4] [7301] [I k'] [some (.arr 3 ys.length (fFeat ys))] [] (by kernel_rfl) trivial ?_
     refine xe_then ?_
     refine x_ret ?_
     refine xe_end (k', ys) (show (k' = k + 3 * (al.length : Int)) ∧ (ys = mkL k al.length) ∧ (True) from ⟨(by first | omega | exact ext_at (by rw [hy0, mkL_len]) (fun j hj => by rw [hy1 j (by omega), mkL_at (by omega)])), (by first | omega | exact ext_at (by rw [hy0, mkL_len]) (fun j hj => by rw [hy1 j (by omega), mkL_at (by omega)])), trivial⟩) (⟨.inl rfl, trivial⟩) (I k') (by kernel_rfl) (.inl rfl) (fun _ => rfl) (fun _ => trivial)
  obtain ⟨⟨v, al'⟩, ⟨hh0, hh1, _⟩, hc⟩ := hh
  exact ⟨v, al', hh0, hh1, hc⟩

theorem markFeatS1_ok (al : List Feat) (k : Int) (hk : 0 ≤ k ∧ k ≤ 100000000 ∧ al.length ≤ 1048576) : ∃ (v : Int) (al' : List Feat), (v = k + 3 * (al.length : Int)) ∧ (al' = mkL k al.length) ∧ CallOK Try.prog 14 [.arr 7302, I k] (lookO [(7302, .arr 3 al.length (fFeat al))]) true (I v) (lookO [(7302, .arr 3 al'.length (fFeat al'))]) := by
  have hh : ∃ r : Int × (List Feat), ((r.1 = k + 3 * (al.length : Int)) ∧ (r.2 = mkL k al.length) ∧ (True)) ∧ CallOK Try.prog 14 [.arr 7302, I k] (lookO [(7302, .arr 3 al.length (fFeat al))]) true (I r.1) (lookO [(7302, .arr 3 r.2.length (fFeat r.2))]) := by
    refine fn_okX (Φ := fun r : Int × (List Feat) => (r.1 = k + 3 * (al.length : Int)) ∧ (r.2 = mkL k al.length) ∧ (True)) [(7302, .arr 3 al.length (fFeat al))] (fun r => [(7302, .arr 3 r.2.length (fFeat r.2))]) (fn := Try.f14) (nt := 34) Try.func14 rfl rfl (args := [.arr 7302, I k]) rfl (allcons (.inr trivial) (allcons (.inl ⟨rfl, trivial⟩) allnil)) (res := fun r => I r.1) ?_
    refine x_seq ?_
    refine x_reg [] [0, 1] [7302] [.arr 7302, I k] [some (.arr 3 al.length (fFeat al))] [] (by kernel_rfl) trivial ?_
    refine xe_then ?_
    refine x_seq ?_
    refine x_seq ?_
    refine x_reg [] [0, 1, 5] [7302] [.arr 7302, I k, I 0] [some (.arr 3 al.length (fFeat al))] [] (by kernel_rfl) trivial ?_
    refine xe_then ?_
    refine x_block ?_
    refine x_loop (X := Int × Int × (List Feat)) (fun x => mkS [(0, .arr 7302), (1, I x.1), (5, I x.2.1)] [(7302, .arr 3 x.2.2.length (fFeat x.2.2))]) (fun x => (0 ≤ x.2.1 ∧ x.2.1 ≤ (al.length : Int)) ∧ (x.2.2.length = al.length) ∧ (x.1 = k + 3 * x.2.1) ∧ (∀ j : Nat, (j : Int) < x.2.1 → at_ x.2.2 j = ⟨k + 3 * (j : Int), k + 3 * (j : Int) + 1, k + 3 * (j : Int) + 2⟩) ∧ True) (fun x => ((al.length : Int) - x.2.1).toNat) (k, 0, al) rfl (show (0 ≤ (0 : Int) ∧ (0 : Int) ≤ (al.length : Int)) ∧ (al.length = al.length) ∧ (k = k + 3 * (0 : Int)) ∧ (∀ j : Nat, (j : Int) < (0 : Int) → at_ al j = ⟨k + 3 * (j : Int), k + 3 * (j : Int) + 1, k + 3 * (j : Int) + 2⟩) ∧ True from ⟨(by omega), (by rfl), (by omega), (by intro j hj; omega), trivial⟩) (fun x hI => ?_)
    obtain ⟨k', i, ys⟩ := x
    obtain ⟨hi0, hy0, hk1, hy1, _⟩ : (0 ≤ i ∧ i ≤ (al.length : Int)) ∧ (ys.length = al.length) ∧ (k' = k + 3 * i) ∧ (∀ j : Nat, (j : Int) < i → at_ ys j = ⟨k + 3 * (j : Int), k + 3 * (j : Int) + 1, k + 3 * (j : Int) + 2⟩) ∧ True := hI
    show XW _ _ _ _ (mkS [(0, .arr 7302), (1, I k'), (5, I i)] [(7302, .arr 3 ys.length (fFeat ys))]) _ _
    refine x_seq ?_
    refine x_seq ?_
    by_cases h1 : i < (ys.length : Int)
    ·have hi : i.toNat < al.length := by omega
     have hiy : i.toNat < ys.length := by omega
     refine x_reg [(3, .dec true)] [0, 1, 5, 9] [7302] [.arr 7302, I k', I i, Bv true] [some (.arr 3 ys.length (fFeat ys))] [i < (ys.length : Int)] (by kernel_rfl) ⟨h1, trivial⟩ ?_
     refine xe_then ?_
     refine x_true rfl ?_
     refine x_skip ?_
     refine xe_then ?_
     refine x_seq ?_
     refine x_block ?_
     refine x_seq ?_
     refine x_reg [] [0, 1, 5] [7302] [.arr 7302, I k', I i] [some (.arr 3 ys.length (fun q => bif Nat.beq q i.toNat then [I k', I ((at_ ys i.toNat).Y), I ((at_ ys i.toNat).D)] else (fFeat ys) q))] [(0 : Int) ≤ i ∧ i < (ys.length : Int), i.toNat < ys.length] (by kernel_rfl) ⟨⟨(by omega), (by omega)⟩, (by omega), trivial⟩ ?_
     refine xe_then ?_
     refine x_seq ?_
     refine x_weak [] (T := [(0, .arr 7302), (1, I k'), (5, I i)]) (O := [(7302, .arr 3 ((ys.set i.toNat (Feat.mk k' ((at_ ys i.toNat).Y) ((at_ ys i.toNat).D))).length) (fFeat (ys.set i.toNat (Feat.mk k' ((at_ ys i.toNat).Y) ((at_ ys i.toNat).D)))))]) rfl (⟨.inl rfl, .inl rfl, .inl rfl, trivial⟩) (⟨.inr ⟨rfl, (by first | rfl | (simp; done) | (simp; omega) | omega), fun i_ hi_ => .inl (upd_enc (enc := cFeat) rfl i_ hi_)⟩, trivial⟩) ?_
     refine x_reg [] [0, 1, 5] [7302] [.arr 7302, I (k' + 1), I i] [some (.arr 3 ((ys.set i.toNat (Feat.mk k' ((at_ ys i.toNat).Y) ((at_ ys i.toNat).D))).length) (fFeat (ys.set i.toNat (Feat.mk k' ((at_ ys i.toNat).Y) ((at_ ys i.toNat).D)))))] [inR .i64 (k' + 1)] (by kernel_rfl) ⟨(inR_i64 (by omega) (by omega)), trivial⟩ ?_
     refine xe_then ?_
     refine x_seq ?_
     refine x_reg [] [0, 1, 5] [7302] [.arr 7302, I (k' + 1), I i] [some (.arr 3 ((ys.set i.toNat (Feat.mk k' ((at_ ys i.toNat).Y) ((at_ ys i.toNat).D))).length) (fun q => bif Nat.beq q i.toNat then [I ((at_ (ys.set i.toNat (Feat.mk k' ((at_ ys i.toNat).Y) ((at_ ys i.toNat).D))) i.toNat).X), I (k' + 1), I ((at_ (ys.set i.toNat (Feat.mk k' ((at_ ys i.toNat).Y) ((at_ ys i.toNat).D))) i.toNat).D)] else (fFeat (ys.set i.toNat (Feat.mk k' ((at_ ys i.toNat).Y) ((at_ ys i.toNat).D)))) q))] [(0 : Int) ≤ i ∧ i < (((ys.set i.toNat (Feat.mk k' ((at_ ys i.toNat).Y) ((at_ ys i.toNat).D))).length) : Int), i.toNat < (ys.set i.toNat (Feat.mk k' ((at_ ys i.toNat).Y) ((at_ ys i.toNat).D))).length] (by kernel_rfl) ⟨⟨(by (try simp only [List.length_set]); omega), (by (try simp only [List.length_set]); omega)⟩, (by (try simp only [List.length_set]); omega), trivial⟩ ?_
     refine xe_then ?_
     refine x_seq ?_
     refine x_weak [] (T := [(0, .arr 7302), (1, I (k' + 1)), (5, I i)]) (O := [(7302, .arr 3 (((ys.set i.toNat (Feat.mk k' ((at_ ys i.toNat).Y) ((at_ ys i.toNat).D))).set i.toNat (Feat.mk ((at_ (ys.set i.toNat (Feat.mk k' ((at_ ys i.toNat).Y) ((at_ ys i.toNat).D))) i.toNat).X) (k' + 1) ((at_ (ys.set i.toNat (Feat.mk k' ((at_ ys i.toNat).Y) ((at_ ys i.toNat).D))) i.toNat).D))).length) (fFeat ((ys.set i.toNat (Feat.mk k' ((at_ ys i.toNat).Y) ((at_ ys i.toNat).D))).set i.toNat (Feat.mk ((at_ (ys.set i.toNat (Feat.mk k' ((at_ ys i.toNat).Y) ((at_ ys i.toNat).D))) i.toNat).X) (k' + 1) ((at_ (ys.set i.toNat (Feat.mk k' ((at_ ys i.toNat).Y) ((at_ ys i.toNat).D))) i.toNat).D)))))]) rfl (⟨.inl rfl, .inl rfl, .inl rfl, trivial⟩) (⟨.inr ⟨rfl, (by first | rfl | (simp; done) | (simp; omega) | omega), fun i_ hi_ => .inl (upd_enc (enc := cFeat) rfl i_ hi_)⟩, trivial⟩) ?_
     refine x_reg [] [0, 1, 5] [7302] [.arr 7302, I ((k' + 1) + 1), I i] [some (.arr 3 (((ys.set i.toNat (Feat.mk k' ((at_ ys i.toNat).Y) ((at_ ys i.toNat).D))).set i.toNat (Feat.mk ((at_ (ys.set i.toNat (Feat.mk k' ((at_ ys i.toNat).Y) ((at_ ys i.toNat).D))) i.toNat).X) (k' + 1) ((at_ (ys.set i.toNat (Feat.mk k' ((at_ ys i.toNat).Y) ((at_ ys i.toNat).D))) i.toNat).D))).length) (fFeat ((ys.set i.toNat (Feat.mk k' ((at_ ys i.toNat).Y) ((at_ ys i.toNat).D))).set i.toNat (Feat.mk ((at_ (ys.set i.toNat (Feat.mk k' ((at_ ys i.toNat).Y) ((at_ ys i.toNat).D))) i.toNat).X) (k' + 1) ((at_ (ys.set i.toNat (Feat.mk k' ((at_ ys i.toNat).Y) ((at_ ys i.toNat).D))) i.toNat).D)))))] [inR .i64 ((k' + 1) + 1)] (by kernel_rfl) ⟨(inR_i64 (by omega) (by omega)), trivial⟩ ?_
     refine xe_then ?_
     refine x_seq ?_
     refine x_reg [] [0, 1, 5] [7302] [.arr 7302, I ((k' + 1) + 1), I i] [some (.arr 3 (((ys.set i.toNat (Feat.mk k' ((at_ ys i.toNat).Y) ((at_ ys i.toNat).D))).set i.toNat (Feat.mk ((at_ (ys.set i.toNat (Feat.mk k' ((at_ ys i.toNat).Y) ((at_ ys i.toNat).D))) i.toNat).X) (k' + 1) ((at_ (ys.set i.toNat (Feat.mk k' ((at_ ys i.toNat).Y) ((at_ ys i.toNat).D))) i.toNat).D))).length) (fun q => bif Nat.beq q i.toNat then [I ((at_ ((ys.set i.toNat (Feat.mk k' ((at_ ys i.toNat).Y) ((at_ ys i.toNat).D))).set i.toNat (Feat.mk ((at_ (ys.set i.toNat (Feat.mk k' ((at_ ys i.toNat).Y) ((at_ ys i.toNat).D))) i.toNat).X) (k' + 1) ((at_ (ys.set i.toNat (Feat.mk k' ((at_ ys i.toNat).Y) ((at_ ys i.toNat).D))) i.toNat).D))) i.toNat).X), I ((at_ ((ys.set i.toNat (Feat.mk k' ((at_ ys i.toNat).Y) ((at_ ys i.toNat).D))).set i.toNat (Feat.mk ((at_ (ys.set i.toNat (Feat.mk k' ((at_ ys i.toNat).Y) ((at_ ys i.toNat).D))) i.toNat).X) (k' + 1) ((at_ (ys.set i.toNat (Feat.mk k' ((at_ ys i.toNat).Y) ((at_ ys i.toNat).D))) i.toNat).D))) i.toNat).Y), I ((k' + 1) + 1)] else (fFeat ((ys.set i.toNat (Feat.mk k' ((at_ ys i.toNat).Y) ((at_ ys i.toNat).D))).set i.toNat (Feat.mk ((at_ (ys.set i.toNat (Feat.mk k' ((at_ ys i.toNat).Y) ((at_ ys i.toNat).D))) i.toNat).X) (k' + 1) ((at_ (ys.set i.toNat (Feat.mk k' ((at_ ys i.toNat).Y) ((at_ ys i.toNat).D))) i.toNat).D)))) q))] [(0 : Int) ≤ i ∧ i < ((((ys.set i.toNat (Feat.mk k' ((at_ ys i.toNat).Y) ((at_ ys i.toNat).D))).set i.toNat (Feat.mk ((at_ (ys.set i.toNat (Feat.mk k' ((at_ ys i.toNat).Y) ((at_ ys i.toNat).D))) i.toNat).X) (k' + 1) ((at_ (ys.set i.toNat (Feat.mk k' ((at_ ys i.toNat).Y) ((at_ ys i.toNat).D))) i.toNat).D))).length) : Int), i.toNat < ((ys.set i.toNat (Feat.mk k' ((at_ ys i.toNat).Y) ((at_ ys i.toNat).D))).set i.toNat (Feat.mk ((at_ (ys.set i.toNat (Feat.mk k' ((at_ ys i.toNat).Y) ((at_ ys i.toNat).D))) i.toNat).X) (k' + 1) ((at_ (ys.set i.toNat (Feat.mk k' ((at_ ys i.toNat).Y) ((at_ ys i.toNat).D))) i.toNat).D))).length] (by kernel_rfl) ⟨⟨(by (try simp only [List.length_set]); omega), (by (try simp only [List.length_set]); omega)⟩, (by (try simp only [List.length_set]); omega), trivial⟩ ?_
     refine xe_then ?_
     refine x_weak [] (T := [(0, .arr 7302), (1, I ((k' + 1) + 1)), (5, I i)]) (O := [(7302, .arr 3 ((((ys.set i.toNat (Feat.mk k' ((at_ ys i.toNat).Y) ((at_ ys i.toNat).D))).set i.toNat (Feat.mk ((at_ (ys.set i.toNat (Feat.mk k' ((at_ ys i.toNat).Y) ((at_ ys i.toNat).D))) i.toNat).X) (k' + 1) ((at_ (ys.set i.toNat (Feat.mk k' ((at_ ys i.toNat).Y) ((at_ ys i.toNat).D))) i.toNat).D))).set i.toNat (Feat.mk ((at_ ((ys.set i.toNat (Feat.mk k' ((at_ ys i.toNat).Y) ((at_ ys i.toNat).D))).set i.toNat (Feat.mk ((at_ (ys.set i.toNat (Feat.mk k' ((at_ ys i.toNat).Y) ((at_ ys i.toNat).D))) i.toNat).X) (k' + 1) ((at_ (ys.set i.toNat (Feat.mk k' ((at_ ys i.toNat).Y) ((at_ ys i.toNat).D))) i.toNat).D))) i.toNat).X) ((at_ ((ys.set i.toNat (Feat.mk k' ((at_ ys i.toNat).Y) ((at_ ys i.toNat).D))).set i.toNat (Feat.mk ((at_ (ys.set i.toNat (Feat.mk k' ((at_ ys i.toNat).Y) ((at_ ys i.toNat).D))) i.toNat).X) (k' + 1) ((at_ (ys.set i.toNat (Feat.mk k' ((at_ ys i.toNat).Y) ((at_ ys i.toNat).D))) i.toNat).D))) i.toNat).Y) ((k' + 1) + 1))).length) (fFeat (((ys.set i.toNat (Feat.mk k' ((at_ ys i.toNat).Y) ((at_ ys i.toNat).D))).set i.toNat (Feat.mk ((at_ (ys.set i.toNat (Feat.mk k' ((at_ ys i.toNat).Y) ((at_ ys i.toNat).D))) i.toNat).X) (k' + 1) ((at_ (ys.set i.toNat (Feat.mk k' ((at_ ys i.toNat).Y) ((at_ ys i.toNat).D))) i.toNat).D))).set i.toNat (Feat.mk ((at_ ((ys.set i.toNat (Feat.mk k' ((at_ ys i.toNat).Y) ((at_ ys i.toNat).D))).set i.toNat (Feat.mk ((at_ (ys.set i.toNat (Feat.mk k' ((at_ ys i.toNat).Y) ((at_ ys i.toNat).D))) i.toNat).X) (k' + 1) ((at_ (ys.set i.toNat (Feat.mk k' ((at_ ys i.toNat).Y) ((at_ ys i.toNat).D))) i.toNat).D))) i.toNat).X) ((at_ ((ys.set i.toNat (Feat.mk k' ((at_ ys i.toNat).Y) ((at_ ys i.toNat).D))).set i.toNat (Feat.mk ((at_ (ys.set i.toNat (Feat.mk k' ((at_ ys i.toNat).Y) ((at_ ys i.toNat).D))) i.toNat).X) (k' + 1) ((at_ (ys.set i.toNat (Feat.mk k' ((at_ ys i.toNat).Y) ((at_ ys i.toNat).D))) i.toNat).D))) i.toNat).Y) ((k' + 1) + 1)))))]) rfl (⟨.inl rfl, .inl rfl, .inl rfl, trivial⟩) (⟨.inr ⟨rfl, (by first | rfl | (simp; done) | (simp; omega) | omega), fun i_ hi_ => .inl (upd_enc (enc := cFeat) rfl i_ hi_)⟩, trivial⟩) ?_
     refine x_reg [] [0, 1, 5] [7302] [.arr 7302, I (((k' + 1) + 1) + 1), I i] [some (.arr 3 ((((ys.set i.toNat (Feat.mk k' ((at_ ys i.toNat).Y) ((at_ ys i.toNat).D))).set i.toNat (Feat.mk ((at_ (ys.set i.toNat (Feat.mk k' ((at_ ys i.toNat).Y) ((at_ ys i.toNat).D))) i.toNat).X) (k' + 1) ((at_ (ys.set i.toNat (Feat.mk k' ((at_ ys i.toNat).Y) ((at_ ys i.toNat).D))) i.toNat).D))).set i.toNat (Feat.mk ((at_ ((ys.set i.toNat (Feat.mk k' ((at_ ys i.toNat).Y) ((at_ ys i.toNat).D))).set i.toNat (Feat.mk ((at_ (ys.set i.toNat (Feat.mk k' ((at_ ys i.toNat).Y) ((at_ ys i.toNat).D))) i.toNat).X) (k' + 1) ((at_ (ys.set i.toNat (Feat.mk k' ((at_ ys i.toNat).Y) ((at_ ys i.toNat).D))) i.toNat).D))) i.toNat).X) ((at_ ((ys.set i.toNat (Feat.mk k' ((at_ ys i.toNat).Y) ((at_ ys i.toNat).D))).set i.toNat (Feat.mk ((at_ (ys.set i.toNat (Feat.mk k' ((at_ ys i.toNat).Y) ((at_ ys i.toNat).D))) i.toNat).X) (k' + 1) ((at_ (ys.set i.toNat (Feat.mk k' ((at_ ys i.toNat).Y) ((at_ ys i.toNat).D))) i.toNat).D))) i.toNat).Y) ((k' + 1) + 1))).length) (fFeat (((ys.set i.toNat (Feat.mk k' ((at_ ys i.toNat).Y) ((at_ ys i.toNat).D))).set i.toNat (Feat.mk ((at_ (ys.set i.toNat (Feat.mk k' ((at_ ys i.toNat).Y) ((at_ ys i.toNat).D))) i.toNat).X) (k' + 1) ((at_ (ys.set i.toNat (Feat.mk k' ((at_ ys i.toNat).Y) ((at_ ys i.toNat).D))) i.toNat).D))).set i.toNat (Feat.mk ((at_ ((ys.set i.toNat (Feat.mk k' ((at_ ys i.toNat).Y) ((at_ ys i.toNat).D))).set i.toNat (Feat.mk ((at_ (ys.set i.toNat (Feat.mk k' ((at_ ys i.toNat).Y) ((at_ ys i.toNat).D))) i.toNat).X) (k' + 1) ((at_ (ys.set i.toNat (Feat.mk k' ((at_ ys i.toNat).Y) ((at_ ys i.toNat).D))) i.toNat).D))) i.toNat).X) ((at_ ((ys.set i.toNat (Feat.mk k' ((at_ ys i.toNat).Y) ((at_ ys i.toNat).D))).set i.toNat (Feat.mk ((at_ (ys.set i.toNat (Feat.mk k' ((at_ ys i.toNat).Y) ((at_ ys i.toNat).D))) i.toNat).X) (k' + 1) ((at_ (ys.set i.toNat (Feat.mk k' ((at_ ys i.toNat).Y) ((at_ ys i.toNat).D))) i.toNat).D))) i.toNat).Y) ((k' + 1) + 1)))))] [inR .i64 (((k' + 1) + 1) + 1)] (by kernel_rfl) ⟨(inR_i64 (by omega) (by omega)), trivial⟩ ?_
     refine xe_block 1 ?_
     refine xe_then ?_
     refine x_reg [] [0, 1, 5] [7302] [.arr 7302, I (((k' + 1) + 1) + 1), I (i + 1)] [some (.arr 3 ((((ys.set i.toNat (Feat.mk k' ((at_ ys i.toNat).Y) ((at_ ys i.toNat).D))).set i.toNat (Feat.mk ((at_ (ys.set i.toNat (Feat.mk k' ((at_ ys i.toNat).Y) ((at_ ys i.toNat).D))) i.toNat).X) (k' + 1) ((at_ (ys.set i.toNat (Feat.mk k' ((at_ ys i.toNat).Y) ((at_ ys i.toNat).D))) i.toNat).D))).set i.toNat (Feat.mk ((at_ ((ys.set i.toNat (Feat.mk k' ((at_ ys i.toNat).Y) ((at_ ys i.toNat).D))).set i.toNat (Feat.mk ((at_ (ys.set i.toNat (Feat.mk k' ((at_ ys i.toNat).Y) ((at_ ys i.toNat).D))) i.toNat).X) (k' + 1) ((at_ (ys.set i.toNat (Feat.mk k' ((at_ ys i.toNat).Y) ((at_ ys i.toNat).D))) i.toNat).D))) i.toNat).X) ((at_ ((ys.set i.toNat (Feat.mk k' ((at_ ys i.toNat).Y) ((at_ ys i.toNat).D))).set i.toNat (Feat.mk ((at_ (ys.set i.toNat (Feat.mk k' ((at_ ys i.toNat).Y) ((at_ ys i.toNat).D))) i.toNat).X) (k' + 1) ((at_ (ys.set i.toNat (Feat.mk k' ((at_ ys i.toNat).Y) ((at_ ys i.toNat).D))) i.toNat).D))) i.toNat).Y) ((k' + 1) + 1))).length) (fFeat (((ys.set i.toNat (Feat.mk k' ((at_ ys i.toNat).Y) ((at_ ys i.toNat).D))).set i.toNat (Feat.mk ((at_ (ys.set i.toNat (Feat.mk k' ((at_ ys i.toNat).Y) ((at_ ys i.toNat).D))) i.toNat).X) (k' + 1) ((at_ (ys.set i.toNat (Feat.mk k' ((at_ ys i.toNat).Y) ((at_ ys i.toNat).D))) i.toNat).D))).set i.toNat (Feat.mk ((at_ ((ys.set i.toNat (Feat.mk k' ((at_ ys i.toNat).Y) ((at_ ys i.toNat).D))).set i.toNat (Feat.mk ((at_ (ys.set i.toNat (Feat.mk k' ((at_ ys i.toNat).Y) ((at_ ys i.toNat).D))) i.toNat).X) (k' + 1) ((at_ (ys.set i.toNat (Feat.mk k' ((at_ ys i.toNat).Y) ((at_ ys i.toNat).D))) i.toNat).D))) i.toNat).X) ((at_ ((ys.set i.toNat (Feat.mk k' ((at_ ys i.toNat).Y) ((at_ ys i.toNat).D))).set i.toNat (Feat.mk ((at_ (ys.set i.toNat (Feat.mk k' ((at_ ys i.toNat).Y) ((at_ ys i.toNat).D))) i.toNat).X) (k' + 1) ((at_ (ys.set i.toNat (Feat.mk k' ((at_ ys i.toNat).Y) ((at_ ys i.toNat).D))) i.toNat).D))) i.toNat).Y) ((k' + 1) + 1)))))] [inR .i64 (i + 1)] (by kernel_rfl) ⟨(inR_i64 (by omega) (by omega)), trivial⟩ ?_
     exact xe_again ((((k' + 1) + 1) + 1), (i + 1), (((ys.set i.toNat (Feat.mk k' ((at_ ys i.toNat).Y) ((at_ ys i.toNat).D))).set i.toNat (Feat.mk ((at_ (ys.set i.toNat (Feat.mk k' ((at_ ys i.toNat).Y) ((at_ ys i.toNat).D))) i.toNat).X) (k' + 1) ((at_ (ys.set i.toNat (Feat.mk k' ((at_ ys i.toNat).Y) ((at_ ys i.toNat).D))) i.toNat).D))).set i.toNat (Feat.mk ((at_ ((ys.set i.toNat (Feat.mk k' ((at_ ys i.toNat).Y) ((at_ ys i.toNat).D))).set i.toNat (Feat.mk ((at_ (ys.set i.toNat (Feat.mk k' ((at_ ys i.toNat).Y) ((at_ ys i.toNat).D))) i.toNat).X) (k' + 1) ((at_ (ys.set i.toNat (Feat.mk k' ((at_ ys i.toNat).Y) ((at_ ys i.toNat).D))) i.toNat).D))) i.toNat).X) ((at_ ((ys.set i.toNat (Feat.mk k' ((at_ ys i.toNat).Y) ((at_ ys i.toNat).D))).set i.toNat (Feat.mk ((at_ (ys.set i.toNat (Feat.mk k' ((at_ ys i.toNat).Y) ((at_ ys i.toNat).D))) i.toNat).X) (k' + 1) ((at_ (ys.set i.toNat (Feat.mk k' ((at_ ys i.toNat).Y) ((at_ ys i.toNat).D))) i.toNat).D))) i.toNat).Y) ((k' + 1) + 1)))) rfl (show (0 ≤ (i + 1) ∧ (i + 1) ≤ (al.length : Int)) ∧ ((((ys.set i.toNat (Feat.mk k' ((at_ ys i.toNat).Y) ((at_ ys i.toNat).D))).set i.toNat (Feat.mk ((at_ (ys.set i.toNat (Feat.mk k' ((at_ ys i.toNat).Y) ((at_ ys i.toNat).D))) i.toNat).X) (k' + 1) ((at_ (ys.set i.toNat (Feat.mk k' ((at_ ys i.toNat).Y) ((at_ ys i.toNat).D))) i.toNat).D))).set i.toNat (Feat.mk ((at_ ((ys.set i.toNat (Feat.mk k' ((at_ ys i.toNat).Y) ((at_ ys i.toNat).D))).set i.toNat (Feat.mk ((at_ (ys.set i.toNat (Feat.mk k' ((at_ ys i.toNat).Y) ((at_ ys i.toNat).D))) i.toNat).X) (k' + 1) ((at_ (ys.set i.toNat (Feat.mk k' ((at_ ys i.toNat).Y) ((at_ ys i.toNat).D))) i.toNat).D))) i.toNat).X) ((at_ ((ys.set i.toNat (Feat.mk k' ((at_ ys i.toNat).Y) ((at_ ys i.toNat).D))).set i.toNat (Feat.mk ((at_ (ys.set i.toNat (Feat.mk k' ((at_ ys i.toNat).Y) ((at_ ys i.toNat).D))) i.toNat).X) (k' + 1) ((at_ (ys.set i.toNat (Feat.mk k' ((at_ ys i.toNat).Y) ((at_ ys i.toNat).D))) i.toNat).D))) i.toNat).Y) ((k' + 1) + 1))).length = al.length) ∧ ((((k' + 1) + 1) + 1) = k + 3 * (i + 1)) ∧ (∀ j : Nat, (j : Int) < (i + 1) → at_ (((ys.set i.toNat (Feat.mk k' ((at_ ys i.toNat).Y) ((at_ ys i.toNat).D))).set i.toNat (Feat.mk ((at_ (ys.set i.toNat (Feat.mk k' ((at_ ys i.toNat).Y) ((at_ ys i.toNat).D))) i.toNat).X) (k' + 1) ((at_ (ys.set i.toNat (Feat.mk k' ((at_ ys i.toNat).Y) ((at_ ys i.toNat).D))) i.toNat).D))).set i.toNat (Feat.mk ((at_ ((ys.set i.toNat (Feat.mk k' ((at_ ys i.toNat).Y) ((at_ ys i.toNat).D))).set i.toNat (Feat.mk ((at_ (ys.set i.toNat (Feat.mk k' ((at_ ys i.toNat).Y) ((at_ ys i.toNat).D))) i.toNat).X) (k' + 1) ((at_ (ys.set i.toNat (Feat.mk k' ((at_ ys i.toNat).Y) ((at_ ys i.toNat).D))) i.toNat).D))) i.toNat).X) ((at_ ((ys.set i.toNat (Feat.mk k' ((at_ ys i.toNat).Y) ((at_ ys i.toNat).D))).set i.toNat (Feat.mk ((at_ (ys.set i.toNat (Feat.mk k' ((at_ ys i.toNat).Y) ((at_ ys i.toNat).D))) i.toNat).X) (k' + 1) ((at_ (ys.set i.toNat (Feat.mk k' ((at_ ys i.toNat).Y) ((at_ ys i.toNat).D))) i.toNat).D))) i.toNat).Y) ((k' + 1) + 1))) j = ⟨k + 3 * (j : Int), k + 3 * (j : Int) + 1, k + 3 * (j : Int) + 2⟩) ∧ True from ⟨(by omega), (by simp; omega), (by omega), (by simp only [List.set_set, at_setQ hiy]; exact mk_next hi0.1 hiy hy1 (by simp only [Feat.mk.injEq]; omega)), trivial⟩) (by first | (show (((al.length : Int) - (i + 1)).toNat : Nat) < ((al.length : Int) - i).toNat; omega) | (dsimp only; omega))
    ·refine x_reg [(3, .dec false)] [0, 1, 5, 9] [7302] [.arr 7302, I k', I i, Bv false] [some (.arr 3 ys.length (fFeat ys))] [¬ (i < (ys.length : Int))] (by kernel_rfl) ⟨h1, trivial⟩ ?_
     refine xe_then ?_
     refine x_false rfl ?_
     refine x_exit ?_
     refine xe_exit_then ?_
     refine xe_loop_exit ?_
     refine xe_exit_same ?_
     refine xe_then ?_
     refine x_seq ?_
     refine x_reg [] [4] [7302] [I k'] [some (.arr 3 ys.length (fFeat ys))] [] (by kernel_rfl) trivial ?_
     refine xe_then ?_
     refine x_ret ?_
     refine xe_end (k', ys) (show (k' = k + 3 * (al.length : Int)) ∧ (ys = mkL k al.length) ∧ (True) from ⟨(by first | omega | exact ext_at (by rw [hy0, mkL_len]) (fun j hj => by rw [hy1 j (by omega), mkL_at (by omega)])), (by first | omega | exact ext_at (by rw [hy0, mkL_len]) (fun j hj => by rw [hy1 j (by omega), mkL_at (by omega)])), trivial⟩) (⟨.inl rfl, trivial⟩) (I k') (by kernel_rfl) (.inl rfl) (fun _ => rfl) (fun _ => trivial)
  obtain ⟨⟨v, al'⟩, ⟨hh0, hh1, _⟩, hc⟩ := hh
  exact ⟨v, al', hh0, hh1, hc⟩

end Go.Proofs.Ytcedmgpiaekfaaa.Ax
