/- Contracts that the statement FnExactAdaptTrained reaches, part 3. No conditions. -/
import Derived.Test.YtcedmgpiaekfaaaAxEAdaptTrained2
import Derived.Test.YtcedmgpiaekfaaaAxR
import Derived.Test.YtcedmgpiaekfaaaAxS
import Derived.Test.YtcedmgpiaekfaaaSortShelf
namespace Go.Proofs.Ytcedmgpiaekfaaa.Ax
open Go.RowKit Go.ChangeShapes Go.WideShapes
set_option linter.unusedVariables false
set_option linter.unusedSimpArgs false


-- spec.l24Median
theorem l24Median_ok (list : List Int) (hl : 1 ≤ list.length ∧ list.length ≤ 1000) : ∃ (v : Int), (v = medI list) ∧ Con Try.prog 53 [slI false list] true (I v) := by
  have hh : ∃ r : Int, ((r = medI list) ∧ (True)) ∧ CallOK Try.prog 53 [slI false list] (lookO []) true (I r) (lookO []) := by
    refine fn_okX (Φ := fun r : Int => (r = medI list) ∧ (True)) [] (fun r => []) (fn := Try.f53) (nt := 60) Try.func53 rfl rfl (args := [slI false list]) rfl (allcons (.inl ⟨rfl, tagI false _⟩) allnil) (res := fun r => I r) ?_
    refine x_seq ?_
    refine x_reg [] [0] [] [slI false list] [] [] (by kernel_rfl) trivial ?_
    refine xe_then ?_
    refine x_seq ?_
    refine x_reg [(0, .new 6)] [0, 3] [6] [slI false list, .arr 6] [some (.arr 1 0 (litF [] 1))] [] (by kernel_rfl) trivial ?_
    refine xe_then ?_
    refine x_seq ?_
    refine x_seq ?_
    refine x_reg [] [0, 3, 4] [6] [slI false list, .arr 6, I 0] [some (.arr 1 0 (litF [] 1))] [] (by kernel_rfl) trivial ?_
    refine xe_then ?_
    refine x_block ?_
    refine x_weak [] (T := [(0, slI false list), (3, .arr 6), (4, I 0)]) (O := [(6, .arr 1 (([] : List Int).length) (fI ([] : List Int)))]) rfl (⟨.inl rfl, .inl rfl, .inl rfl, trivial⟩) (⟨.inr ⟨rfl, (by first | rfl | (simp; done) | (simp; omega) | omega), fun i_ hi_ => absurd hi_ (Nat.not_lt_zero _)⟩, trivial⟩) ?_
    refine x_loop (X := (List Int) × Int) (fun x => mkS [(0, slI false list), (3, .arr 6), (4, I x.2)] [(6, .arr 1 x.1.length (fI x.1))]) (fun x => (0 ≤ x.2 ∧ x.2 ≤ (list.length : Int)) ∧ (x.1 = sortL (list.take x.2.toNat)) ∧ True) (fun x => ((list.length : Int) - x.2).toNat) (([] : List Int), 0) rfl (show (0 ≤ (0 : Int) ∧ (0 : Int) ≤ (list.length : Int)) ∧ (([] : List Int) = sortL (list.take (0 : Int).toNat)) ∧ True from ⟨(by omega), (by exact sortL_nil.symm), trivial⟩) (fun x hI => ?_)
    obtain ⟨out, i⟩ := x
    obtain ⟨hi0, hs0, _⟩ : (0 ≤ i ∧ i ≤ (list.length : Int)) ∧ (out = sortL (list.take i.toNat)) ∧ True := hI
    show XW _ _ _ _ (mkS [(0, slI false list), (3, .arr 6), (4, I i)] [(6, .arr 1 out.length (fI out))]) _ _
    refine x_seq ?_
    refine x_seq ?_
    by_cases h1 : i < (list.length : Int)
    ·have hi : i.toNat < list.length := by omega
     have hsp := sortL_len (list.take i.toNat)
     have htk : (list.take i.toNat).length = i.toNat := by rw [List.length_take]; omega
     have hol : out.length = i.toNat := by rw [hs0, hsp, htk]
     have hen : out ++ [at_ list i.toNat] = holeL (sortL (list.take i.toNat)) (sortL (list.take i.toNat)).length (at_ list i.toNat) := by rw [hs0]; exact hole_end _ _
     refine x_reg [(3, .dec true)] [0, 3, 4, 10] [6] [slI false list, .arr 6, I i, Bv true] [some (.arr 1 out.length (fI out))] [i < (list.length : Int)] (by kernel_rfl) ⟨h1, trivial⟩ ?_
     refine xe_then ?_
     refine x_true rfl ?_
     refine x_skip ?_
     refine xe_then ?_
     refine x_seq ?_
     refine x_block ?_
     refine x_seq ?_
     refine x_reg [] [0, 3, 4, 5] [6] [slI false list, .arr 6, I i, I (out.length : Int)] [some (.arr 1 out.length (fI out))] [] (by kernel_rfl) trivial ?_
     refine xe_then ?_
     refine x_seq ?_
     refine x_reg [(5, .new 20), (6, .new 21)] [0, 3, 4, 5] [21] [slI false list, .arr 21, I i, I (out.length : Int)] [some (.arr 1 (out.length + 1) (catF out.length (fI out) (litF [I (at_ list i.toNat)] 1)))] [(0 : Int) ≤ i ∧ i < (list.length : Int), (out.length + 1) * 8 ≤ 140737488355328] (by kernel_rfl) ⟨⟨(by omega), (by omega)⟩, (by omega), trivial⟩ ?_
     refine xe_then ?_
     refine x_seq ?_
     refine x_block ?_
     refine x_weak [] (T := [(0, slI false list), (3, .arr 21), (4, I i), (5, I (out.length : Int))]) (O := [(21, .arr 1 ((out ++ [(at_ list i.toNat)]).length) (fI (out ++ [(at_ list i.toNat)])))]) rfl (⟨.inl rfl, .inl rfl, .inl rfl, .inl rfl, trivial⟩) (⟨.inr ⟨rfl, (by first | rfl | (simp; done) | (simp; omega) | omega), fun i_ hi_ => .inl (cat_snoc (enc := cI) (xs := out) rfl i_ hi_)⟩, trivial⟩) ?_
     refine x_loop (X := Int × (List Int)) (fun x => mkS [(0, slI false list), (3, .arr 21), (4, I i), (5, I x.1)] [(21, .arr 1 x.2.length (fI x.2))]) (fun x => (0 ≤ x.1 ∧ x.1 ≤ ((sortL (list.take i.toNat)).length : Int)) ∧ (x.2 = holeL (sortL (list.take i.toNat)) x.1.toNat (at_ x.2 x.1.toNat)) ∧ (∀ j : Nat, x.1 ≤ (j : Int) → j < (sortL (list.take i.toNat)).length → at_ list i.toNat < at_ (sortL (list.take i.toNat)) j) ∧ True) (fun x => x.1.toNat) ((out.length : Int), (out ++ [(at_ list i.toNat)])) rfl (show (0 ≤ (out.length : Int) ∧ (out.length : Int) ≤ ((sortL (list.take i.toNat)).length : Int)) ∧ ((out ++ [(at_ list i.toNat)]) = holeL (sortL (list.take i.toNat)) (out.length : Int).toNat (at_ (out ++ [(at_ list i.toNat)]) (out.length : Int).toNat)) ∧ (∀ j : Nat, (out.length : Int) ≤ (j : Int) → j < (sortL (list.take i.toNat)).length → at_ list i.toNat < at_ (sortL (list.take i.toNat)) j) ∧ True from ⟨(by omega), (by (rw [hen, show (out.length : Int).toNat = (sortL (list.take i.toNat)).length from by omega, hole_eq (Nat.le_refl _)])), (by intro j h1 h2; omega), trivial⟩) (fun x hI => ?_)
     obtain ⟨k, ou⟩ := x
     obtain ⟨hk0, hh0, hgt, _⟩ : (0 ≤ k ∧ k ≤ ((sortL (list.take i.toNat)).length : Int)) ∧ (ou = holeL (sortL (list.take i.toNat)) k.toNat (at_ ou k.toNat)) ∧ (∀ j : Nat, k ≤ (j : Int) → j < (sortL (list.take i.toNat)).length → at_ list i.toNat < at_ (sortL (list.take i.toNat)) j) ∧ True := hI
     show XW _ _ _ _ (mkS [(0, slI false list), (3, .arr 21), (4, I i), (5, I k)] [(21, .arr 1 ou.length (fI ou))]) _ _
     refine x_seq ?_
     refine x_seq ?_
     by_cases h2 : 0 < k
     ·have hol2 : ou.length = (sortL (list.take i.toNat)).length + 1 := by rw [hh0, hole_len (by omega)]
      by_cases h3 : (at_ list i.toNat) < (at_ ou ((k - 1).toNat))
      ·have hup := hole_up ⟨by omega, by omega⟩ hh0
       have hgn := hole_gt ⟨by omega, by omega⟩ hh0 hgt h3
       refine x_reg [(1, .dec true), (12, .dec true)] [0, 3, 4, 5, 35] [21] [slI false list, .arr 21, I i, I k, Bv true] [some (.arr 1 ou.length (fI ou))] [0 < k, inR .i64 (k - 1), (0 : Int) ≤ (k - 1) ∧ (k - 1) < (ou.length : Int), (k - 1).toNat < ou.length, (0 : Int) ≤ i ∧ i < (list.length : Int), (at_ list i.toNat) < (at_ ou ((k - 1).toNat))] (by kernel_rfl) ⟨h2, (inR_i64 (by omega) (by omega)), ⟨(by omega), (by omega)⟩, (by omega), ⟨(by omega), (by omega)⟩, h3, trivial⟩ ?_
       refine xe_then ?_
       refine x_true rfl ?_
       refine x_skip ?_
       refine xe_then ?_
       refine x_block ?_
       refine x_seq ?_
       refine x_reg [] [0, 3, 4, 5] [21] [slI false list, .arr 21, I i, I k] [some (.arr 1 ou.length (fun q => bif Nat.beq q k.toNat then [I (at_ ou ((k - 1).toNat))] else (fI ou) q))] [inR .i64 (k - 1), (0 : Int) ≤ (k - 1) ∧ (k - 1) < (ou.length : Int), (k - 1).toNat < ou.length, (0 : Int) ≤ k ∧ k < (ou.length : Int), k.toNat < ou.length] (by kernel_rfl) ⟨(inR_i64 (by omega) (by omega)), ⟨(by omega), (by omega)⟩, (by omega), ⟨(by omega), (by omega)⟩, (by omega), trivial⟩ ?_
       refine xe_then ?_
       refine x_weak [] (T := [(0, slI false list), (3, .arr 21), (4, I i), (5, I k)]) (O := [(21, .arr 1 ((ou.set k.toNat (at_ ou ((k - 1).toNat))).length) (fI (ou.set k.toNat (at_ ou ((k - 1).toNat)))))]) rfl (⟨.inl rfl, .inl rfl, .inl rfl, .inl rfl, trivial⟩) (⟨.inr ⟨rfl, (by first | rfl | (simp; done) | (simp; omega) | omega), fun i_ hi_ => .inl (upd_enc (enc := cI) rfl i_ hi_)⟩, trivial⟩) ?_
       refine x_reg [] [0, 3, 4, 5] [21] [slI false list, .arr 21, I i, I (k - 1)] [some (.arr 1 ((ou.set k.toNat (at_ ou ((k - 1).toNat))).length) (fI (ou.set k.toNat (at_ ou ((k - 1).toNat)))))] [inR .i64 (k - 1)] (by kernel_rfl) ⟨(inR_i64 (by omega) (by omega)), trivial⟩ ?_
       refine xe_block 3 ?_
       exact xe_again ((k - 1), (ou.set k.toNat (at_ ou ((k - 1).toNat)))) rfl (show (0 ≤ (k - 1) ∧ (k - 1) ≤ ((sortL (list.take i.toNat)).length : Int)) ∧ ((ou.set k.toNat (at_ ou ((k - 1).toNat))) = holeL (sortL (list.take i.toNat)) (k - 1).toNat (at_ (ou.set k.toNat (at_ ou ((k - 1).toNat))) (k - 1).toNat)) ∧ (∀ j : Nat, (k - 1) ≤ (j : Int) → j < (sortL (list.take i.toNat)).length → at_ list i.toNat < at_ (sortL (list.take i.toNat)) j) ∧ True from ⟨(by omega), (by exact hup), (by exact hgn), trivial⟩) (by first | (show ((k - 1).toNat : Nat) < k.toNat; omega) | (dsimp only; omega))
      ·have hpt := hole_put (x := at_ list i.toNat) rfl hi0.1 hi hk0 hh0 hgt (Or.inr (by omega)) rfl
       refine x_reg [(1, .dec true), (12, .dec false)] [0, 3, 4, 5, 35] [21] [slI false list, .arr 21, I i, I k, Bv false] [some (.arr 1 ou.length (fI ou))] [0 < k, inR .i64 (k - 1), (0 : Int) ≤ (k - 1) ∧ (k - 1) < (ou.length : Int), (k - 1).toNat < ou.length, (0 : Int) ≤ i ∧ i < (list.length : Int), ¬ ((at_ list i.toNat) < (at_ ou ((k - 1).toNat)))] (by kernel_rfl) ⟨h2, (inR_i64 (by omega) (by omega)), ⟨(by omega), (by omega)⟩, (by omega), ⟨(by omega), (by omega)⟩, h3, trivial⟩ ?_
       refine xe_then ?_
       refine x_false rfl ?_
       refine x_exit ?_
       refine xe_exit_then ?_
       refine xe_loop_exit ?_
       refine xe_exit_same ?_
       refine xe_then ?_
       refine x_reg [] [0, 3, 4] [21] [slI false list, .arr 21, I i] [some (.arr 1 ou.length (fun q => bif Nat.beq q k.toNat then [I (at_ list i.toNat)] else (fI ou) q))] [(0 : Int) ≤ i ∧ i < (list.length : Int), (0 : Int) ≤ k ∧ k < (ou.length : Int), k.toNat < ou.length] (by kernel_rfl) ⟨⟨(by omega), (by omega)⟩, ⟨(by omega), (by omega)⟩, (by omega), trivial⟩ ?_
       refine xe_block 1 ?_
       refine xe_then ?_
       refine x_weak [] (T := [(0, slI false list), (3, .arr 21), (4, I i)]) (O := [(21, .arr 1 ((ou.set k.toNat (at_ list i.toNat)).length) (fI (ou.set k.toNat (at_ list i.toNat))))]) rfl (⟨.inl rfl, .inl rfl, .inl rfl, trivial⟩) (⟨.inr ⟨rfl, (by first | rfl | (simp; done) | (simp; omega) | omega), fun i_ hi_ => .inl (upd_enc (enc := cI) rfl i_ hi_)⟩, trivial⟩) ?_
       refine x_reg [] [0, 3, 4] [21] [slI false list, .arr 21, I (i + 1)] [some (.arr 1 ((ou.set k.toNat (at_ list i.toNat)).length) (fI (ou.set k.toNat (at_ list i.toNat))))] [inR .i64 (i + 1)] (by kernel_rfl) ⟨(inR_i64 (by omega) (by omega)), trivial⟩ ?_
       refine xe_weak [(6, 21)] (T := [(0, slI false list), (3, .arr 6), (4, I (i + 1))]) (O := [(6, .arr 1 ((ou.set k.toNat (at_ list i.toNat)).length) (fI (ou.set k.toNat (at_ list i.toNat))))]) rfl (⟨.inl rfl, .inl rfl, .inl rfl, trivial⟩) (⟨.inl rfl, trivial⟩) (xe_again ((ou.set k.toNat (at_ list i.toNat)), (i + 1)) rfl (show (0 ≤ (i + 1) ∧ (i + 1) ≤ (list.length : Int)) ∧ ((ou.set k.toNat (at_ list i.toNat)) = sortL (list.take (i + 1).toNat)) ∧ True from ⟨(by omega), (by first | exact hpt | (rw [← hpt]; done)), trivial⟩) (by first | (show (((list.length : Int) - (i + 1)).toNat : Nat) < ((list.length : Int) - i).toNat; omega) | (dsimp only; omega)))
     ·have hol2 : ou.length = (sortL (list.take i.toNat)).length + 1 := by rw [hh0, hole_len (by omega)]
      have hpt := hole_put (x := at_ list i.toNat) rfl hi0.1 hi hk0 hh0 hgt (Or.inl (by omega)) rfl
      refine x_reg [(1, .dec false)] [0, 3, 4, 5, 35] [21] [slI false list, .arr 21, I i, I k, Bv false] [some (.arr 1 ou.length (fI ou))] [¬ (0 < k)] (by kernel_rfl) ⟨h2, trivial⟩ ?_
      refine xe_then ?_
      refine x_false rfl ?_
      refine x_exit ?_
      refine xe_exit_then ?_
      refine xe_loop_exit ?_
      refine xe_exit_same ?_
      refine xe_then ?_
      refine x_reg [] [0, 3, 4] [21] [slI false list, .arr 21, I i] [some (.arr 1 ou.length (fun q => bif Nat.beq q k.toNat then [I (at_ list i.toNat)] else (fI ou) q))] [(0 : Int) ≤ i ∧ i < (list.length : Int), (0 : Int) ≤ k ∧ k < (ou.length : Int), k.toNat < ou.length] (by kernel_rfl) ⟨⟨(by omega), (by omega)⟩, ⟨(by omega), (by omega)⟩, (by omega), trivial⟩ ?_
      refine xe_block 1 ?_
      refine xe_then ?_
      refine x_weak [] (T := [(0, slI false list), (3, .arr 21), (4, I i)]) (O := [(21, .arr 1 ((ou.set k.toNat (at_ list i.toNat)).length) (fI (ou.set k.toNat (at_ list i.toNat))))]) rfl (⟨.inl rfl, .inl rfl, .inl rfl, trivial⟩) (⟨.inr ⟨rfl, (by first | rfl | (simp; done) | (simp; omega) | omega), fun i_ hi_ => .inl (upd_enc (enc := cI) rfl i_ hi_)⟩, trivial⟩) ?_
      refine x_reg [] [0, 3, 4] [21] [slI false list, .arr 21, I (i + 1)] [some (.arr 1 ((ou.set k.toNat (at_ list i.toNat)).length) (fI (ou.set k.toNat (at_ list i.toNat))))] [inR .i64 (i + 1)] (by kernel_rfl) ⟨(inR_i64 (by omega) (by omega)), trivial⟩ ?_
      refine xe_weak [(6, 21)] (T := [(0, slI false list), (3, .arr 6), (4, I (i + 1))]) (O := [(6, .arr 1 ((ou.set k.toNat (at_ list i.toNat)).length) (fI (ou.set k.toNat (at_ list i.toNat))))]) rfl (⟨.inl rfl, .inl rfl, .inl rfl, trivial⟩) (⟨.inl rfl, trivial⟩) (xe_again ((ou.set k.toNat (at_ list i.toNat)), (i + 1)) rfl (show (0 ≤ (i + 1) ∧ (i + 1) ≤ (list.length : Int)) ∧ ((ou.set k.toNat (at_ list i.toNat)) = sortL (list.take (i + 1).toNat)) ∧ True from ⟨(by omega), (by first | exact hpt | (rw [← hpt]; done)), trivial⟩) (by first | (show (((list.length : Int) - (i + 1)).toNat : Nat) < ((list.length : Int) - i).toNat; omega) | (dsimp only; omega)))
    ·have hie : i.toNat = list.length := by omega
     rw [hie, List.take_of_length_le (Nat.le_refl _)] at hs0
     have hol : out.length = list.length := by rw [hs0, sortL_len]
     refine x_reg [(3, .dec false)] [0, 3, 4, 10] [6] [slI false list, .arr 6, I i, Bv false] [some (.arr 1 out.length (fI out))] [¬ (i < (list.length : Int))] (by kernel_rfl) ⟨h1, trivial⟩ ?_
     refine xe_then ?_
     refine x_false rfl ?_
     refine x_exit ?_
     refine xe_exit_then ?_
     refine xe_loop_exit ?_
     refine xe_exit_same ?_
     refine xe_then ?_
     refine x_seq ?_
     refine x_reg [(4, .nn)] [2] [] [I (at_ out ((((out.length : Int) - 1) / 2).toNat))] [] [inR .i64 ((out.length : Int) - 1), (0 : Int) ≤ ((out.length : Int) - 1) ∧ (0 : Int) < 2 ∧ inR .i64 ((out.length : Int) - 1), (0 : Int) ≤ (((out.length : Int) - 1) / 2) ∧ (((out.length : Int) - 1) / 2) < (out.length : Int), (((out.length : Int) - 1) / 2).toNat < out.length] (by kernel_rfl) ⟨(inR_i64 (by omega) (by omega)), ⟨(by omega), (by omega), (inR_i64 (by omega) (by omega))⟩, ⟨(by omega), (by omega)⟩, (by omega), trivial⟩ ?_
     refine xe_then ?_
     refine x_ret ?_
     refine xe_end (at_ out ((((out.length : Int) - 1) / 2).toNat)) (show ((at_ out ((((out.length : Int) - 1) / 2).toNat)) = medI list) ∧ (True) from ⟨(by (rw [hs0, sortL_len]; unfold medI; congr 1; omega)), trivial⟩) (trivial) (I (at_ out ((((out.length : Int) - 1) / 2).toNat))) (by kernel_rfl) (.inl rfl) (fun _ => rfl) (fun _ => trivial)
  obtain ⟨v, ⟨hh0, _⟩, hc⟩ := hh
  exact ⟨v, hh0, hc⟩


-- spec.l00Max
theorem l00Max_ok (a : Int) (b : Int) : Con Try.prog 65 [I a, I b] true (I (max a b)) := by
  refine fn_ok (fn := Try.f65) (nt := 10) Try.func65 rfl rfl rfl rfl (by simp [taggedL, tagged]) fun B hB => ?_
  refine aw_seq ?_
  refine aw_reg [] [0, 1] [] [I a, I b] [] [] (by kernel_rfl) hB trivial ?_
  refine ae_then ?_
  refine aw_seq ?_
  refine aw_seq ?_
  by_cases h1 : b < a
  ·refine aw_reg [(2, .dec true)] [0, 1, 7] [] [I a, I b, Bv true] [] [b < a] (by kernel_rfl) hB ⟨h1, trivial⟩ ?_
   refine ae_then ?_
   refine aw_true rfl ?_
   refine aw_seq ?_
   refine aw_reg [] [4] [] [I a] [] [] (by kernel_rfl) hB trivial ?_
   refine ae_then ?_
   refine aw_ret ?_
   refine ae_ret_then ?_
   refine ae_ret hB (I a) (by kernel_rfl) (.inl (by refine congrArg I ?_; omega)) rfl (fun _ => trivial)
  ·refine aw_reg [(2, .dec false)] [0, 1, 7] [] [I a, I b, Bv false] [] [¬ (b < a)] (by kernel_rfl) hB ⟨h1, trivial⟩ ?_
   refine ae_then ?_
   refine aw_false rfl ?_
   refine aw_skip ?_
   refine ae_then ?_
   refine aw_seq ?_
   refine aw_reg [] [4] [] [I b] [] [] (by kernel_rfl) hB trivial ?_
   refine ae_then ?_
   refine aw_ret ?_
   refine ae_ret hB (I b) (by kernel_rfl) (.inl (by refine congrArg I ?_; omega)) rfl (fun _ => trivial)


/-- A coordinate that is moved towards a median. -/
def towI (x m base share : Int) : Int := min (max (x + Int.tdiv ((m - x) * share) 100) (base - 40)) (base + 40)

theorem down_spec (n : Int) {d : Int} (hd : 0 < d) : (Int.tmod n d < 0 → Int.tdiv n d - 1 = n / d) ∧ (¬ Int.tmod n d < 0 → Int.tdiv n d = n / d) := by
  have h1 := Int.mul_tdiv_add_tmod n d
  have h2 := Int.tmod_lt_of_pos n hd
  have h3 := Int.lt_tmod_of_pos n hd
  generalize Int.tdiv n d = q at *
  generalize Int.tmod n d = r at *
  subst h1
  constructor
  · intro h
    have e : d * q + r = (r + d) + d * (q - 1) := by rw [Int.mul_sub, Int.mul_one]; omega
    rw [e, Int.add_mul_ediv_left _ _ (by omega), Int.ediv_eq_zero_of_lt (by omega) (by omega)]; omega
  · intro h
    rw [Int.add_comm, Int.add_mul_ediv_left _ _ (by omega), Int.ediv_eq_zero_of_lt (by omega) (by omega)]; omega
theorem quo_bd {n r : Int} (h : 0 ≤ n) (hr : 0 < r) : 0 ≤ n / r ∧ n / r ≤ n := ⟨Int.ediv_nonneg h (by omega), Int.ediv_le_self _ h⟩
theorem tdiv_bd (n d : Int) : ((Int.tdiv n d).natAbs : Int) ≤ (n.natAbs : Int) := by
  rw [Int.natAbs_tdiv]
  exact Int.ofNat_le.2 (Nat.div_le_self _ _)

-- spec.l24Move
theorem l24Move_ok (now : Int) (base : Int) (median : Int) (share : Int) (hx : 0 ≤ now ∧ now ≤ 4095) (hb : 0 ≤ base ∧ base ≤ 4095) (hm : 0 ≤ median ∧ median ≤ 4095) (hs : 0 ≤ share ∧ share ≤ 100) : Con Try.prog 52 [I now, I base, I median, I share] true (I (towI now median base share)) := by
  have hq := tdiv_bd ((median - now) * share) 100
  have hml := Int.mul_le_mul_of_nonneg_right (show median - now ≤ 4095 by omega) hs.1
  have hmg := Int.mul_le_mul_of_nonneg_right (show -4095 ≤ median - now by omega) hs.1
  refine fn_ok (fn := Try.f52) (nt := 25) Try.func52 rfl rfl rfl rfl (by simp [taggedL, tagged]) fun B hB => ?_
  refine aw_seq ?_
  refine aw_reg [] [0, 1, 2, 3] [] [I now, I base, I median, I share] [] [] (by kernel_rfl) hB trivial ?_
  refine ae_then ?_
  refine aw_seq ?_
  refine aw_reg [] [1, 9] [] [I base, I (now + (Int.tdiv ((median - now) * share) 100))] [] [inR .i64 (median - now), inR .i64 ((median - now) * share), (100 : Int) ≠ 0 ∧ inR .i64 (Int.tdiv ((median - now) * share) 100), inR .i64 (now + (Int.tdiv ((median - now) * share) 100))] (by kernel_rfl) hB ⟨(inR_i64 (by omega) (by omega)), (inR_i64 (by omega) (by omega)), ⟨by omega, (inR_i64 (by omega) (by omega))⟩, (inR_i64 (by omega) (by omega)), trivial⟩ ?_
  refine ae_then ?_
  refine aw_seq ?_
  refine aw_reg [(5, .call [(true, I (base + 40)), (true, I (now + (Int.tdiv ((median - now) * share) 100)))] true (I (min (base + 40) (now + (Int.tdiv ((median - now) * share) 100))))), (6, .call [(true, I (base - 40)), (true, I (min (base + 40) (now + (Int.tdiv ((median - now) * share) 100))))] true (I (max (base - 40) (min (base + 40) (now + (Int.tdiv ((median - now) * share) 100))))))] [8] [] [I (max (base - 40) (min (base + 40) (now + (Int.tdiv ((median - now) * share) 100))))] [] [inR .i64 (base - 40), inR .i64 (base + 40), Con Try.prog 66 [I (base + 40), I (now + (Int.tdiv ((median - now) * share) 100))] true (I (min (base + 40) (now + (Int.tdiv ((median - now) * share) 100)))) ∧ ((I (base + 40) : AV) = I (base + 40)) ∧ ((I (now + (Int.tdiv ((median - now) * share) 100)) : AV) = I (now + (Int.tdiv ((median - now) * share) 100))) ∧ True, Con Try.prog 65 [I (base - 40), I (min (base + 40) (now + (Int.tdiv ((median - now) * share) 100)))] true (I (max (base - 40) (min (base + 40) (now + (Int.tdiv ((median - now) * share) 100))))) ∧ ((I (base - 40) : AV) = I (base - 40)) ∧ ((I (min (base + 40) (now + (Int.tdiv ((median - now) * share) 100))) : AV) = I (min (base + 40) (now + (Int.tdiv ((median - now) * share) 100)))) ∧ True] (by kernel_rfl) hB ⟨(inR_i64 (by omega) (by omega)), (inR_i64 (by omega) (by omega)), ⟨(l00Min_ok (base + 40) (now + (Int.tdiv ((median - now) * share) 100))), rfl, rfl, trivial⟩, ⟨(l00Max_ok (base - 40) (min (base + 40) (now + (Int.tdiv ((median - now) * share) 100)))), rfl, rfl, trivial⟩, trivial⟩ ?_
  refine ae_then ?_
  refine aw_ret ?_
  refine ae_ret hB (I (max (base - 40) (min (base + 40) (now + (Int.tdiv ((median - now) * share) 100))))) (by kernel_rfl) (.inl (by refine congrArg I ?_; unfold towI; first | rfl | omega)) rfl (fun _ => trivial)


/-- The numbers that a path brings to place i. -/
def xsF (f : Feat → Int) (path : List Pair) (s : List Feat) (i : Int) : List Int := (path.filter fun p => decide (p.I = i)).map fun p => f (at_ s p.J.toNat)
theorem xsF_yes {f : Feat → Int} {path : List Pair} {s : List Feat} {i : Int} {k : Nat} (h : k < path.length) (e : (at_ path k).I = i) : xsF f (path.take (k + 1)) s i = xsF f (path.take k) s i ++ [f (at_ s (at_ path k).J.toNat)] := by
  rw [List.take_succ_eq_append_getElem h, ← at_eq h]
  simp [xsF, List.filter_append, e]
theorem xsF_no {f : Feat → Int} {path : List Pair} {s : List Feat} {i : Int} {k : Nat} (h : k < path.length) (e : ¬ (at_ path k).I = i) : xsF f (path.take (k + 1)) s i = xsF f (path.take k) s i := by
  rw [List.take_succ_eq_append_getElem h, ← at_eq h]
  simp [xsF, List.filter_append, e]
theorem xsF_le (f : Feat → Int) (path : List Pair) (s : List Feat) (i : Int) : (xsF f path s i).length ≤ path.length := by
  unfold xsF; rw [List.length_map]; exact List.length_filter_le _ _
def pathOf (a b : List Feat) (band : Int) : List Pair := (tot a b band).reverse
theorem path_len (a b : List Feat) (band : Int) : (pathOf a b band).length = (tot a b band).length := List.length_reverse
theorem path_bd {a b : List Feat} (ha : okFeats a 72 = true) (hb : okFeats b 72 = true) (band : Int) : (pathOf a b band).length ≤ 145 := by
  have h := tot_len a b band
  have h1 := okFeats_n ha
  have h2 := okFeats_n hb
  rw [path_len]; omega
theorem path_at {a b : List Feat} {band : Int} (ha : okFeats a 72 = true) (hb : okFeats b 72 = true) {k : Nat} (hk : k < (pathOf a b band).length) : (0 ≤ (at_ (pathOf a b band) k).I ∧ (at_ (pathOf a b band) k).I < (a.length : Int)) ∧ 0 ≤ (at_ (pathOf a b band) k).J ∧ (at_ (pathOf a b band) k).J < (b.length : Int) := by
  have hm := at_mem hk
  exact tot_mem (okFeats_n ha).1 (okFeats_n hb).1 (List.mem_reverse.1 hm)
theorem xs_pos {a b : List Feat} {band : Int} (ha : okFeats a 72 = true) (hb : okFeats b 72 = true) (hnm : inBd band a.length b.length) (f : Feat → Int) {i : Nat} (hi : i < a.length) : 1 ≤ (xsF f (pathOf a b band) b i).length ∧ (xsF f (pathOf a b band) b i).length ≤ 145 := by
  have h1 := okFeats_n ha
  have h2 := okFeats_n hb
  refine ⟨?_, Nat.le_trans (xsF_le _ _ _ _) (path_bd ha hb band)⟩
  obtain ⟨p, hp, e⟩ := bk_cov (okAB_of ha hb) (a.length + b.length - 1) (a.length - 1) (b.length - 1) (by omega) (by omega) (inBd_end hnm h1.1 h2.1) (by omega) i (by omega)
  unfold xsF
  rw [List.length_map]
  refine List.length_pos_of_mem (a := p) (List.mem_filter.2 ⟨List.mem_reverse.2 hp, by simp [e]⟩)
theorem xs_mem {a b : List Feat} {band : Int} (ha : okFeats a 72 = true) (hb : okFeats b 72 = true) {f : Feat → Int} (hf : ∀ x : Feat, okF x = true → 0 ≤ f x ∧ f x ≤ 255) {i x : Int} (hx : x ∈ xsF f (pathOf a b band) b i) : 0 ≤ x ∧ x ≤ 255 := by
  unfold xsF at hx
  obtain ⟨p, hp, rfl⟩ := List.mem_map.1 hx
  have hp' := (List.mem_filter.1 hp).1
  have hq := tot_mem (okFeats_n ha).1 (okFeats_n hb).1 (List.mem_reverse.1 hp')
  exact hf _ (okFeats_at hb (by omega))
theorem okF_X : ∀ x : Feat, okF x = true → 0 ≤ x.X ∧ x.X ≤ 255 := fun x h => by have := okF_iff.1 h; omega
theorem okF_Y : ∀ x : Feat, okF x = true → 0 ≤ x.Y ∧ x.Y ≤ 255 := fun x h => by have := okF_iff.1 h; omega
theorem med_bd {a b : List Feat} {band : Int} (ha : okFeats a 72 = true) (hb : okFeats b 72 = true) (hnm : inBd band a.length b.length) {f : Feat → Int} (hf : ∀ x : Feat, okF x = true → 0 ≤ f x ∧ f x ≤ 255) {i : Nat} (hi : i < a.length) : 0 ≤ medI (xsF f (pathOf a b band) b i) ∧ medI (xsF f (pathOf a b band) b i) ≤ 255 :=
  xs_mem ha hb hf (medI_mem (xs_pos ha hb hnm f hi).1)
/-- A template's feature after a sample. -/
def adpF (t : Trained) (s : List Feat) (band share : Int) (i : Nat) : Feat :=
  ⟨towI (at_ t.Feats i).X (medI (xsF Feat.X (pathOf t.Feats s band) s i)) (at_ t.Base i).X share, towI (at_ t.Feats i).Y (medI (xsF Feat.Y (pathOf t.Feats s band) s i)) (at_ t.Base i).Y share, (at_ t.Feats i).D⟩
def adpN (t : Trained) (s : List Feat) (band share : Int) (n : Nat) : List Feat := (List.range n).map (adpF t s band share)
theorem adpN_succ {t : Trained} {s : List Feat} {band share : Int} {n : Nat} {y : Feat} (h : y = adpF t s band share n) : adpN t s band share n ++ [y] = adpN t s band share (n + 1) := by
  subst h; simp [adpN, List.range_succ]
theorem adpN_len (t : Trained) (s : List Feat) (band share : Int) (n : Nat) : (adpN t s band share n).length = n := by simp [adpN]
/-- A template after a sample. -/
def adpT (t : Trained) (s : List Feat) (band share : Int) : Trained := ⟨t.Label, t.Base, adpN t s band share t.Feats.length, t.Count + 1⟩

-- spec.l24Adapt
set_option maxHeartbeats 4000000 in
theorem l24Adapt_ok (t : Trained) (sample : List Feat) (band : Int) (share : Int) (okt : okTrained' t = true) (oks : okFeats sample 72 = true) (hbd : 0 ≤ band ∧ band ≤ 72) (hnm : inBd band t.Feats.length sample.length) (hsh : 0 ≤ share ∧ share ≤ 100) (hct : t.Count < 100) : ∃ (v : Trained), (v = adpT t sample band share) ∧ Con Try.prog 29 [.ptr false [Sv t.Label, slFeat false t.Base, slFeat false t.Feats, I t.Count], slFeat false sample, I band, I share] true (agTrainedT v) := by
  have oka := (okTr_iff.1 okt).2.2.1
  have okb := (okTr_iff.1 okt).2.1
  have hlen := (okTr_iff.1 okt).2.2.2.1.1
  have hcn := inB_iff.1 (okTr_iff.1 okt).2.2.2.2
  have hna := okFeats_n oka
  have hns := okFeats_n oks
  have hpl := path_bd oka oks band
  have hh : ∃ r : Trained, ((r = adpT t sample band share) ∧ (True)) ∧ CallOK Try.prog 29 [.ptr false [Sv t.Label, slFeat false t.Base, slFeat false t.Feats, I t.Count], slFeat false sample, I band, I share] (lookO []) true (agTrainedT r) (lookO []) := by
    refine fn_okX (Φ := fun r : Trained => (r = adpT t sample band share) ∧ (True)) [] (fun r => []) (fn := Try.f29) (nt := 134) Try.func29 rfl rfl (args := [.ptr false [Sv t.Label, slFeat false t.Base, slFeat false t.Feats, I t.Count], slFeat false sample, I band, I share]) rfl (allcons (.inl ⟨rfl, by simp [tagged, taggedL, tagFeat]⟩) (allcons (.inl ⟨rfl, tagFeat false _⟩) (allcons (.inl ⟨rfl, trivial⟩) (allcons (.inl ⟨rfl, trivial⟩) allnil)))) (res := fun r => agTrainedT r) ?_
    refine x_seq ?_
    refine x_reg [(0, .new 8)] [0, 1, 2, 3, 8] [8] [.ptr false [Sv t.Label, slFeat false t.Base, slFeat false t.Feats, I t.Count], slFeat false sample, I band, I share, .ref 8 0] [some (.box [Sv (⟨#[]⟩ : ByteArray), nilA, nilA, I 0])] [] (by kernel_rfl) trivial ?_
    refine xe_then ?_
    refine x_seq ?_
    obtain ⟨v_1, hx1_0, hc1⟩ := l09Trace_ok t.Feats sample band oka oks hbd hnm
    have hpv : v_1 = pathOf t.Feats sample band := hx1_0
    have hpl : v_1.length ≤ 145 := by rw [hpv]; exact path_bd oka oks band
    have hpa : ∀ k, k < v_1.length → (0 ≤ (at_ v_1 k).I ∧ (at_ v_1 k).I < (t.Feats.length : Int)) ∧ 0 ≤ (at_ v_1 k).J ∧ (at_ v_1 k).J < (sample.length : Int) := by rw [hpv]; exact fun k hk => path_at oka oks hk
    have hxp : ∀ (f : Feat → Int) (i : Nat), i < t.Feats.length → 1 ≤ (xsF f v_1 sample i).length ∧ (xsF f v_1 sample i).length ≤ 145 := by rw [hpv]; exact fun f i hi => xs_pos oka oks hnm f hi
    have hmX : ∀ i : Nat, i < t.Feats.length → 0 ≤ medI (xsF Feat.X v_1 sample i) ∧ medI (xsF Feat.X v_1 sample i) ≤ 255 := by rw [hpv]; exact fun i hi => med_bd oka oks hnm okF_X hi
    have hmY : ∀ i : Nat, i < t.Feats.length → 0 ≤ medI (xsF Feat.Y v_1 sample i) ∧ medI (xsF Feat.Y v_1 sample i) ≤ 255 := by rw [hpv]; exact fun i hi => med_bd oka oks hnm okF_Y hi
    have had : ∀ i : Nat, adpF t sample band share i = ⟨towI (at_ t.Feats i).X (medI (xsF Feat.X v_1 sample i)) (at_ t.Base i).X share, towI (at_ t.Feats i).Y (medI (xsF Feat.Y v_1 sample i)) (at_ t.Base i).Y share, (at_ t.Feats i).D⟩ := by rw [hpv]; exact fun _ => rfl
    refine x_reg [(6, .call [(true, slFeat false t.Feats), (true, slFeat false sample), (true, I band)] true (slPair true v_1))] [0, 1, 3, 8, 9] [8] [.ptr false [Sv t.Label, slFeat false t.Base, slFeat false t.Feats, I t.Count], slFeat false sample, I share, .ref 8 0, slPair true v_1] [some (.box [Sv (⟨#[]⟩ : ByteArray), nilA, nilA, I 0])] [Con Try.prog 50 [slFeat false t.Feats, slFeat false sample, I band] true (slPair true v_1) ∧ ((slFeat false t.Feats : AV) = slFeat false t.Feats) ∧ ((slFeat false sample : AV) = slFeat false sample) ∧ ((I band : AV) = I band) ∧ True] (by kernel_rfl) ⟨⟨hc1, rfl, rfl, rfl, trivial⟩, trivial⟩ ?_
    refine xe_then ?_
    refine x_seq ?_
    refine x_reg [(8, .call [(true, slFeat false t.Base)] true (slFeat true t.Base)), (15, .new 10)] [0, 1, 3, 8, 9, 10] [8, 10] [.ptr false [Sv t.Label, slFeat false t.Base, slFeat false t.Feats, I t.Count], slFeat false sample, I share, .ref 8 0, slPair true v_1, .ref 10 0] [some (.box [Sv (⟨#[]⟩ : ByteArray), nilA, nilA, I 0]), some (.box [Sv t.Label, slFeat true t.Base, nilA, I (t.Count + 1)])] [Con Try.prog 51 [slFeat false t.Base] true (slFeat true t.Base) ∧ ((slFeat false t.Base : AV) = slFeat false t.Base) ∧ True, inR .i64 (t.Count + 1)] (by kernel_rfl) ⟨⟨(l24Copy_ok t.Base (by omega)), rfl, trivial⟩, (inR_i64 (by omega) (by omega)), trivial⟩ ?_
    refine xe_then ?_
    refine x_seq ?_
    refine x_seq ?_
    refine x_reg [] [0, 1, 3, 8, 9, 10, 11] [8, 10] [.ptr false [Sv t.Label, slFeat false t.Base, slFeat false t.Feats, I t.Count], slFeat false sample, I share, .ref 8 0, slPair true v_1, .ref 10 0, I 0] [some (.box [Sv (⟨#[]⟩ : ByteArray), nilA, nilA, I 0]), some (.box [Sv t.Label, slFeat true t.Base, nilA, I (t.Count + 1)])] [] (by kernel_rfl) trivial ?_
    refine xe_then ?_
    refine x_block ?_
    refine x_nilC 10 2 802 3 (fun _ => []) rfl (by kernel_rfl) ?_
    refine x_weak [] (T := [(0, .ptr false [Sv t.Label, slFeat false t.Base, slFeat false t.Feats, I t.Count]), (1, slFeat false sample), (3, I share), (8, .ref 8 0), (9, slPair true v_1), (10, .ref 10 0), (11, I 0)]) (O := [(8, .box [Sv (⟨#[]⟩ : ByteArray), nilA, nilA, I 0]), (10, .box [Sv t.Label, slFeat true t.Base, .arr 802, I (t.Count + 1)]), (802, .arr 3 (([] : List Feat).length) (fFeat ([] : List Feat)))]) rfl (⟨.inl rfl, .inl rfl, .inl rfl, .inl rfl, .inl rfl, .inl rfl, .inl rfl, trivial⟩) (⟨.inl rfl, .inl rfl, .inr ⟨rfl, (by first | rfl | (simp; done) | (simp; omega) | omega), fun i_ hi_ => absurd hi_ (Nat.not_lt_zero _)⟩, trivial⟩) ?_
    refine x_loop (X := Int × (List Feat)) (fun x => mkS [(0, .ptr false [Sv t.Label, slFeat false t.Base, slFeat false t.Feats, I t.Count]), (1, slFeat false sample), (3, I share), (8, .ref 8 0), (9, slPair true v_1), (10, .ref 10 0), (11, I x.1)] [(8, .box [Sv (⟨#[]⟩ : ByteArray), nilA, nilA, I 0]), (10, .box [Sv t.Label, slFeat true t.Base, .arr 802, I (t.Count + 1)]), (802, .arr 3 x.2.length (fFeat x.2))]) (fun x => (0 ≤ x.1 ∧ x.1 ≤ (t.Feats.length : Int)) ∧ (x.2 = adpN t sample band share x.1.toNat) ∧ True) (fun x => ((t.Feats.length : Int) - x.1).toNat) (0, ([] : List Feat)) rfl (show (0 ≤ (0 : Int) ∧ (0 : Int) ≤ (t.Feats.length : Int)) ∧ (([] : List Feat) = adpN t sample band share (0 : Int).toNat) ∧ True from ⟨(by omega), (by rfl), trivial⟩) (fun x hI => ?_)
    obtain ⟨i, fs⟩ := x
    obtain ⟨hi0, hfs, _⟩ : (0 ≤ i ∧ i ≤ (t.Feats.length : Int)) ∧ (fs = adpN t sample band share i.toNat) ∧ True := hI
    show XW _ _ _ _ (mkS [(0, .ptr false [Sv t.Label, slFeat false t.Base, slFeat false t.Feats, I t.Count]), (1, slFeat false sample), (3, I share), (8, .ref 8 0), (9, slPair true v_1), (10, .ref 10 0), (11, I i)] [(8, .box [Sv (⟨#[]⟩ : ByteArray), nilA, nilA, I 0]), (10, .box [Sv t.Label, slFeat true t.Base, .arr 802, I (t.Count + 1)]), (802, .arr 3 fs.length (fFeat fs))]) _ _
    refine x_seq ?_
    refine x_seq ?_
    by_cases h1 : i < (t.Feats.length : Int)
    ·have hi : i.toNat < t.Feats.length := by omega
     have hix : ((i.toNat : Nat) : Int) = i := by omega
     have hfo := okF_iff.1 (okFeats_at oka hi)
     have hbo := okF_iff.1 (okFeats_at okb (show i.toNat < t.Base.length by omega))
     have hfl : fs.length = i.toNat := by rw [hfs, adpN_len]
     refine x_reg [(6, .dec true)] [0, 1, 3, 8, 9, 10, 11, 46] [8, 10, 802] [.ptr false [Sv t.Label, slFeat false t.Base, slFeat false t.Feats, I t.Count], slFeat false sample, I share, .ref 8 0, slPair true v_1, .ref 10 0, I i, Bv true] [some (.box [Sv (⟨#[]⟩ : ByteArray), nilA, nilA, I 0]), some (.box [Sv t.Label, slFeat true t.Base, .arr 802, I (t.Count + 1)]), some (.arr 3 fs.length (fFeat fs))] [i < (t.Feats.length : Int)] (by kernel_rfl) ⟨h1, trivial⟩ ?_
     refine xe_then ?_
     refine x_true rfl ?_
     refine x_skip ?_
     refine xe_then ?_
     refine x_seq ?_
     refine x_block ?_
     refine x_seq ?_
     refine x_reg [(0, .new 49)] [0, 1, 3, 8, 9, 10, 11, 12] [8, 10, 49, 802] [.ptr false [Sv t.Label, slFeat false t.Base, slFeat false t.Feats, I t.Count], slFeat false sample, I share, .ref 8 0, slPair true v_1, .ref 10 0, I i, .arr 49] [some (.box [Sv (⟨#[]⟩ : ByteArray), nilA, nilA, I 0]), some (.box [Sv t.Label, slFeat true t.Base, .arr 802, I (t.Count + 1)]), some (.arr 1 0 (litF [] 1)), some (.arr 3 fs.length (fFeat fs))] [] (by kernel_rfl) trivial ?_
     refine xe_then ?_
     refine x_seq ?_
     refine x_reg [(0, .new 50)] [0, 1, 3, 8, 9, 10, 11, 12, 13] [8, 10, 49, 50, 802] [.ptr false [Sv t.Label, slFeat false t.Base, slFeat false t.Feats, I t.Count], slFeat false sample, I share, .ref 8 0, slPair true v_1, .ref 10 0, I i, .arr 49, .arr 50] [some (.box [Sv (⟨#[]⟩ : ByteArray), nilA, nilA, I 0]), some (.box [Sv t.Label, slFeat true t.Base, .arr 802, I (t.Count + 1)]), some (.arr 1 0 (litF [] 1)), some (.arr 1 0 (litF [] 1)), some (.arr 3 fs.length (fFeat fs))] [] (by kernel_rfl) trivial ?_
     refine xe_then ?_
     refine x_seq ?_
     refine x_seq ?_
     refine x_reg [] [0, 1, 3, 8, 9, 10, 11, 12, 13, 14] [8, 10, 49, 50, 802] [.ptr false [Sv t.Label, slFeat false t.Base, slFeat false t.Feats, I t.Count], slFeat false sample, I share, .ref 8 0, slPair true v_1, .ref 10 0, I i, .arr 49, .arr 50, I 0] [some (.box [Sv (⟨#[]⟩ : ByteArray), nilA, nilA, I 0]), some (.box [Sv t.Label, slFeat true t.Base, .arr 802, I (t.Count + 1)]), some (.arr 1 0 (litF [] 1)), some (.arr 1 0 (litF [] 1)), some (.arr 3 fs.length (fFeat fs))] [] (by kernel_rfl) trivial ?_
     refine xe_then ?_
     refine x_block ?_
     refine x_weak [] (T := [(0, .ptr false [Sv t.Label, slFeat false t.Base, slFeat false t.Feats, I t.Count]), (1, slFeat false sample), (3, I share), (8, .ref 8 0), (9, slPair true v_1), (10, .ref 10 0), (11, I i), (12, .arr 49), (13, .arr 50), (14, I 0)]) (O := [(8, .box [Sv (⟨#[]⟩ : ByteArray), nilA, nilA, I 0]), (10, .box [Sv t.Label, slFeat true t.Base, .arr 802, I (t.Count + 1)]), (49, .arr 1 (([] : List Int).length) (fI ([] : List Int))), (50, .arr 1 (([] : List Int).length) (fI ([] : List Int))), (802, .arr 3 fs.length (fFeat fs))]) rfl (⟨.inl rfl, .inl rfl, .inl rfl, .inl rfl, .inl rfl, .inl rfl, .inl rfl, .inl rfl, .inl rfl, .inl rfl, trivial⟩) (⟨.inl rfl, .inl rfl, .inr ⟨rfl, (by first | rfl | (simp; done) | (simp; omega) | omega), fun i_ hi_ => absurd hi_ (Nat.not_lt_zero _)⟩, .inr ⟨rfl, (by first | rfl | (simp; done) | (simp; omega) | omega), fun i_ hi_ => absurd hi_ (Nat.not_lt_zero _)⟩, .inl rfl, trivial⟩) ?_
     refine x_loop (X := (List Int) × (List Int) × Int) (fun x => mkS [(0, .ptr false [Sv t.Label, slFeat false t.Base, slFeat false t.Feats, I t.Count]), (1, slFeat false sample), (3, I share), (8, .ref 8 0), (9, slPair true v_1), (10, .ref 10 0), (11, I i), (12, .arr 49), (13, .arr 50), (14, I x.2.2)] [(8, .box [Sv (⟨#[]⟩ : ByteArray), nilA, nilA, I 0]), (10, .box [Sv t.Label, slFeat true t.Base, .arr 802, I (t.Count + 1)]), (49, .arr 1 x.1.length (fI x.1)), (50, .arr 1 x.2.1.length (fI x.2.1)), (802, .arr 3 fs.length (fFeat fs))]) (fun x => (0 ≤ x.2.2 ∧ x.2.2 ≤ (v_1.length : Int)) ∧ (x.1 = xsF Feat.X (v_1.take x.2.2.toNat) sample i) ∧ (x.2.1 = xsF Feat.Y (v_1.take x.2.2.toNat) sample i) ∧ True) (fun x => ((v_1.length : Int) - x.2.2).toNat) (([] : List Int), ([] : List Int), 0) rfl (show (0 ≤ (0 : Int) ∧ (0 : Int) ≤ (v_1.length : Int)) ∧ (([] : List Int) = xsF Feat.X (v_1.take (0 : Int).toNat) sample i) ∧ (([] : List Int) = xsF Feat.Y (v_1.take (0 : Int).toNat) sample i) ∧ True from ⟨(by omega), (by rfl), (by rfl), trivial⟩) (fun x hI => ?_)
     obtain ⟨xs, ys, p⟩ := x
     obtain ⟨hp0, hx0, hy0, _⟩ : (0 ≤ p ∧ p ≤ (v_1.length : Int)) ∧ (xs = xsF Feat.X (v_1.take p.toNat) sample i) ∧ (ys = xsF Feat.Y (v_1.take p.toNat) sample i) ∧ True := hI
     show XW _ _ _ _ (mkS [(0, .ptr false [Sv t.Label, slFeat false t.Base, slFeat false t.Feats, I t.Count]), (1, slFeat false sample), (3, I share), (8, .ref 8 0), (9, slPair true v_1), (10, .ref 10 0), (11, I i), (12, .arr 49), (13, .arr 50), (14, I p)] [(8, .box [Sv (⟨#[]⟩ : ByteArray), nilA, nilA, I 0]), (10, .box [Sv t.Label, slFeat true t.Base, .arr 802, I (t.Count + 1)]), (49, .arr 1 xs.length (fI xs)), (50, .arr 1 ys.length (fI ys)), (802, .arr 3 fs.length (fFeat fs))]) _ _
     refine x_seq ?_
     refine x_seq ?_
     by_cases h2 : p < (v_1.length : Int)
     ·have hp : p.toNat < v_1.length := by omega
      have hpp := hpa p.toNat hp
      have hxl := xsF_le Feat.X (v_1.take p.toNat) sample i
      have hyl := xsF_le Feat.Y (v_1.take p.toNat) sample i
      rw [← hx0, List.length_take] at hxl
      rw [← hy0, List.length_take] at hyl
      have hs1 := okF_iff.1 (okFeats_at oks (show (at_ v_1 p.toNat).J.toNat < sample.length by omega))
      refine x_reg [(3, .dec true)] [0, 1, 3, 8, 9, 10, 11, 12, 13, 14, 54] [8, 10, 49, 50, 802] [.ptr false [Sv t.Label, slFeat false t.Base, slFeat false t.Feats, I t.Count], slFeat false sample, I share, .ref 8 0, slPair true v_1, .ref 10 0, I i, .arr 49, .arr 50, I p, Bv true] [some (.box [Sv (⟨#[]⟩ : ByteArray), nilA, nilA, I 0]), some (.box [Sv t.Label, slFeat true t.Base, .arr 802, I (t.Count + 1)]), some (.arr 1 xs.length (fI xs)), some (.arr 1 ys.length (fI ys)), some (.arr 3 fs.length (fFeat fs))] [p < (v_1.length : Int)] (by kernel_rfl) ⟨h2, trivial⟩ ?_
      refine xe_then ?_
      refine x_true rfl ?_
      refine x_skip ?_
      refine xe_then ?_
      refine x_seq ?_
      refine x_block ?_
      refine x_seq ?_
      by_cases h3 : ((at_ v_1 p.toNat).I) = i
      ·refine x_reg [(6, .dec true)] [0, 1, 3, 8, 9, 10, 11, 12, 13, 14, 63] [8, 10, 49, 50, 802] [.ptr false [Sv t.Label, slFeat false t.Base, slFeat false t.Feats, I t.Count], slFeat false sample, I share, .ref 8 0, slPair true v_1, .ref 10 0, I i, .arr 49, .arr 50, I p, Bv true] [some (.box [Sv (⟨#[]⟩ : ByteArray), nilA, nilA, I 0]), some (.box [Sv t.Label, slFeat true t.Base, .arr 802, I (t.Count + 1)]), some (.arr 1 xs.length (fI xs)), some (.arr 1 ys.length (fI ys)), some (.arr 3 fs.length (fFeat fs))] [(0 : Int) ≤ p ∧ p < (v_1.length : Int), ((at_ v_1 p.toNat).I) = i] (by kernel_rfl) ⟨⟨(by omega), (by omega)⟩, h3, trivial⟩ ?_
       refine xe_then ?_
       refine x_true rfl ?_
       refine x_seq ?_
       refine x_reg [(10, .new 74), (11, .new 75)] [0, 1, 3, 8, 9, 10, 11, 12, 13, 14] [8, 10, 50, 75, 802] [.ptr false [Sv t.Label, slFeat false t.Base, slFeat false t.Feats, I t.Count], slFeat false sample, I share, .ref 8 0, slPair true v_1, .ref 10 0, I i, .arr 75, .arr 50, I p] [some (.box [Sv (⟨#[]⟩ : ByteArray), nilA, nilA, I 0]), some (.box [Sv t.Label, slFeat true t.Base, .arr 802, I (t.Count + 1)]), some (.arr 1 ys.length (fI ys)), some (.arr 1 (xs.length + 1) (catF xs.length (fI xs) (litF [I ((at_ sample (((at_ v_1 p.toNat).J).toNat)).X)] 1))), some (.arr 3 fs.length (fFeat fs))] [(0 : Int) ≤ p ∧ p < (v_1.length : Int), (0 : Int) ≤ ((at_ v_1 p.toNat).J) ∧ ((at_ v_1 p.toNat).J) < (sample.length : Int), (xs.length + 1) * 8 ≤ 140737488355328] (by kernel_rfl) ⟨⟨(by omega), (by omega)⟩, ⟨(by omega), (by omega)⟩, (by omega), trivial⟩ ?_
       refine xe_then ?_
       refine x_reg [(10, .new 86), (11, .new 87)] [0, 1, 3, 8, 9, 10, 11, 12, 13, 14] [8, 10, 75, 87, 802] [.ptr false [Sv t.Label, slFeat false t.Base, slFeat false t.Feats, I t.Count], slFeat false sample, I share, .ref 8 0, slPair true v_1, .ref 10 0, I i, .arr 75, .arr 87, I p] [some (.box [Sv (⟨#[]⟩ : ByteArray), nilA, nilA, I 0]), some (.box [Sv t.Label, slFeat true t.Base, .arr 802, I (t.Count + 1)]), some (.arr 1 (xs.length + 1) (catF xs.length (fI xs) (litF [I ((at_ sample (((at_ v_1 p.toNat).J).toNat)).X)] 1))), some (.arr 1 (ys.length + 1) (catF ys.length (fI ys) (litF [I ((at_ sample (((at_ v_1 p.toNat).J).toNat)).Y)] 1))), some (.arr 3 fs.length (fFeat fs))] [(0 : Int) ≤ p ∧ p < (v_1.length : Int), (0 : Int) ≤ ((at_ v_1 p.toNat).J) ∧ ((at_ v_1 p.toNat).J) < (sample.length : Int), (ys.length + 1) * 8 ≤ 140737488355328] (by kernel_rfl) ⟨⟨(by omega), (by omega)⟩, ⟨(by omega), (by omega)⟩, (by omega), trivial⟩ ?_
       refine xe_block 3 ?_
       refine xe_then ?_
       refine x_reg [] [0, 1, 3, 8, 9, 10, 11, 12, 13, 14] [8, 10, 75, 87, 802] [.ptr false [Sv t.Label, slFeat false t.Base, slFeat false t.Feats, I t.Count], slFeat false sample, I share, .ref 8 0, slPair true v_1, .ref 10 0, I i, .arr 75, .arr 87, I (p + 1)] [some (.box [Sv (⟨#[]⟩ : ByteArray), nilA, nilA, I 0]), some (.box [Sv t.Label, slFeat true t.Base, .arr 802, I (t.Count + 1)]), some (.arr 1 (xs.length + 1) (catF xs.length (fI xs) (litF [I ((at_ sample (((at_ v_1 p.toNat).J).toNat)).X)] 1))), some (.arr 1 (ys.length + 1) (catF ys.length (fI ys) (litF [I ((at_ sample (((at_ v_1 p.toNat).J).toNat)).Y)] 1))), some (.arr 3 fs.length (fFeat fs))] [inR .i64 (p + 1)] (by kernel_rfl) ⟨(inR_i64 (by omega) (by omega)), trivial⟩ ?_
       refine xe_weak [(49, 75), (50, 87)] (T := [(0, .ptr false [Sv t.Label, slFeat false t.Base, slFeat false t.Feats, I t.Count]), (1, slFeat false sample), (3, I share), (8, .ref 8 0), (9, slPair true v_1), (10, .ref 10 0), (11, I i), (12, .arr 49), (13, .arr 50), (14, I (p + 1))]) (O := [(8, .box [Sv (⟨#[]⟩ : ByteArray), nilA, nilA, I 0]), (10, .box [Sv t.Label, slFeat true t.Base, .arr 802, I (t.Count + 1)]), (49, .arr 1 ((xs ++ [(at_ sample (((at_ v_1 p.toNat).J).toNat)).X]).length) (fI (xs ++ [(at_ sample (((at_ v_1 p.toNat).J).toNat)).X]))), (50, .arr 1 ((ys ++ [(at_ sample (((at_ v_1 p.toNat).J).toNat)).Y]).length) (fI (ys ++ [(at_ sample (((at_ v_1 p.toNat).J).toNat)).Y]))), (802, .arr 3 fs.length (fFeat fs))]) rfl (⟨.inl rfl, .inl rfl, .inl rfl, .inl rfl, .inl rfl, .inl rfl, .inl rfl, .inl rfl, .inl rfl, .inl rfl, trivial⟩) (⟨.inl rfl, .inl rfl, .inr ⟨rfl, (by first | rfl | (simp; done) | (simp; omega) | omega), fun i_ hi_ => .inl (cat_snoc (enc := cI) (xs := xs) rfl i_ hi_)⟩, .inr ⟨rfl, (by first | rfl | (simp; done) | (simp; omega) | omega), fun i_ hi_ => .inl (cat_snoc (enc := cI) (xs := ys) rfl i_ hi_)⟩, .inl rfl, trivial⟩) (xe_again ((xs ++ [(at_ sample (((at_ v_1 p.toNat).J).toNat)).X]), (ys ++ [(at_ sample (((at_ v_1 p.toNat).J).toNat)).Y]), (p + 1)) rfl (show (0 ≤ (p + 1) ∧ (p + 1) ≤ (v_1.length : Int)) ∧ ((xs ++ [(at_ sample (((at_ v_1 p.toNat).J).toNat)).X]) = xsF Feat.X (v_1.take (p + 1).toNat) sample i) ∧ ((ys ++ [(at_ sample (((at_ v_1 p.toNat).J).toNat)).Y]) = xsF Feat.Y (v_1.take (p + 1).toNat) sample i) ∧ True from ⟨(by omega), (by rw [show (p + 1).toNat = p.toNat + 1 from by omega]; first | (rw [xsF_yes hp (by assumption), ← hx0]; done) | (rw [xsF_no hp (by assumption)]; exact hx0)), (by rw [show (p + 1).toNat = p.toNat + 1 from by omega]; first | (rw [xsF_yes hp (by assumption), ← hy0]; done) | (rw [xsF_no hp (by assumption)]; exact hy0)), trivial⟩) (by first | (show (((v_1.length : Int) - (p + 1)).toNat : Nat) < ((v_1.length : Int) - p).toNat; omega) | (dsimp only; omega)))
      ·refine x_reg [(6, .dec false)] [0, 1, 3, 8, 9, 10, 11, 12, 13, 14, 63] [8, 10, 49, 50, 802] [.ptr false [Sv t.Label, slFeat false t.Base, slFeat false t.Feats, I t.Count], slFeat false sample, I share, .ref 8 0, slPair true v_1, .ref 10 0, I i, .arr 49, .arr 50, I p, Bv false] [some (.box [Sv (⟨#[]⟩ : ByteArray), nilA, nilA, I 0]), some (.box [Sv t.Label, slFeat true t.Base, .arr 802, I (t.Count + 1)]), some (.arr 1 xs.length (fI xs)), some (.arr 1 ys.length (fI ys)), some (.arr 3 fs.length (fFeat fs))] [(0 : Int) ≤ p ∧ p < (v_1.length : Int), ¬ (((at_ v_1 p.toNat).I) = i)] (by kernel_rfl) ⟨⟨(by omega), (by omega)⟩, h3, trivial⟩ ?_
       refine xe_then ?_
       refine x_false rfl ?_
       refine x_skip ?_
       refine xe_block 3 ?_
       refine xe_then ?_
       refine x_reg [] [0, 1, 3, 8, 9, 10, 11, 12, 13, 14] [8, 10, 49, 50, 802] [.ptr false [Sv t.Label, slFeat false t.Base, slFeat false t.Feats, I t.Count], slFeat false sample, I share, .ref 8 0, slPair true v_1, .ref 10 0, I i, .arr 49, .arr 50, I (p + 1)] [some (.box [Sv (⟨#[]⟩ : ByteArray), nilA, nilA, I 0]), some (.box [Sv t.Label, slFeat true t.Base, .arr 802, I (t.Count + 1)]), some (.arr 1 xs.length (fI xs)), some (.arr 1 ys.length (fI ys)), some (.arr 3 fs.length (fFeat fs))] [inR .i64 (p + 1)] (by kernel_rfl) ⟨(inR_i64 (by omega) (by omega)), trivial⟩ ?_
       exact xe_again (xs, ys, (p + 1)) rfl (show (0 ≤ (p + 1) ∧ (p + 1) ≤ (v_1.length : Int)) ∧ (xs = xsF Feat.X (v_1.take (p + 1).toNat) sample i) ∧ (ys = xsF Feat.Y (v_1.take (p + 1).toNat) sample i) ∧ True from ⟨(by omega), (by rw [show (p + 1).toNat = p.toNat + 1 from by omega]; first | (rw [xsF_yes hp (by assumption), ← hx0]; done) | (rw [xsF_no hp (by assumption)]; exact hx0)), (by rw [show (p + 1).toNat = p.toNat + 1 from by omega]; first | (rw [xsF_yes hp (by assumption), ← hy0]; done) | (rw [xsF_no hp (by assumption)]; exact hy0)), trivial⟩) (by first | (show (((v_1.length : Int) - (p + 1)).toNat : Nat) < ((v_1.length : Int) - p).toNat; omega) | (dsimp only; omega))
     ·have hpe : p.toNat = v_1.length := by omega
      have hxe : xs = xsF Feat.X v_1 sample i := by rw [hx0, hpe, List.take_of_length_le (Nat.le_refl _)]
      have hye : ys = xsF Feat.Y v_1 sample i := by rw [hy0, hpe, List.take_of_length_le (Nat.le_refl _)]
      have hxq := hxp Feat.X i.toNat hi
      have hyq := hxp Feat.Y i.toNat hi
      rw [hix, ← hxe] at hxq
      rw [hix, ← hye] at hyq
      refine x_reg [(3, .dec false)] [0, 1, 3, 8, 9, 10, 11, 12, 13, 14, 54] [8, 10, 49, 50, 802] [.ptr false [Sv t.Label, slFeat false t.Base, slFeat false t.Feats, I t.Count], slFeat false sample, I share, .ref 8 0, slPair true v_1, .ref 10 0, I i, .arr 49, .arr 50, I p, Bv false] [some (.box [Sv (⟨#[]⟩ : ByteArray), nilA, nilA, I 0]), some (.box [Sv t.Label, slFeat true t.Base, .arr 802, I (t.Count + 1)]), some (.arr 1 xs.length (fI xs)), some (.arr 1 ys.length (fI ys)), some (.arr 3 fs.length (fFeat fs))] [¬ (p < (v_1.length : Int))] (by kernel_rfl) ⟨h2, trivial⟩ ?_
      refine xe_then ?_
      refine x_false rfl ?_
      refine x_exit ?_
      refine xe_exit_then ?_
      refine xe_loop_exit ?_
      refine xe_exit_same ?_
      refine xe_then ?_
      refine x_seq ?_
      refine x_reg [(7, .new 15)] [0, 1, 3, 8, 9, 10, 11, 12, 13, 15] [8, 10, 15, 49, 50, 802] [.ptr false [Sv t.Label, slFeat false t.Base, slFeat false t.Feats, I t.Count], slFeat false sample, I share, .ref 8 0, slPair true v_1, .ref 10 0, I i, .arr 49, .arr 50, .ref 15 0] [some (.box [Sv (⟨#[]⟩ : ByteArray), nilA, nilA, I 0]), some (.box [Sv t.Label, slFeat true t.Base, .arr 802, I (t.Count + 1)]), some (bxFeat (at_ t.Feats i.toNat)), some (.arr 1 xs.length (fI xs)), some (.arr 1 ys.length (fI ys)), some (.arr 3 fs.length (fFeat fs))] [(0 : Int) ≤ i ∧ i < (t.Feats.length : Int)] (by kernel_rfl) ⟨⟨(by omega), (by omega)⟩, trivial⟩ ?_
      refine xe_then ?_
      refine x_seq ?_
      obtain ⟨v_2, hx2_0, hc2⟩ := l24Median_ok xs (by omega)
      have hMX : medI (xsF Feat.X v_1 sample i) = v_2 := by rw [← hxe]; exact hx2_0.symm
      have hmX2 : 0 ≤ v_2 ∧ v_2 ≤ 255 := by have q := hmX i.toNat hi; rw [hix, ← hxe] at q; rw [hx2_0]; exact q
      refine x_reg [(11, .call [(false, slI false xs)] true (I v_2)), (13, .call [(true, I ((at_ t.Feats i.toNat).X)), (true, I ((at_ t.Base i.toNat).X)), (true, I v_2), (true, I share)] true (I (towI ((at_ t.Feats i.toNat).X) v_2 ((at_ t.Base i.toNat).X) share)))] [0, 1, 3, 8, 9, 10, 11, 13, 15, 16] [8, 10, 15, 50, 802] [.ptr false [Sv t.Label, slFeat false t.Base, slFeat false t.Feats, I t.Count], slFeat false sample, I share, .ref 8 0, slPair true v_1, .ref 10 0, I i, .arr 50, .ref 15 0, I (towI ((at_ t.Feats i.toNat).X) v_2 ((at_ t.Base i.toNat).X) share)] [some (.box [Sv (⟨#[]⟩ : ByteArray), nilA, nilA, I 0]), some (.box [Sv t.Label, slFeat true t.Base, .arr 802, I (t.Count + 1)]), some (bxFeat (at_ t.Feats i.toNat)), some (.arr 1 ys.length (fI ys)), some (.arr 3 fs.length (fFeat fs))] [(0 : Int) ≤ i ∧ i < (t.Base.length : Int), Con Try.prog 53 [slI false xs] true (I v_2) ∧ ((false = true → true = true) ∧ 1 = 1 ∧ xs.length = xs.length ∧ ∀ i, i < xs.length → (fI xs) i = (fI xs) i ∨ (AV.idsL ((fI xs) i) = [] ∧ leL (fun _ => none) false ((fI xs) i) ((fI xs) i))) ∧ True, Con Try.prog 52 [I ((at_ t.Feats i.toNat).X), I ((at_ t.Base i.toNat).X), I v_2, I share] true (I (towI ((at_ t.Feats i.toNat).X) v_2 ((at_ t.Base i.toNat).X) share)) ∧ ((I ((at_ t.Feats i.toNat).X) : AV) = I ((at_ t.Feats i.toNat).X)) ∧ ((I ((at_ t.Base i.toNat).X) : AV) = I ((at_ t.Base i.toNat).X)) ∧ ((I v_2 : AV) = I v_2) ∧ ((I share : AV) = I share) ∧ True] (by kernel_rfl) ⟨⟨(by omega), (by omega)⟩, ⟨hc2, ⟨(fun h => by cases h), rfl, rfl, fun i _ => .inl rfl⟩, trivial⟩, ⟨(l24Move_ok ((at_ t.Feats i.toNat).X) ((at_ t.Base i.toNat).X) v_2 share (by omega) (by omega) (by omega) (by omega)), rfl, rfl, rfl, rfl, trivial⟩, trivial⟩ ?_
      refine xe_then ?_
      refine x_seq ?_
      obtain ⟨v_3, hx3_0, hc3⟩ := l24Median_ok ys (by omega)
      have hMY : medI (xsF Feat.Y v_1 sample i) = v_3 := by rw [← hye]; exact hx3_0.symm
      have hmY2 : 0 ≤ v_3 ∧ v_3 ≤ 255 := by have q := hmY i.toNat hi; rw [hix, ← hye] at q; rw [hx3_0]; exact q
      refine x_reg [(11, .call [(false, slI false ys)] true (I v_3)), (13, .call [(true, I ((at_ t.Feats i.toNat).Y)), (true, I ((at_ t.Base i.toNat).Y)), (true, I v_3), (true, I share)] true (I (towI ((at_ t.Feats i.toNat).Y) v_3 ((at_ t.Base i.toNat).Y) share)))] [0, 1, 3, 8, 9, 10, 11, 15, 16, 17] [8, 10, 15, 802] [.ptr false [Sv t.Label, slFeat false t.Base, slFeat false t.Feats, I t.Count], slFeat false sample, I share, .ref 8 0, slPair true v_1, .ref 10 0, I i, .ref 15 0, I (towI ((at_ t.Feats i.toNat).X) v_2 ((at_ t.Base i.toNat).X) share), I (towI ((at_ t.Feats i.toNat).Y) v_3 ((at_ t.Base i.toNat).Y) share)] [some (.box [Sv (⟨#[]⟩ : ByteArray), nilA, nilA, I 0]), some (.box [Sv t.Label, slFeat true t.Base, .arr 802, I (t.Count + 1)]), some (bxFeat (at_ t.Feats i.toNat)), some (.arr 3 fs.length (fFeat fs))] [(0 : Int) ≤ i ∧ i < (t.Base.length : Int), Con Try.prog 53 [slI false ys] true (I v_3) ∧ ((false = true → true = true) ∧ 1 = 1 ∧ ys.length = ys.length ∧ ∀ i, i < ys.length → (fI ys) i = (fI ys) i ∨ (AV.idsL ((fI ys) i) = [] ∧ leL (fun _ => none) false ((fI ys) i) ((fI ys) i))) ∧ True, Con Try.prog 52 [I ((at_ t.Feats i.toNat).Y), I ((at_ t.Base i.toNat).Y), I v_3, I share] true (I (towI ((at_ t.Feats i.toNat).Y) v_3 ((at_ t.Base i.toNat).Y) share)) ∧ ((I ((at_ t.Feats i.toNat).Y) : AV) = I ((at_ t.Feats i.toNat).Y)) ∧ ((I ((at_ t.Base i.toNat).Y) : AV) = I ((at_ t.Base i.toNat).Y)) ∧ ((I v_3 : AV) = I v_3) ∧ ((I share : AV) = I share) ∧ True] (by kernel_rfl) ⟨⟨(by omega), (by omega)⟩, ⟨hc3, ⟨(fun h => by cases h), rfl, rfl, fun i _ => .inl rfl⟩, trivial⟩, ⟨(l24Move_ok ((at_ t.Feats i.toNat).Y) ((at_ t.Base i.toNat).Y) v_3 share (by omega) (by omega) (by omega) (by omega)), rfl, rfl, rfl, rfl, trivial⟩, trivial⟩ ?_
      refine xe_then ?_
      refine x_reg [(7, .new 130), (8, .new 131)] [0, 1, 3, 8, 9, 10, 11] [8, 10, 131] [.ptr false [Sv t.Label, slFeat false t.Base, slFeat false t.Feats, I t.Count], slFeat false sample, I share, .ref 8 0, slPair true v_1, .ref 10 0, I i] [some (.box [Sv (⟨#[]⟩ : ByteArray), nilA, nilA, I 0]), some (.box [Sv t.Label, slFeat true t.Base, .arr 131, I (t.Count + 1)]), some (.arr 3 (fs.length + 1) (catF fs.length (fFeat fs) (litF [I (towI ((at_ t.Feats i.toNat).X) v_2 ((at_ t.Base i.toNat).X) share), I (towI ((at_ t.Feats i.toNat).Y) v_3 ((at_ t.Base i.toNat).Y) share), I ((at_ t.Feats i.toNat).D)] 3)))] [(fs.length + 1) * 24 ≤ 140737488355328] (by kernel_rfl) ⟨(by omega), trivial⟩ ?_
      refine xe_block 1 ?_
      refine xe_then ?_
      refine x_reg [] [0, 1, 3, 8, 9, 10, 11] [8, 10, 131] [.ptr false [Sv t.Label, slFeat false t.Base, slFeat false t.Feats, I t.Count], slFeat false sample, I share, .ref 8 0, slPair true v_1, .ref 10 0, I (i + 1)] [some (.box [Sv (⟨#[]⟩ : ByteArray), nilA, nilA, I 0]), some (.box [Sv t.Label, slFeat true t.Base, .arr 131, I (t.Count + 1)]), some (.arr 3 (fs.length + 1) (catF fs.length (fFeat fs) (litF [I (towI ((at_ t.Feats i.toNat).X) v_2 ((at_ t.Base i.toNat).X) share), I (towI ((at_ t.Feats i.toNat).Y) v_3 ((at_ t.Base i.toNat).Y) share), I ((at_ t.Feats i.toNat).D)] 3)))] [inR .i64 (i + 1)] (by kernel_rfl) ⟨(inR_i64 (by omega) (by omega)), trivial⟩ ?_
      refine xe_weak [(802, 131)] (T := [(0, .ptr false [Sv t.Label, slFeat false t.Base, slFeat false t.Feats, I t.Count]), (1, slFeat false sample), (3, I share), (8, .ref 8 0), (9, slPair true v_1), (10, .ref 10 0), (11, I (i + 1))]) (O := [(8, .box [Sv (⟨#[]⟩ : ByteArray), nilA, nilA, I 0]), (10, .box [Sv t.Label, slFeat true t.Base, .arr 802, I (t.Count + 1)]), (802, .arr 3 ((fs ++ [(Feat.mk (towI ((at_ t.Feats i.toNat).X) v_2 ((at_ t.Base i.toNat).X) share) (towI ((at_ t.Feats i.toNat).Y) v_3 ((at_ t.Base i.toNat).Y) share) ((at_ t.Feats i.toNat).D))]).length) (fFeat (fs ++ [(Feat.mk (towI ((at_ t.Feats i.toNat).X) v_2 ((at_ t.Base i.toNat).X) share) (towI ((at_ t.Feats i.toNat).Y) v_3 ((at_ t.Base i.toNat).Y) share) ((at_ t.Feats i.toNat).D))])))]) rfl (⟨.inl rfl, .inl rfl, .inl rfl, .inl rfl, .inl rfl, .inl rfl, .inl rfl, trivial⟩) (⟨.inl rfl, .inl rfl, .inr ⟨rfl, (by first | rfl | (simp; done) | (simp; omega) | omega), fun i_ hi_ => .inl (cat_snoc (enc := cFeat) (xs := fs) rfl i_ hi_)⟩, trivial⟩) (xe_again ((i + 1), (fs ++ [(Feat.mk (towI ((at_ t.Feats i.toNat).X) v_2 ((at_ t.Base i.toNat).X) share) (towI ((at_ t.Feats i.toNat).Y) v_3 ((at_ t.Base i.toNat).Y) share) ((at_ t.Feats i.toNat).D))])) rfl (show (0 ≤ (i + 1) ∧ (i + 1) ≤ (t.Feats.length : Int)) ∧ ((fs ++ [(Feat.mk (towI ((at_ t.Feats i.toNat).X) v_2 ((at_ t.Base i.toNat).X) share) (towI ((at_ t.Feats i.toNat).Y) v_3 ((at_ t.Base i.toNat).Y) share) ((at_ t.Feats i.toNat).D))]) = adpN t sample band share (i + 1).toNat) ∧ True from ⟨(by omega), (by (rw [show (i + 1).toNat = i.toNat + 1 from by omega, hfs]; exact adpN_succ (by rw [had, hix, hMX, hMY]))), trivial⟩) (by first | (show (((t.Feats.length : Int) - (i + 1)).toNat : Nat) < ((t.Feats.length : Int) - i).toNat; omega) | (dsimp only; omega)))
    ·have hie : i.toNat = t.Feats.length := by omega
     refine x_reg [(6, .dec false)] [0, 1, 3, 8, 9, 10, 11, 46] [8, 10, 802] [.ptr false [Sv t.Label, slFeat false t.Base, slFeat false t.Feats, I t.Count], slFeat false sample, I share, .ref 8 0, slPair true v_1, .ref 10 0, I i, Bv false] [some (.box [Sv (⟨#[]⟩ : ByteArray), nilA, nilA, I 0]), some (.box [Sv t.Label, slFeat true t.Base, .arr 802, I (t.Count + 1)]), some (.arr 3 fs.length (fFeat fs))] [¬ (i < (t.Feats.length : Int))] (by kernel_rfl) ⟨h1, trivial⟩ ?_
     refine xe_then ?_
     refine x_false rfl ?_
     refine x_exit ?_
     refine xe_exit_then ?_
     refine xe_loop_exit ?_
     refine xe_exit_same ?_
     refine xe_then ?_
     refine x_seq ?_
     refine x_reg [] [8] [8, 802] [.ref 8 0] [some (.box [Sv t.Label, slFeat true t.Base, .arr 802, I (t.Count + 1)]), some (.arr 3 fs.length (fFeat fs))] [] (by kernel_rfl) trivial ?_
     refine xe_then ?_
     refine x_ret ?_
     refine xe_end (Trained.mk t.Label t.Base fs (t.Count + 1)) (show ((Trained.mk t.Label t.Base fs (t.Count + 1)) = adpT t sample band share) ∧ (True) from ⟨(by (unfold adpT; rw [hfs, hie])), trivial⟩) (trivial) (.agg [Sv t.Label, slFeat true t.Base, .arr 802, I (t.Count + 1)]) (by kernel_rfl) (.inr ⟨rfl, ⟨⟨(fun _ => rfl), rfl, rfl, fun i _ => .inl rfl⟩, ⟨⟨(fun _ => rfl), rfl, rfl, fun i _ => .inl rfl⟩, ⟨rfl, rfl⟩⟩⟩⟩) (fun _ => rfl) (fun _ => (by simp [tagged, taggedL, tagFeat]))
  obtain ⟨v, ⟨hh0, _⟩, hc⟩ := hh
  exact ⟨v, hh0, hc⟩


theorem stR_len (t : Template) : (stR t).1.Base.length ≤ 72 ∧ (stR t).1.Feats.length ≤ 72 := by
  cases h : okTm t with
  | true => rw [stR_yes h]; exact ⟨okTm_len h, okTm_len h⟩
  | false => rw [stR_no h]; exact ⟨by decide, by decide⟩

/-- A table with what the first pairs of a path bring to each place. -/
def tabOk (f : Feat → Int) (V : List Pair) (s : List Feat) (k n : Nat) (tb : List (List Int)) : Prop := tb.length = n ∧ ∀ i : Nat, i < n → at_ tb i = xsF f (V.take k) s (i : Int)
theorem tab_nil (f : Feat → Int) (V : List Pair) (s : List Feat) {n m : Nat} (h : m = n) : tabOk f V s 0 n (List.replicate m []) := ⟨by simp [h], fun i hi => by subst h; simp [at_, hi, xsF]⟩
theorem tab_next {f : Feat → Int} {V : List Pair} {s : List Feat} {k n p : Nat} {tb : List (List Int)} {v : Int} (h : tabOk f V s k n tb) (hk : k < V.length) (hp : 0 ≤ (at_ V k).I ∧ (at_ V k).I < (n : Int)) (e : p = (at_ V k).I.toNat) (hv : v = f (at_ s (at_ V k).J.toNat)) :
    tabOk f V s (k + 1) n ((tb.set p []).set p (at_ tb p ++ [v])) := by
  refine ⟨by simp [h.1], fun i hi => ?_⟩
  rw [List.set_set]
  by_cases c : i = p
  · rw [c, at_set_same (by rw [h.1]; omega), h.2 p (by omega), hv]
    exact (xsF_yes hk (by omega)).symm
  · rw [at_set_oth c, h.2 i hi]
    exact (xsF_no hk (by omega)).symm
theorem tab_end {f : Feat → Int} {V : List Pair} {s : List Feat} {k n : Nat} {tb : List (List Int)} (h : tabOk f V s k n tb) (hk : k = V.length) {i : Nat} (hi : i < n) : at_ tb i = xsF f V s (i : Int) := by
  rw [h.2 i hi, hk, List.take_of_length_le (Nat.le_refl _)]
/-- The rows from k on. -/
def tabR (f : Feat → Int) (V : List Pair) (s : List Feat) (k n : Nat) (tb : List (List Int)) : Prop := tb.length = n ∧ ∀ i : Nat, k ≤ i → i < n → at_ tb i = xsF f V s (i : Int)
theorem tabR_start {f : Feat → Int} {V : List Pair} {s : List Feat} {k n : Nat} {tb : List (List Int)} (h : tabOk f V s k n tb) (hk : k = V.length) : tabR f V s 0 n tb := ⟨h.1, fun i _ hi => tab_end h hk hi⟩
theorem tabR_next {f : Feat → Int} {V : List Pair} {s : List Feat} {k n : Nat} {tb : List (List Int)} {ys : List Int} (h : tabR f V s k n tb) : tabR f V s (k + 1) n ((tb.set k []).set k ys) := by
  refine ⟨by simp [h.1], fun i hk hi => ?_⟩
  rw [List.set_set, at_set_oth (by omega)]
  exact h.2 i (by omega) hi
theorem tab_row {f : Feat → Int} {V : List Pair} {s : List Feat} {k n : Nat} {tb : List (List Int)} (h : tabOk f V s k n tb) {i : Nat} (hi : i < n) : (at_ tb i).length ≤ V.length := by
  rw [h.2 i hi]
  refine Nat.le_trans (xsF_le _ _ _ _) ?_
  rw [List.length_take]; omega

def rsR (t : Trained) : Trained × Int := if okTrained' t = true then (⟨t.Label, t.Base, t.Base, 0⟩, 0) else (⟨⟨#[]⟩, [], [], 0⟩, 1)
theorem rsR_yes {t : Trained} (h : okTrained' t = true) : rsR t = (⟨t.Label, t.Base, t.Base, 0⟩, 0) := if_pos h
theorem rsR_no {t : Trained} (h : okTrained' t = false) : rsR t = (⟨⟨#[]⟩, [], [], 0⟩, 1) := by simp [rsR, h]
theorem okTr_len {t : Trained} (h : okTrained' t = true) : t.Base.length ≤ 72 := by
  simp only [okTrained', okFeats, Bool.and_eq_true, decide_eq_true_eq] at h
  omega
theorem rsR_len (t : Trained) : (rsR t).1.Base.length ≤ 72 ∧ (rsR t).1.Feats.length ≤ 72 := by
  cases h : okTrained' t with
  | true => rw [rsR_yes h]; have := okTr_len h; exact ⟨this, this⟩
  | false => rw [rsR_no h]; exact ⟨by decide, by decide⟩

def zT : Trained := ⟨⟨#[]⟩, [], [], 0⟩
def adR (t : Trained) (s : List Feat) (band share : Int) : Trained × Int :=
  if okTrained' t = true ∧ okFeats s 72 = true then
    if inB share 0 100 = true ∧ (inB band 0 72 && decide ((((t.Feats.length : Int) - (s.length : Int)).natAbs : Int) ≤ band)) = true then
      if 100 ≤ t.Count then (zT, 5) else (adpT t s band share, 0)
    else (zT, 2)
  else (zT, 1)
theorem band_of {band n m : Int} (h : (inB band 0 72 && decide (((n - m).natAbs : Int) ≤ band)) = true) (hn : 0 ≤ n) (hm : 0 ≤ m) : (0 ≤ band ∧ band ≤ 72) ∧ inBd band n.toNat m.toNat := by
  simp only [Bool.and_eq_true, decide_eq_true_eq, inB] at h
  refine ⟨h.1, ?_⟩
  unfold inBd; omega
theorem adpT_len (t : Trained) (s : List Feat) (band share : Int) : (adpT t s band share).Feats.length = t.Feats.length := adpN_len t s band share _
theorem adR_len (t : Trained) (s : List Feat) (band share : Int) : (adR t s band share).1.Base.length ≤ 72 ∧ (adR t s band share).1.Feats.length ≤ 72 := by
  unfold adR
  split
  · rename_i h
    have h1 := okTr_len h.1
    have h2 := (okTr_iff.1 h.1).2.2.2.1.1
    split
    · split
      · exact ⟨by decide, by decide⟩
      · refine ⟨h1, ?_⟩
        rw [adpT_len]; omega
    · exact ⟨by decide, by decide⟩
  · exact ⟨by decide, by decide⟩

-- spec.AdaptTrained
theorem specAdaptTrained_ok (t : Trained) (sample : List Feat) (band : Int) (share : Int) (ok : okTrained t) : ∃ (v : Trained) (c : Int), (v = (adR t sample band share).1) ∧ (c = (adR t sample band share).2) ∧ Con Try.prog 7 [agTrained t, slFeat false sample, I band, I share] true (.tup [agTrainedT v, I c]) := by
  have hh : ∃ r : Trained × Int, ((r.1 = (adR t sample band share).1) ∧ (r.2 = (adR t sample band share).2) ∧ (True)) ∧ CallOK Try.prog 7 [agTrained t, slFeat false sample, I band, I share] (lookO []) true (.tup [agTrainedT r.1, I r.2]) (lookO []) := by
    refine fn_okX (Φ := fun r : Trained × Int => (r.1 = (adR t sample band share).1) ∧ (r.2 = (adR t sample band share).2) ∧ (True)) [] (fun r => []) (fn := Try.f7) (nt := 40) Try.func7 rfl rfl (args := [agTrained t, slFeat false sample, I band, I share]) rfl (allcons (.inl ⟨rfl, by simp [tagged, taggedL, tagFeat]⟩) (allcons (.inl ⟨rfl, tagFeat false _⟩) (allcons (.inl ⟨rfl, trivial⟩) (allcons (.inl ⟨rfl, trivial⟩) allnil)))) (res := fun r => .tup [agTrainedT r.1, I r.2]) ?_
    refine x_seq ?_
    refine x_reg [(0, .new 4), (1, .new 8)] [1, 2, 3, 4, 8] [4, 8] [slFeat false sample, I band, I share, .ref 4 0, .ref 8 0] [some (bxTrained t), some (.box [Sv (⟨#[]⟩ : ByteArray), nilA, nilA, I 0])] [] (by kernel_rfl) trivial ?_
    refine xe_then ?_
    refine x_seq ?_
    refine x_seq ?_
    rcases Bool.eq_false_or_eq_true (okTrained' t) with h1 | h1
    ·have okt := h1
     rcases Bool.eq_false_or_eq_true (okFeats sample 72) with h2 | h2
     ·have oks := h2
      have okl := okTr_len okt
      have hns := okFeats_n oks
      have hna := okFeats_n (okTr_iff.1 okt).2.2.1
      have hlen := (okTr_iff.1 okt).2.2.2.1.1
      refine x_reg [(0, .call [(false, .ptr false [Sv t.Label, slFeat false t.Base, slFeat false t.Feats, I t.Count])] true (Bv true)), (4, .call [(true, slFeat false sample)] true (Bv true))] [1, 2, 3, 4, 8, 16] [4, 8] [slFeat false sample, I band, I share, .ref 4 0, .ref 8 0, Bv false] [some (bxTrained t), some (.box [Sv (⟨#[]⟩ : ByteArray), nilA, nilA, I 0])] [Con Try.prog 25 [.ptr false [Sv t.Label, slFeat false t.Base, slFeat false t.Feats, I t.Count]] true (Bv true) ∧ ((false = true → true = true) ∧ AV.idsL [Sv t.Label, slFeat false t.Base, slFeat false t.Feats, I t.Count] = [] ∧ (valOf (Sv t.Label) = valOf (Sv t.Label)) ∧ ((false = true → false = true) ∧ 3 = 3 ∧ t.Base.length = t.Base.length ∧ ∀ i, i < t.Base.length → (fFeat t.Base) i = (fFeat t.Base) i ∨ (AV.idsL ((fFeat t.Base) i) = [] ∧ leL (fun _ => none) false ((fFeat t.Base) i) ((fFeat t.Base) i))) ∧ ((false = true → false = true) ∧ 3 = 3 ∧ t.Feats.length = t.Feats.length ∧ ∀ i, i < t.Feats.length → (fFeat t.Feats) i = (fFeat t.Feats) i ∨ (AV.idsL ((fFeat t.Feats) i) = [] ∧ leL (fun _ => none) false ((fFeat t.Feats) i) ((fFeat t.Feats) i))) ∧ (valOf (I t.Count) = valOf (I t.Count)) ∧ ([] : List AV) = []) ∧ True, Con Try.prog 26 [slFeat false sample] true (Bv true) ∧ ((slFeat false sample : AV) = slFeat false sample) ∧ True] (by kernel_rfl) ⟨⟨(con_bool h1 (l24Ok_ok t ok)), ⟨(fun h => by cases h), rfl, ⟨rfl, ⟨⟨(fun h => by cases h), rfl, rfl, fun i _ => .inl rfl⟩, ⟨⟨(fun h => by cases h), rfl, rfl, fun i _ => .inl rfl⟩, ⟨rfl, rfl⟩⟩⟩⟩⟩, trivial⟩, ⟨(con_bool h2 (l09Ok_ok sample)), rfl, trivial⟩, trivial⟩ ?_
      refine xe_then ?_
      refine x_false rfl ?_
      refine x_skip ?_
      refine xe_then ?_
      refine x_seq ?_
      refine x_seq ?_
      rcases Bool.eq_false_or_eq_true (inB share 0 100) with h3 | h3
      ·have hsh := inB_iff.1 h3
       rcases Bool.eq_false_or_eq_true (inB band 0 72 && decide ((((t.Feats.length : Int) - (sample.length : Int)).natAbs : Int) ≤ band)) with h4 | h4
       ·have hbn := band_of h4 (by omega) (by omega)
        have hbd := hbn.1
        have hnm : inBd band t.Feats.length sample.length := hbn.2
        refine x_reg [(1, .call [(true, I share), (true, I 0), (true, I 100)] true (Bv true)), (10, .call [(true, I (t.Feats.length : Int)), (true, I (sample.length : Int)), (true, I band)] true (Bv true))] [1, 2, 3, 4, 8, 30] [4, 8] [slFeat false sample, I band, I share, .ref 4 0, .ref 8 0, Bv false] [some (bxTrained t), some (.box [Sv (⟨#[]⟩ : ByteArray), nilA, nilA, I 0])] [Con Try.prog 27 [I share, I 0, I 100] true (Bv true) ∧ ((I share : AV) = I share) ∧ ((I 0 : AV) = I 0) ∧ ((I 100 : AV) = I 100) ∧ True, Con Try.prog 28 [I (t.Feats.length : Int), I (sample.length : Int), I band] true (Bv true) ∧ ((I (t.Feats.length : Int) : AV) = I (t.Feats.length : Int)) ∧ ((I (sample.length : Int) : AV) = I (sample.length : Int)) ∧ ((I band : AV) = I band) ∧ True] (by kernel_rfl) ⟨⟨(con_bool h3 (l00In_ok share 0 100)), rfl, rfl, rfl, trivial⟩, ⟨(con_bool h4 (l10Band_ok (t.Feats.length : Int) (sample.length : Int) band (by omega) (by omega))), rfl, rfl, rfl, trivial⟩, trivial⟩ ?_
        refine xe_then ?_
        refine x_false rfl ?_
        refine x_skip ?_
        refine xe_then ?_
        refine x_seq ?_
        refine x_seq ?_
        by_cases h5 : 100 ≤ t.Count
        ·have hst : adR t sample band share = (zT, 5) := by unfold adR; simp [*]
         refine x_reg [(2, .dec true)] [1, 2, 3, 4, 8, 34] [4, 8] [slFeat false sample, I band, I share, .ref 4 0, .ref 8 0, Bv true] [some (bxTrained t), some (.box [Sv (⟨#[]⟩ : ByteArray), nilA, nilA, I 0])] [100 ≤ t.Count] (by kernel_rfl) ⟨h5, trivial⟩ ?_
         refine xe_then ?_
         refine x_true rfl ?_
         refine x_seq ?_
         refine x_reg [] [8, 9] [8] [.ref 8 0, I 5] [some (.box [Sv (⟨#[]⟩ : ByteArray), nilA, nilA, I 0])] [] (by kernel_rfl) trivial ?_
         refine xe_then ?_
         refine x_ret ?_
         refine xe_ret_then ?_
         refine xe_end ((Trained.mk (⟨#[]⟩ : ByteArray) ([] : List Feat) ([] : List Feat) 0), 5) (show ((Trained.mk (⟨#[]⟩ : ByteArray) ([] : List Feat) ([] : List Feat) 0) = (adR t sample band share).1) ∧ (5 = (adR t sample band share).2) ∧ (True) from ⟨(by first | (rw [hst]; done) | (rw [hst]; assumption) | (rw [hst]; exact rfl)), (by first | (rw [hst]; done) | (rw [hst]; assumption) | (rw [hst]; exact rfl)), trivial⟩) (trivial) (.tup [.agg [Sv (⟨#[]⟩ : ByteArray), nilA, nilA, I 0], I 5]) (by kernel_rfl) (.inr ⟨⟨rfl, ⟨⟨rfl, rfl⟩, ⟨⟨rfl, rfl⟩, ⟨rfl, rfl⟩⟩⟩⟩, ⟨rfl, rfl⟩⟩) (fun _ => rfl) (fun _ => (by simp [tagged, taggedL, tagFeat]))
        ·have hct : t.Count < 100 := by omega
         have hst : adR t sample band share = (adpT t sample band share, 0) := by unfold adR; simp [*]
         refine x_reg [(2, .dec false)] [1, 2, 3, 4, 8, 34] [4, 8] [slFeat false sample, I band, I share, .ref 4 0, .ref 8 0, Bv false] [some (bxTrained t), some (.box [Sv (⟨#[]⟩ : ByteArray), nilA, nilA, I 0])] [¬ (100 ≤ t.Count)] (by kernel_rfl) ⟨h5, trivial⟩ ?_
         refine xe_then ?_
         refine x_false rfl ?_
         refine x_skip ?_
         refine xe_then ?_
         refine x_seq ?_
         obtain ⟨v_1, hx1_0, hc1⟩ := l24Adapt_ok t sample band share okt oks hbd hnm hsh hct
         refine x_reg [(3, .call [(false, .ptr false [Sv t.Label, slFeat false t.Base, slFeat false t.Feats, I t.Count]), (true, slFeat false sample), (true, I band), (true, I share)] true (agTrainedT v_1))] [8, 9] [8] [.ref 8 0, I 0] [some (bxTrainedT v_1)] [Con Try.prog 29 [.ptr false [Sv t.Label, slFeat false t.Base, slFeat false t.Feats, I t.Count], slFeat false sample, I band, I share] true (agTrainedT v_1) ∧ ((false = true → true = true) ∧ AV.idsL [Sv t.Label, slFeat false t.Base, slFeat false t.Feats, I t.Count] = [] ∧ (valOf (Sv t.Label) = valOf (Sv t.Label)) ∧ ((false = true → false = true) ∧ 3 = 3 ∧ t.Base.length = t.Base.length ∧ ∀ i, i < t.Base.length → (fFeat t.Base) i = (fFeat t.Base) i ∨ (AV.idsL ((fFeat t.Base) i) = [] ∧ leL (fun _ => none) false ((fFeat t.Base) i) ((fFeat t.Base) i))) ∧ ((false = true → false = true) ∧ 3 = 3 ∧ t.Feats.length = t.Feats.length ∧ ∀ i, i < t.Feats.length → (fFeat t.Feats) i = (fFeat t.Feats) i ∨ (AV.idsL ((fFeat t.Feats) i) = [] ∧ leL (fun _ => none) false ((fFeat t.Feats) i) ((fFeat t.Feats) i))) ∧ (valOf (I t.Count) = valOf (I t.Count)) ∧ ([] : List AV) = []) ∧ ((slFeat false sample : AV) = slFeat false sample) ∧ ((I band : AV) = I band) ∧ ((I share : AV) = I share) ∧ True] (by kernel_rfl) ⟨⟨hc1, ⟨(fun h => by cases h), rfl, ⟨rfl, ⟨⟨(fun h => by cases h), rfl, rfl, fun i _ => .inl rfl⟩, ⟨⟨(fun h => by cases h), rfl, rfl, fun i _ => .inl rfl⟩, ⟨rfl, rfl⟩⟩⟩⟩⟩, rfl, rfl, rfl, trivial⟩, trivial⟩ ?_
         refine xe_then ?_
         refine x_ret ?_
         refine xe_end (v_1, 0) (show (v_1 = (adR t sample band share).1) ∧ (0 = (adR t sample band share).2) ∧ (True) from ⟨(by first | (rw [hst]; done) | (rw [hst]; assumption) | (rw [hst]; exact rfl)), (by first | (rw [hst]; done) | (rw [hst]; assumption) | (rw [hst]; exact rfl)), trivial⟩) (trivial) (.tup [agTrainedT v_1, I 0]) (by kernel_rfl) (.inl rfl) (fun _ => rfl) (fun _ => (by simp [tagged, taggedL, tagFeat]))
       ·have hst : adR t sample band share = (zT, 2) := by unfold adR; simp [*]
        refine x_reg [(1, .call [(true, I share), (true, I 0), (true, I 100)] true (Bv true)), (10, .call [(true, I (t.Feats.length : Int)), (true, I (sample.length : Int)), (true, I band)] true (Bv false))] [1, 2, 3, 4, 8, 30] [4, 8] [slFeat false sample, I band, I share, .ref 4 0, .ref 8 0, Bv true] [some (bxTrained t), some (.box [Sv (⟨#[]⟩ : ByteArray), nilA, nilA, I 0])] [Con Try.prog 27 [I share, I 0, I 100] true (Bv true) ∧ ((I share : AV) = I share) ∧ ((I 0 : AV) = I 0) ∧ ((I 100 : AV) = I 100) ∧ True, Con Try.prog 28 [I (t.Feats.length : Int), I (sample.length : Int), I band] true (Bv false) ∧ ((I (t.Feats.length : Int) : AV) = I (t.Feats.length : Int)) ∧ ((I (sample.length : Int) : AV) = I (sample.length : Int)) ∧ ((I band : AV) = I band) ∧ True] (by kernel_rfl) ⟨⟨(con_bool h3 (l00In_ok share 0 100)), rfl, rfl, rfl, trivial⟩, ⟨(con_bool h4 (l10Band_ok (t.Feats.length : Int) (sample.length : Int) band (by omega) (by omega))), rfl, rfl, rfl, trivial⟩, trivial⟩ ?_
        refine xe_then ?_
        refine x_true rfl ?_
        refine x_seq ?_
        refine x_reg [] [8, 9] [8] [.ref 8 0, I 2] [some (.box [Sv (⟨#[]⟩ : ByteArray), nilA, nilA, I 0])] [] (by kernel_rfl) trivial ?_
        refine xe_then ?_
        refine x_ret ?_
        refine xe_ret_then ?_
        refine xe_end ((Trained.mk (⟨#[]⟩ : ByteArray) ([] : List Feat) ([] : List Feat) 0), 2) (show ((Trained.mk (⟨#[]⟩ : ByteArray) ([] : List Feat) ([] : List Feat) 0) = (adR t sample band share).1) ∧ (2 = (adR t sample band share).2) ∧ (True) from ⟨(by first | (rw [hst]; done) | (rw [hst]; assumption) | (rw [hst]; exact rfl)), (by first | (rw [hst]; done) | (rw [hst]; assumption) | (rw [hst]; exact rfl)), trivial⟩) (trivial) (.tup [.agg [Sv (⟨#[]⟩ : ByteArray), nilA, nilA, I 0], I 2]) (by kernel_rfl) (.inr ⟨⟨rfl, ⟨⟨rfl, rfl⟩, ⟨⟨rfl, rfl⟩, ⟨rfl, rfl⟩⟩⟩⟩, ⟨rfl, rfl⟩⟩) (fun _ => rfl) (fun _ => (by simp [tagged, taggedL, tagFeat]))
      ·have hst : adR t sample band share = (zT, 2) := by unfold adR; simp [*]
       refine x_reg [(1, .call [(true, I share), (true, I 0), (true, I 100)] true (Bv false))] [1, 2, 3, 4, 8, 30] [4, 8] [slFeat false sample, I band, I share, .ref 4 0, .ref 8 0, Bv true] [some (bxTrained t), some (.box [Sv (⟨#[]⟩ : ByteArray), nilA, nilA, I 0])] [Con Try.prog 27 [I share, I 0, I 100] true (Bv false) ∧ ((I share : AV) = I share) ∧ ((I 0 : AV) = I 0) ∧ ((I 100 : AV) = I 100) ∧ True] (by kernel_rfl) ⟨⟨(con_bool h3 (l00In_ok share 0 100)), rfl, rfl, rfl, trivial⟩, trivial⟩ ?_
       refine xe_then ?_
       refine x_true rfl ?_
       refine x_seq ?_
       refine x_reg [] [8, 9] [8] [.ref 8 0, I 2] [some (.box [Sv (⟨#[]⟩ : ByteArray), nilA, nilA, I 0])] [] (by kernel_rfl) trivial ?_
       refine xe_then ?_
       refine x_ret ?_
       refine xe_ret_then ?_
       refine xe_end ((Trained.mk (⟨#[]⟩ : ByteArray) ([] : List Feat) ([] : List Feat) 0), 2) (show ((Trained.mk (⟨#[]⟩ : ByteArray) ([] : List Feat) ([] : List Feat) 0) = (adR t sample band share).1) ∧ (2 = (adR t sample band share).2) ∧ (True) from ⟨(by first | (rw [hst]; done) | (rw [hst]; assumption) | (rw [hst]; exact rfl)), (by first | (rw [hst]; done) | (rw [hst]; assumption) | (rw [hst]; exact rfl)), trivial⟩) (trivial) (.tup [.agg [Sv (⟨#[]⟩ : ByteArray), nilA, nilA, I 0], I 2]) (by kernel_rfl) (.inr ⟨⟨rfl, ⟨⟨rfl, rfl⟩, ⟨⟨rfl, rfl⟩, ⟨rfl, rfl⟩⟩⟩⟩, ⟨rfl, rfl⟩⟩) (fun _ => rfl) (fun _ => (by simp [tagged, taggedL, tagFeat]))
     ·have hst : adR t sample band share = (zT, 1) := by unfold adR; simp [*]
      refine x_reg [(0, .call [(false, .ptr false [Sv t.Label, slFeat false t.Base, slFeat false t.Feats, I t.Count])] true (Bv true)), (4, .call [(true, slFeat false sample)] true (Bv false))] [1, 2, 3, 4, 8, 16] [4, 8] [slFeat false sample, I band, I share, .ref 4 0, .ref 8 0, Bv true] [some (bxTrained t), some (.box [Sv (⟨#[]⟩ : ByteArray), nilA, nilA, I 0])] [Con Try.prog 25 [.ptr false [Sv t.Label, slFeat false t.Base, slFeat false t.Feats, I t.Count]] true (Bv true) ∧ ((false = true → true = true) ∧ AV.idsL [Sv t.Label, slFeat false t.Base, slFeat false t.Feats, I t.Count] = [] ∧ (valOf (Sv t.Label) = valOf (Sv t.Label)) ∧ ((false = true → false = true) ∧ 3 = 3 ∧ t.Base.length = t.Base.length ∧ ∀ i, i < t.Base.length → (fFeat t.Base) i = (fFeat t.Base) i ∨ (AV.idsL ((fFeat t.Base) i) = [] ∧ leL (fun _ => none) false ((fFeat t.Base) i) ((fFeat t.Base) i))) ∧ ((false = true → false = true) ∧ 3 = 3 ∧ t.Feats.length = t.Feats.length ∧ ∀ i, i < t.Feats.length → (fFeat t.Feats) i = (fFeat t.Feats) i ∨ (AV.idsL ((fFeat t.Feats) i) = [] ∧ leL (fun _ => none) false ((fFeat t.Feats) i) ((fFeat t.Feats) i))) ∧ (valOf (I t.Count) = valOf (I t.Count)) ∧ ([] : List AV) = []) ∧ True, Con Try.prog 26 [slFeat false sample] true (Bv false) ∧ ((slFeat false sample : AV) = slFeat false sample) ∧ True] (by kernel_rfl) ⟨⟨(con_bool h1 (l24Ok_ok t ok)), ⟨(fun h => by cases h), rfl, ⟨rfl, ⟨⟨(fun h => by cases h), rfl, rfl, fun i _ => .inl rfl⟩, ⟨⟨(fun h => by cases h), rfl, rfl, fun i _ => .inl rfl⟩, ⟨rfl, rfl⟩⟩⟩⟩⟩, trivial⟩, ⟨(con_bool h2 (l09Ok_ok sample)), rfl, trivial⟩, trivial⟩ ?_
      refine xe_then ?_
      refine x_true rfl ?_
      refine x_seq ?_
      refine x_reg [] [8, 9] [8] [.ref 8 0, I 1] [some (.box [Sv (⟨#[]⟩ : ByteArray), nilA, nilA, I 0])] [] (by kernel_rfl) trivial ?_
      refine xe_then ?_
      refine x_ret ?_
      refine xe_ret_then ?_
      refine xe_end ((Trained.mk (⟨#[]⟩ : ByteArray) ([] : List Feat) ([] : List Feat) 0), 1) (show ((Trained.mk (⟨#[]⟩ : ByteArray) ([] : List Feat) ([] : List Feat) 0) = (adR t sample band share).1) ∧ (1 = (adR t sample band share).2) ∧ (True) from ⟨(by first | (rw [hst]; done) | (rw [hst]; assumption) | (rw [hst]; exact rfl)), (by first | (rw [hst]; done) | (rw [hst]; assumption) | (rw [hst]; exact rfl)), trivial⟩) (trivial) (.tup [.agg [Sv (⟨#[]⟩ : ByteArray), nilA, nilA, I 0], I 1]) (by kernel_rfl) (.inr ⟨⟨rfl, ⟨⟨rfl, rfl⟩, ⟨⟨rfl, rfl⟩, ⟨rfl, rfl⟩⟩⟩⟩, ⟨rfl, rfl⟩⟩) (fun _ => rfl) (fun _ => (by simp [tagged, taggedL, tagFeat]))
    ·have hst : adR t sample band share = (zT, 1) := by unfold adR; simp [*]
     refine x_reg [(0, .call [(false, .ptr false [Sv t.Label, slFeat false t.Base, slFeat false t.Feats, I t.Count])] true (Bv false))] [1, 2, 3, 4, 8, 16] [4, 8] [slFeat false sample, I band, I share, .ref 4 0, .ref 8 0, Bv true] [some (bxTrained t), some (.box [Sv (⟨#[]⟩ : ByteArray), nilA, nilA, I 0])] [Con Try.prog 25 [.ptr false [Sv t.Label, slFeat false t.Base, slFeat false t.Feats, I t.Count]] true (Bv false) ∧ ((false = true → true = true) ∧ AV.idsL [Sv t.Label, slFeat false t.Base, slFeat false t.Feats, I t.Count] = [] ∧ (valOf (Sv t.Label) = valOf (Sv t.Label)) ∧ ((false = true → false = true) ∧ 3 = 3 ∧ t.Base.length = t.Base.length ∧ ∀ i, i < t.Base.length → (fFeat t.Base) i = (fFeat t.Base) i ∨ (AV.idsL ((fFeat t.Base) i) = [] ∧ leL (fun _ => none) false ((fFeat t.Base) i) ((fFeat t.Base) i))) ∧ ((false = true → false = true) ∧ 3 = 3 ∧ t.Feats.length = t.Feats.length ∧ ∀ i, i < t.Feats.length → (fFeat t.Feats) i = (fFeat t.Feats) i ∨ (AV.idsL ((fFeat t.Feats) i) = [] ∧ leL (fun _ => none) false ((fFeat t.Feats) i) ((fFeat t.Feats) i))) ∧ (valOf (I t.Count) = valOf (I t.Count)) ∧ ([] : List AV) = []) ∧ True] (by kernel_rfl) ⟨⟨(con_bool h1 (l24Ok_ok t ok)), ⟨(fun h => by cases h), rfl, ⟨rfl, ⟨⟨(fun h => by cases h), rfl, rfl, fun i _ => .inl rfl⟩, ⟨⟨(fun h => by cases h), rfl, rfl, fun i _ => .inl rfl⟩, ⟨rfl, rfl⟩⟩⟩⟩⟩, trivial⟩, trivial⟩ ?_
     refine xe_then ?_
     refine x_true rfl ?_
     refine x_seq ?_
     refine x_reg [] [8, 9] [8] [.ref 8 0, I 1] [some (.box [Sv (⟨#[]⟩ : ByteArray), nilA, nilA, I 0])] [] (by kernel_rfl) trivial ?_
     refine xe_then ?_
     refine x_ret ?_
     refine xe_ret_then ?_
     refine xe_end ((Trained.mk (⟨#[]⟩ : ByteArray) ([] : List Feat) ([] : List Feat) 0), 1) (show ((Trained.mk (⟨#[]⟩ : ByteArray) ([] : List Feat) ([] : List Feat) 0) = (adR t sample band share).1) ∧ (1 = (adR t sample band share).2) ∧ (True) from ⟨(by first | (rw [hst]; done) | (rw [hst]; assumption) | (rw [hst]; exact rfl)), (by first | (rw [hst]; done) | (rw [hst]; assumption) | (rw [hst]; exact rfl)), trivial⟩) (trivial) (.tup [.agg [Sv (⟨#[]⟩ : ByteArray), nilA, nilA, I 0], I 1]) (by kernel_rfl) (.inr ⟨⟨rfl, ⟨⟨rfl, rfl⟩, ⟨⟨rfl, rfl⟩, ⟨rfl, rfl⟩⟩⟩⟩, ⟨rfl, rfl⟩⟩) (fun _ => rfl) (fun _ => (by simp [tagged, taggedL, tagFeat]))
  obtain ⟨⟨v, c⟩, ⟨hh0, hh1, _⟩, hc⟩ := hh
  exact ⟨v, c, hh0, hh1, hc⟩


-- impl.isLetter
theorem isLetter_ok (c : Int) : Con Try.prog 70 [.val (.int .u8 c)] true (Bv (inB c 97 122)) := by
  refine fn_ok (fn := Try.f70) (nt := 9) Try.func70 rfl rfl rfl rfl (by simp [taggedL, tagged]) fun B hB => ?_
  refine aw_seq ?_
  refine aw_reg [] [0] [] [.val (.int .u8 c)] [] [] (by kernel_rfl) hB trivial ?_
  refine ae_then ?_
  refine aw_seq ?_
  by_cases h1 : 97 ≤ c
  ·refine aw_reg [(1, .dec true)] [2] [] [Bv (decide (c ≤ 122))] [] [97 ≤ c] (by kernel_rfl) hB ⟨h1, trivial⟩ ?_
   refine ae_then ?_
   refine aw_ret ?_
   refine ae_ret hB (Bv (decide (c ≤ 122))) (by kernel_rfl) (.inl (by first | rfl | (refine congrArg Bv ?_; simp [inB, *]; done) | (refine congrArg Bv ?_; simp [inB, *]; omega) | (refine congrArg Bv ?_; simp_all [inB]; done) | (refine congrArg Bv ?_; simp_all [inB]; omega))) rfl (fun _ => trivial)
  ·refine aw_reg [(1, .dec false)] [2] [] [Bv false] [] [¬ (97 ≤ c)] (by kernel_rfl) hB ⟨h1, trivial⟩ ?_
   refine ae_then ?_
   refine aw_ret ?_
   refine ae_ret hB (Bv false) (by kernel_rfl) (.inl (by first | rfl | (refine congrArg Bv ?_; simp [inB, *]; done) | (refine congrArg Bv ?_; simp [inB, *]; omega) | (refine congrArg Bv ?_; simp_all [inB]; done) | (refine congrArg Bv ?_; simp_all [inB]; omega))) rfl (fun _ => trivial)


/-- Whether a byte occurs. -/
def hasB (s : ByteArray) (n : Int) : Bool := s.data.toList.any fun x => decide ((x.toNat : Int) = n)
theorem one_byte {t : ByteArray} (h : t.size = 1) : ∃ c, t = ⟨#[c]⟩ := by
  obtain ⟨⟨l⟩⟩ := t
  cases l with
  | nil => cases h
  | cons c l =>
    cases l with
    | nil => exact ⟨c, rfl⟩
    | cons d l => simp [ByteArray.size] at h
theorem has_index (l : List UInt8) (c : UInt8) : decide (0 ≤ Lib.indexByte l c) = l.any fun x => decide ((x.toNat : Int) = bAt ⟨#[c]⟩ 0) := by
  rw [← Lib.contains_iff_indexByte, Bool.eq_iff_iff]
  simp [bAt, List.contains_iff_mem]
  constructor
  · intro h; exact ⟨c, h, rfl⟩
  · rintro ⟨x, hx, e⟩
    have : x = c := UInt8.toNat_inj.1 (by omega)
    exact this ▸ hx

-- strings.Contains
theorem contains_ok (s t : ByteArray) (h : t.size = 1) : Con Try.prog 71 [Sv s, Sv t] true (Bv (hasB s (bAt t 0))) := by
  obtain ⟨c, rfl⟩ := one_byte h
  refine con_of_calls (vals := [.string s, .string ⟨#[c]⟩]) fun w _ => ?_
  refine (Try.strings_Contains_one s c w).mono ?_
  rintro e w' ⟨rfl, rfl⟩
  refine ⟨?_, Below.refl _ _⟩
  simp only [has_index, hasB]


-- impl.IsLabel
theorem implIsLabel_ok (s : ByteArray) (ok : s.size ≤ 9223372036854775807) : Con Try.prog 54 [Sv s] true (Bv (okLabel s)) := by
  refine fn_ok (fn := Try.f54) (nt := 15) Try.func54 rfl rfl rfl rfl (by simp [taggedL, tagged]) fun B hB => ?_
  refine aw_seq ?_
  refine aw_reg [] [0] [] [Sv s] [] [] (by kernel_rfl) hB trivial ?_
  refine ae_then ?_
  refine aw_seq ?_
  by_cases h1 : (s.size : Int) = 1
  ·rcases Bool.eq_false_or_eq_true (inB (bAt s 0) 97 122) with h2 | h2
   ·refine aw_reg [(2, .dec true), (6, .call [(true, .val (.int .u8 (bAt s 0)))] true (Bv true))] [2] [] [Bv true] [] [(s.size : Int) = 1, (0 : Int) ≤ 0 ∧ 0 < (s.size : Int), Con Try.prog 70 [.val (.int .u8 (bAt s 0))] true (Bv true) ∧ ((.val (.int .u8 (bAt s 0)) : AV) = .val (.int .u8 (bAt s 0))) ∧ True] (by kernel_rfl) hB ⟨h1, ⟨(by omega), (by omega)⟩, ⟨(con_bool h2 (isLetter_ok (bAt s 0))), rfl, trivial⟩, trivial⟩ ?_
    refine ae_then ?_
    refine aw_ret ?_
    refine ae_ret hB (Bv true) (by kernel_rfl) (.inl (by first | (refine congrArg Bv ?_; simp_all [okLabel, labB, inB]; done) | (refine congrArg Bv ?_; have hbd := bAt_bd s 0; rw [Bool.eq_iff_iff]; simp_all [okLabel, hasB, labB, inB]; omega))) rfl (fun _ => trivial)
   ·refine aw_reg [(2, .dec true), (6, .call [(true, .val (.int .u8 (bAt s 0)))] true (Bv false)), (9, .call [(true, Sv (⟨#[48, 49, 50, 51, 52, 53, 54, 55, 56, 57, 43, 45, 42, 47, 61, 40, 41, 46, 44]⟩ : ByteArray)), (true, Sv s)] true (Bv (hasB (⟨#[48, 49, 50, 51, 52, 53, 54, 55, 56, 57, 43, 45, 42, 47, 61, 40, 41, 46, 44]⟩ : ByteArray) (bAt s 0))))] [2] [] [Bv (hasB (⟨#[48, 49, 50, 51, 52, 53, 54, 55, 56, 57, 43, 45, 42, 47, 61, 40, 41, 46, 44]⟩ : ByteArray) (bAt s 0))] [] [(s.size : Int) = 1, (0 : Int) ≤ 0 ∧ 0 < (s.size : Int), Con Try.prog 70 [.val (.int .u8 (bAt s 0))] true (Bv false) ∧ ((.val (.int .u8 (bAt s 0)) : AV) = .val (.int .u8 (bAt s 0))) ∧ True, Con Try.prog 71 [Sv (⟨#[48, 49, 50, 51, 52, 53, 54, 55, 56, 57, 43, 45, 42, 47, 61, 40, 41, 46, 44]⟩ : ByteArray), Sv s] true (Bv (hasB (⟨#[48, 49, 50, 51, 52, 53, 54, 55, 56, 57, 43, 45, 42, 47, 61, 40, 41, 46, 44]⟩ : ByteArray) (bAt s 0))) ∧ ((Sv (⟨#[48, 49, 50, 51, 52, 53, 54, 55, 56, 57, 43, 45, 42, 47, 61, 40, 41, 46, 44]⟩ : ByteArray) : AV) = Sv (⟨#[48, 49, 50, 51, 52, 53, 54, 55, 56, 57, 43, 45, 42, 47, 61, 40, 41, 46, 44]⟩ : ByteArray)) ∧ ((Sv s : AV) = Sv s) ∧ True] (by kernel_rfl) hB ⟨h1, ⟨(by omega), (by omega)⟩, ⟨(con_bool h2 (isLetter_ok (bAt s 0))), rfl, trivial⟩, ⟨(contains_ok (⟨#[48, 49, 50, 51, 52, 53, 54, 55, 56, 57, 43, 45, 42, 47, 61, 40, 41, 46, 44]⟩ : ByteArray) s (by omega)), rfl, rfl, trivial⟩, trivial⟩ ?_
    refine ae_then ?_
    refine aw_ret ?_
    refine ae_ret hB (Bv (hasB (⟨#[48, 49, 50, 51, 52, 53, 54, 55, 56, 57, 43, 45, 42, 47, 61, 40, 41, 46, 44]⟩ : ByteArray) (bAt s 0))) (by kernel_rfl) (.inl (by first | (refine congrArg Bv ?_; simp_all [okLabel, labB, inB]; done) | (refine congrArg Bv ?_; have hbd := bAt_bd s 0; rw [Bool.eq_iff_iff]; simp_all [okLabel, hasB, labB, inB]; omega))) rfl (fun _ => trivial)
  ·refine aw_reg [(2, .dec false)] [2] [] [Bv false] [] [¬ ((s.size : Int) = 1)] (by kernel_rfl) hB ⟨h1, trivial⟩ ?_
   refine ae_then ?_
   refine aw_ret ?_
   refine ae_ret hB (Bv false) (by kernel_rfl) (.inl (by first | (refine congrArg Bv ?_; simp_all [okLabel, labB, inB]; done) | (refine congrArg Bv ?_; have hbd := bAt_bd s 0; rw [Bool.eq_iff_iff]; simp_all [okLabel, hasB, labB, inB]; omega))) rfl (fun _ => trivial)


-- impl.within
theorem within_ok (n : Int) (low : Int) (high : Int) : Con Try.prog 33 [I n, I low, I high] true (Bv (inB n low high)) := by
  refine fn_ok (fn := Try.f33) (nt := 15) Try.func33 rfl rfl rfl rfl (by simp [taggedL, tagged]) fun B hB => ?_
  refine aw_seq ?_
  refine aw_reg [] [0, 1, 2] [] [I n, I low, I high] [] [] (by kernel_rfl) hB trivial ?_
  refine ae_then ?_
  refine aw_seq ?_
  by_cases h1 : low ≤ n
  ·refine aw_reg [(2, .dec true)] [6] [] [Bv (decide (n ≤ high))] [] [low ≤ n] (by kernel_rfl) hB ⟨h1, trivial⟩ ?_
   refine ae_then ?_
   refine aw_ret ?_
   refine ae_ret hB (Bv (decide (n ≤ high))) (by kernel_rfl) (.inl (by first | rfl | (refine congrArg Bv ?_; simp [inB, *]; done) | (refine congrArg Bv ?_; simp [inB, *]; omega) | (refine congrArg Bv ?_; simp_all [inB]; done) | (refine congrArg Bv ?_; simp_all [inB]; omega))) rfl (fun _ => trivial)
  ·refine aw_reg [(2, .dec false)] [6] [] [Bv false] [] [¬ (low ≤ n)] (by kernel_rfl) hB ⟨h1, trivial⟩ ?_
   refine ae_then ?_
   refine aw_ret ?_
   refine ae_ret hB (Bv false) (by kernel_rfl) (.inl (by first | rfl | (refine congrArg Bv ?_; simp [inB, *]; done) | (refine congrArg Bv ?_; simp [inB, *]; omega) | (refine congrArg Bv ?_; simp_all [inB]; done) | (refine congrArg Bv ?_; simp_all [inB]; omega))) rfl (fun _ => trivial)


-- impl.ValidFeat
theorem ValidFeat_ok (f : Feat) : Con Try.prog 74 [agFeat f] true (Bv (okF f)) := by
  refine fn_ok (fn := Try.f74) (nt := 16) Try.func74 rfl rfl rfl rfl (by simp [taggedL, tagged]) fun B hB => ?_
  refine aw_seq ?_
  refine aw_reg [(0, .new 1)] [1] [1] [.ref 1 0] [some (bxFeat f)] [] (by kernel_rfl) hB trivial ?_
  refine ae_then ?_
  refine aw_seq ?_
  rcases Bool.eq_false_or_eq_true (inB f.X 0 255) with h1 | h1
  ·rcases Bool.eq_false_or_eq_true (inB f.Y 0 255) with h2 | h2
   ·refine aw_reg [(2, .call [(true, I f.X), (true, I 0), (true, I 255)] true (Bv true)), (6, .call [(true, I f.Y), (true, I 0), (true, I 255)] true (Bv true)), (11, .call [(true, I f.D), (true, I 0), (true, I 7)] true (Bv (inB f.D 0 7)))] [2] [] [Bv (inB f.D 0 7)] [] [Con Try.prog 33 [I f.X, I 0, I 255] true (Bv true) ∧ ((I f.X : AV) = I f.X) ∧ ((I 0 : AV) = I 0) ∧ ((I 255 : AV) = I 255) ∧ True, Con Try.prog 33 [I f.Y, I 0, I 255] true (Bv true) ∧ ((I f.Y : AV) = I f.Y) ∧ ((I 0 : AV) = I 0) ∧ ((I 255 : AV) = I 255) ∧ True, Con Try.prog 33 [I f.D, I 0, I 7] true (Bv (inB f.D 0 7)) ∧ ((I f.D : AV) = I f.D) ∧ ((I 0 : AV) = I 0) ∧ ((I 7 : AV) = I 7) ∧ True] (by kernel_rfl) hB ⟨⟨(con_bool h1 (within_ok f.X 0 255)), rfl, rfl, rfl, trivial⟩, ⟨(con_bool h2 (within_ok f.Y 0 255)), rfl, rfl, rfl, trivial⟩, ⟨(within_ok f.D 0 7), rfl, rfl, rfl, trivial⟩, trivial⟩ ?_
    refine ae_then ?_
    refine aw_ret ?_
    refine ae_ret hB (Bv (inB f.D 0 7)) (by kernel_rfl) (.inl (by first | rfl | (refine congrArg Bv ?_; simp [okF, *]; done) | (refine congrArg Bv ?_; simp [okF, *]; omega) | (refine congrArg Bv ?_; simp_all [okF]; done) | (refine congrArg Bv ?_; simp_all [okF]; omega))) rfl (fun _ => trivial)
   ·refine aw_reg [(2, .call [(true, I f.X), (true, I 0), (true, I 255)] true (Bv true)), (6, .call [(true, I f.Y), (true, I 0), (true, I 255)] true (Bv false))] [2] [] [Bv false] [] [Con Try.prog 33 [I f.X, I 0, I 255] true (Bv true) ∧ ((I f.X : AV) = I f.X) ∧ ((I 0 : AV) = I 0) ∧ ((I 255 : AV) = I 255) ∧ True, Con Try.prog 33 [I f.Y, I 0, I 255] true (Bv false) ∧ ((I f.Y : AV) = I f.Y) ∧ ((I 0 : AV) = I 0) ∧ ((I 255 : AV) = I 255) ∧ True] (by kernel_rfl) hB ⟨⟨(con_bool h1 (within_ok f.X 0 255)), rfl, rfl, rfl, trivial⟩, ⟨(con_bool h2 (within_ok f.Y 0 255)), rfl, rfl, rfl, trivial⟩, trivial⟩ ?_
    refine ae_then ?_
    refine aw_ret ?_
    refine ae_ret hB (Bv false) (by kernel_rfl) (.inl (by first | rfl | (refine congrArg Bv ?_; simp [okF, *]; done) | (refine congrArg Bv ?_; simp [okF, *]; omega) | (refine congrArg Bv ?_; simp_all [okF]; done) | (refine congrArg Bv ?_; simp_all [okF]; omega))) rfl (fun _ => trivial)
  ·refine aw_reg [(2, .call [(true, I f.X), (true, I 0), (true, I 255)] true (Bv false))] [2] [] [Bv false] [] [Con Try.prog 33 [I f.X, I 0, I 255] true (Bv false) ∧ ((I f.X : AV) = I f.X) ∧ ((I 0 : AV) = I 0) ∧ ((I 255 : AV) = I 255) ∧ True] (by kernel_rfl) hB ⟨⟨(con_bool h1 (within_ok f.X 0 255)), rfl, rfl, rfl, trivial⟩, trivial⟩ ?_
   refine ae_then ?_
   refine aw_ret ?_
   refine ae_ret hB (Bv false) (by kernel_rfl) (.inl (by first | rfl | (refine congrArg Bv ?_; simp [okF, *]; done) | (refine congrArg Bv ?_; simp [okF, *]; omega) | (refine congrArg Bv ?_; simp_all [okF]; done) | (refine congrArg Bv ?_; simp_all [okF]; omega))) rfl (fun _ => trivial)


-- impl.areFeats$1
theorem areFeats1_ok (f : Feat) : Con Try.prog 73 [agFeat f] true (Bv (!(okF f))) := by
  refine fn_ok (fn := Try.f73) (nt := 6) Try.func73 rfl rfl rfl rfl (by simp [taggedL, tagged]) fun B hB => ?_
  refine aw_seq ?_
  refine aw_reg [(0, .new 1)] [1] [1] [.ref 1 0] [some (bxFeat f)] [] (by kernel_rfl) hB trivial ?_
  refine ae_then ?_
  refine aw_seq ?_
  refine aw_reg [(1, .call [(true, agFeat f)] true (Bv (okF f)))] [2] [] [Bv (!(okF f))] [] [Con Try.prog 74 [agFeat f] true (Bv (okF f)) ∧ ((agFeat f : AV) = agFeat f) ∧ True] (by kernel_rfl) hB ⟨⟨(ValidFeat_ok f), rfl, trivial⟩, trivial⟩ ?_
  refine ae_then ?_
  refine aw_ret ?_
  refine ae_ret hB (Bv (!(okF f))) (by kernel_rfl) (.inl rfl) rfl (fun _ => trivial)


/-- The first number below n that p holds of, or -1. -/
def firstN (n : Nat) (p : Nat → Bool) : Int := match (List.range n).find? p with
  | some i => i
  | none => -1
theorem firstN_hit {n : Nat} {p : Nat → Bool} {k : Nat} (hk : k < n) (hp : p k = true) (hn : ∀ i, i < k → p i = false) : firstN n p = k := by
  have h : (List.range n).find? p = some k := by
    rw [List.find?_range_eq_some]
    exact ⟨hp, List.mem_range.2 hk, fun j hj => by simpa using hn j hj⟩
  simp [firstN, h]
theorem firstN_none {n : Nat} {p : Nat → Bool} (hn : ∀ i, i < n → p i = false) : firstN n p = -1 := by
  have h : (List.range n).find? p = none := by
    rw [List.find?_range_eq_none]
    intro i hi; simpa using hn i hi
  simp [firstN, h]
theorem firstN_cases (n : Nat) (p : Nat → Bool) : (firstN n p = -1 ∧ ∀ i, i < n → p i = false) ∨ ∃ k : Nat, firstN n p = k ∧ k < n ∧ p k = true ∧ ∀ i, i < k → p i = false := by
  by_cases h : ∃ k, k < n ∧ p k = true
  · right
    obtain ⟨k, hk, hp⟩ := h
    cases e : (List.range n).find? p with
    | none => rw [List.find?_range_eq_none] at e; exact absurd hp (by simpa using e k hk)
    | some i =>
      have e' := e
      rw [List.find?_range_eq_some] at e
      exact ⟨i, by simp [firstN, e'], List.mem_range.1 e.2.1, e.1, fun j hj => by simpa using e.2.2 j hj⟩
  · left
    have h' : ∀ i, i < n → p i = false := fun i hi => by rw [← Bool.not_eq_true]; exact fun hp => h ⟨i, hi, hp⟩
    exact ⟨firstN_none h', h'⟩
theorem firstN_any (n : Nat) (p : Nat → Bool) : decide (0 ≤ firstN n p) = anyN n p := by
  rcases firstN_cases n p with ⟨h1, h2⟩ | ⟨k, h1, h2, h3, _⟩
  · rw [h1, anyN_none h2]; decide
  · rw [h1, anyN_at h2 h3]; simp

-- impl.areFeats
theorem containsFeat_ok_idx (s : List Feat) : Con Try.prog 83 [slFeat false s, .fn 73 []] true (I (firstN s.length (fun j => (!(okF (at_ s j)))))) := by
  refine fn_ok (fn := Try.f83) (nt := 19) Try.func83 rfl rfl rfl rfl (by simp [taggedL, tagged, tagFeat]) fun B hB => ?_
  refine aw_lens (x := slFeat false s) 0 rfl (fun len_s => ?_)
  simp [LenOK, LenL, cFeat, fFeat, slFeat] at len_s
  refine aw_seq ?_
  refine aw_reg [] [0, 1] [] [slFeat false s, .fn 73 []] [] [] (by kernel_rfl) hB trivial ?_
  refine ae_then ?_
  refine aw_seq ?_
  refine aw_seq ?_
  refine aw_reg [] [0, 1, 7, 8] [] [slFeat false s, .fn 73 [], I (s.length : Int), I 0] [] [] (by kernel_rfl) hB trivial ?_
  refine ae_then ?_
  refine aw_block ?_
  refine aw_loop (fun gn gσ => ∃ (t8 : Int), gn = ((s.length : Int) - t8).toNat ∧ (0 ≤ t8 ∧ t8 ≤ (s.length : Int)) ∧ (∀ j : Nat, (j : Int) < t8 → (!(okF (at_ s j))) = false) ∧ gσ = mkS [(0, slFeat false s), (1, .fn 73 []), (7, I (s.length : Int)), (8, I t8)] []) (((s.length : Int) - 0).toNat) ⟨0, rfl, (by omega), (by intro j hj; omega), rfl⟩ (fun gn gσ hI => ?_)
  obtain ⟨t8, rfl, hi0, hall0, rfl⟩ := hI
  refine aw_seq ?_
  by_cases h1 : t8 < (s.length : Int)
  ·have hi : t8.toNat < s.length := by omega
   refine aw_reg [(0, .dec true)] [0, 1, 7, 8, 9] [] [slFeat false s, .fn 73 [], I (s.length : Int), I t8, Bv true] [] [t8 < (s.length : Int)] (by kernel_rfl) hB ⟨h1, trivial⟩ ?_
   refine ae_then ?_
   refine aw_seq ?_
   refine aw_true rfl ?_
   refine aw_skip ?_
   refine ae_then ?_
   refine aw_seq ?_
   refine aw_block ?_
   refine aw_seq ?_
   refine aw_reg [] [0, 1, 5, 7, 8] [] [slFeat false s, .fn 73 [], I t8, I (s.length : Int), I t8] [] [] (by kernel_rfl) hB trivial ?_
   refine ae_then ?_
   refine aw_seq ?_
   rcases Bool.eq_false_or_eq_true (!(okF (at_ s t8.toNat))) with h2 | h2
   ·have hfin : firstN s.length (fun j => (!(okF (at_ s j)))) = t8.toNat := firstN_hit hi h2 (fun j hj => hall0 j (by omega))
    refine aw_reg [(5, .call [(true, agFeat (at_ s t8.toNat))] true (Bv true))] [0, 1, 5, 7, 8, 16] [] [slFeat false s, .fn 73 [], I t8, I (s.length : Int), I t8, Bv true] [] [(0 : Int) ≤ t8 ∧ t8 < (s.length : Int), Con Try.prog 73 [agFeat (at_ s t8.toNat)] true (Bv true) ∧ ((agFeat (at_ s t8.toNat) : AV) = agFeat (at_ s t8.toNat)) ∧ True] (by kernel_rfl) hB ⟨⟨(by omega), (by omega)⟩, ⟨(con_bool h2 (areFeats1_ok (at_ s t8.toNat))), rfl, trivial⟩, trivial⟩ ?_
    refine ae_then ?_
    refine aw_true rfl ?_
    refine aw_seq ?_
    refine aw_reg [] [4] [] [I t8] [] [] (by kernel_rfl) hB trivial ?_
    refine ae_then ?_
    refine aw_ret ?_
    refine ae_ret_block (ae_ret_then (ae_ret_then (ae_ret_block (ae_ret_then ?_))))
    refine ae_ret hB (I t8) (by kernel_rfl) (.inl (by refine congrArg I ?_; first | (rw [hfin]; done) | (rw [hfin]; omega))) rfl (fun _ => trivial)
   ·refine aw_reg [(5, .call [(true, agFeat (at_ s t8.toNat))] true (Bv false))] [0, 1, 5, 7, 8, 16] [] [slFeat false s, .fn 73 [], I t8, I (s.length : Int), I t8, Bv false] [] [(0 : Int) ≤ t8 ∧ t8 < (s.length : Int), Con Try.prog 73 [agFeat (at_ s t8.toNat)] true (Bv false) ∧ ((agFeat (at_ s t8.toNat) : AV) = agFeat (at_ s t8.toNat)) ∧ True] (by kernel_rfl) hB ⟨⟨(by omega), (by omega)⟩, ⟨(con_bool h2 (areFeats1_ok (at_ s t8.toNat))), rfl, trivial⟩, trivial⟩ ?_
    refine ae_then ?_
    refine aw_false rfl ?_
    refine aw_skip ?_
    refine ae_block 1 ?_
    refine ae_then ?_
    refine aw_reg [] [0, 1, 7, 8] [] [slFeat false s, .fn 73 [], I (s.length : Int), I (t8 + 1)] [] [inR .i64 (t8 + 1)] (by kernel_rfl) hB ⟨(inR_i64 (by omega) (by omega)), trivial⟩ ?_
    exact ae_again _ (by omega) ⟨(t8 + 1), rfl, (by omega), (by intro j hj; by_cases ej : j = t8.toNat; (subst ej; assumption); exact hall0 j (by omega)), rfl⟩
  ·have hfin : firstN s.length (fun j => (!(okF (at_ s j)))) = -1 := firstN_none (fun j hj => hall0 j (by omega))
   refine aw_reg [(0, .dec false)] [0, 1, 7, 8, 9] [] [slFeat false s, .fn 73 [], I (s.length : Int), I t8, Bv false] [] [¬ (t8 < (s.length : Int))] (by kernel_rfl) hB ⟨h1, trivial⟩ ?_
   refine ae_then ?_
   refine aw_seq ?_
   refine aw_false rfl ?_
   refine aw_exit ?_
   refine ae_exit_then ?_
   refine ae_exit_then ?_
   refine ae_exit_same ?_
   refine ae_then ?_
   refine aw_seq ?_
   refine aw_reg [] [4] [] [I (-1)] [] [] (by kernel_rfl) hB trivial ?_
   refine ae_then ?_
   refine aw_ret ?_
   refine ae_ret hB (I (-1)) (by kernel_rfl) (.inl (by refine congrArg I ?_; first | (rw [hfin]; done) | (rw [hfin]; omega))) rfl (fun _ => trivial)

theorem containsFeat_ok (s : List Feat) : Con Try.prog 72 [slFeat false s, .fn 73 []] true (Bv (anyN s.length (fun j => (!(okF (at_ s j)))))) := by
  refine fn_ok (fn := Try.f72) (nt := 9) Try.func72 rfl rfl rfl rfl (by simp [taggedL, tagged, tagFeat]) fun B hB => ?_
  refine aw_lens (x := slFeat false s) 0 rfl (fun len_s => ?_)
  simp [LenOK, LenL, cFeat, fFeat, slFeat] at len_s
  refine aw_seq ?_
  refine aw_reg [] [0, 1] [] [slFeat false s, .fn 73 []] [] [] (by kernel_rfl) hB trivial ?_
  refine ae_then ?_
  refine aw_seq ?_
  refine aw_reg [(2, .call [(true, slFeat false s), (true, .fn 73 [])] true (I (firstN s.length (fun j => (!(okF (at_ s j)))))))] [4] [] [Bv (decide (0 ≤ (firstN s.length (fun j => (!(okF (at_ s j)))))))] [] [Con Try.prog 83 [slFeat false s, .fn 73 []] true (I (firstN s.length (fun j => (!(okF (at_ s j)))))) ∧ ((slFeat false s : AV) = slFeat false s) ∧ ((.fn 73 [] : AV) = .fn 73 []) ∧ True] (by kernel_rfl) hB ⟨⟨(containsFeat_ok_idx s), rfl, rfl, trivial⟩, trivial⟩ ?_
  refine ae_then ?_
  refine aw_ret ?_
  refine ae_ret hB (Bv (decide (0 ≤ (firstN s.length (fun j => (!(okF (at_ s j)))))))) (by kernel_rfl) (.inl (by exact congrArg Bv (firstN_any _ _))) rfl (fun _ => trivial)

theorem areFeats_ok (list : List Feat) (most : Int) : Con Try.prog 57 [slFeat false list, I most] true (Bv (okFeats list most)) := by
  refine fn_ok (fn := Try.f57) (nt := 19) Try.func57 rfl rfl rfl rfl (by simp [taggedL, tagged, tagFeat]) fun B hB => ?_
  refine aw_lens (x := slFeat false list) 0 rfl (fun len_list => ?_)
  simp [LenOK, LenL, cFeat, fFeat, slFeat] at len_list
  refine aw_seq ?_
  refine aw_reg [] [0, 1] [] [slFeat false list, I most] [] [] (by kernel_rfl) hB trivial ?_
  refine ae_then ?_
  refine aw_seq ?_
  by_cases h1 : 1 ≤ (list.length : Int)
  ·by_cases h2 : (list.length : Int) ≤ most
   ·refine aw_reg [(2, .dec true), (7, .dec true), (11, .call [(true, slFeat false list), (true, .fn 73 [])] true (Bv (anyN list.length (fun j => (!(okF (at_ list j)))))))] [4] [] [Bv (!(anyN list.length (fun j => (!(okF (at_ list j))))))] [] [1 ≤ (list.length : Int), (list.length : Int) ≤ most, Con Try.prog 72 [slFeat false list, .fn 73 []] true (Bv (anyN list.length (fun j => (!(okF (at_ list j)))))) ∧ ((slFeat false list : AV) = slFeat false list) ∧ ((.fn 73 [] : AV) = .fn 73 []) ∧ True] (by kernel_rfl) hB ⟨h1, h2, ⟨(containsFeat_ok list), rfl, rfl, trivial⟩, trivial⟩ ?_
    refine ae_then ?_
    refine aw_ret ?_
    refine ae_ret hB (Bv (!(anyN list.length (fun j => (!(okF (at_ list j))))))) (by kernel_rfl) (.inl (by first | rfl | (refine congrArg Bv ?_; simp [okFeats, anyN_not, *]; done) | (refine congrArg Bv ?_; simp [okFeats, anyN_not, *]; omega) | (refine congrArg Bv ?_; simp_all [okFeats, anyN_not]; done) | (refine congrArg Bv ?_; simp_all [okFeats, anyN_not]; omega))) rfl (fun _ => trivial)
   ·refine aw_reg [(2, .dec true), (7, .dec false)] [4] [] [Bv false] [] [1 ≤ (list.length : Int), ¬ ((list.length : Int) ≤ most)] (by kernel_rfl) hB ⟨h1, h2, trivial⟩ ?_
    refine ae_then ?_
    refine aw_ret ?_
    refine ae_ret hB (Bv false) (by kernel_rfl) (.inl (by first | rfl | (refine congrArg Bv ?_; simp [okFeats, anyN_not, *]; done) | (refine congrArg Bv ?_; simp [okFeats, anyN_not, *]; omega) | (refine congrArg Bv ?_; simp_all [okFeats, anyN_not]; done) | (refine congrArg Bv ?_; simp_all [okFeats, anyN_not]; omega))) rfl (fun _ => trivial)
  ·refine aw_reg [(2, .dec false)] [4] [] [Bv false] [] [¬ (1 ≤ (list.length : Int))] (by kernel_rfl) hB ⟨h1, trivial⟩ ?_
   refine ae_then ?_
   refine aw_ret ?_
   refine ae_ret hB (Bv false) (by kernel_rfl) (.inl (by first | rfl | (refine congrArg Bv ?_; simp [okFeats, anyN_not, *]; done) | (refine congrArg Bv ?_; simp [okFeats, anyN_not, *]; omega) | (refine congrArg Bv ?_; simp_all [okFeats, anyN_not]; done) | (refine congrArg Bv ?_; simp_all [okFeats, anyN_not]; omega))) rfl (fun _ => trivial)


-- impl.ValidSeq
theorem ValidSeq_ok (list : List Feat) : Con Try.prog 32 [slFeat false list] true (Bv (okFeats list 72)) := by
  refine fn_ok (fn := Try.f32) (nt := 5) Try.func32 rfl rfl rfl rfl (by simp [taggedL, tagged, tagFeat]) fun B hB => ?_
  refine aw_lens (x := slFeat false list) 0 rfl (fun len_list => ?_)
  simp [LenOK, LenL, cFeat, fFeat, slFeat] at len_list
  refine aw_seq ?_
  refine aw_reg [] [0] [] [slFeat false list] [] [] (by kernel_rfl) hB trivial ?_
  refine ae_then ?_
  refine aw_seq ?_
  refine aw_reg [(1, .call [(true, slFeat false list), (true, I 72)] true (Bv (okFeats list 72)))] [2] [] [Bv (okFeats list 72)] [] [Con Try.prog 57 [slFeat false list, I 72] true (Bv (okFeats list 72)) ∧ ((slFeat false list : AV) = slFeat false list) ∧ ((I 72 : AV) = I 72) ∧ True] (by kernel_rfl) hB ⟨⟨(areFeats_ok list 72), rfl, rfl, trivial⟩, trivial⟩ ?_
  refine ae_then ?_
  refine aw_ret ?_
  refine ae_ret hB (Bv (okFeats list 72)) (by kernel_rfl) (.inl rfl) rfl (fun _ => trivial)


-- impl.abs
theorem abs_ok (n : Int) (hn : -9223372036854775807 ≤ n ∧ n ≤ 9223372036854775807) : Con Try.prog 44 [I n] true (I (n.natAbs : Int)) := by
  refine fn_ok (fn := Try.f44) (nt := 8) Try.func44 rfl rfl rfl rfl (by simp [taggedL, tagged]) fun B hB => ?_
  refine aw_seq ?_
  refine aw_reg [] [0] [] [I n] [] [] (by kernel_rfl) hB trivial ?_
  refine ae_then ?_
  refine aw_seq ?_
  refine aw_seq ?_
  by_cases h1 : n < 0
  ·refine aw_reg [(1, .dec true)] [0, 4] [] [I n, Bv true] [] [n < 0] (by kernel_rfl) hB ⟨h1, trivial⟩ ?_
   refine ae_then ?_
   refine aw_true rfl ?_
   refine aw_seq ?_
   refine aw_reg [] [2] [] [I (-n)] [] [inR .i64 (-n)] (by kernel_rfl) hB ⟨(inR_i64 (by omega) (by omega)), trivial⟩ ?_
   refine ae_then ?_
   refine aw_ret ?_
   refine ae_ret_then ?_
   refine ae_ret hB (I (-n)) (by kernel_rfl) (.inl (by refine congrArg I ?_; omega)) rfl (fun _ => trivial)
  ·refine aw_reg [(1, .dec false)] [0, 4] [] [I n, Bv false] [] [¬ (n < 0)] (by kernel_rfl) hB ⟨h1, trivial⟩ ?_
   refine ae_then ?_
   refine aw_false rfl ?_
   refine aw_skip ?_
   refine ae_then ?_
   refine aw_seq ?_
   refine aw_reg [] [2] [] [I n] [] [] (by kernel_rfl) hB trivial ?_
   refine ae_then ?_
   refine aw_ret ?_
   refine ae_ret hB (I n) (by kernel_rfl) (.inl (by refine congrArg I ?_; omega)) rfl (fun _ => trivial)


-- impl.near
theorem near_ok (a : Feat) (b : Feat) (ha : okF a = true) (hb : okF b = true) : Con Try.prog 56 [agFeat a, agFeat b] true (Bv (nearB a b)) := by
  have ha' := okF_iff.1 ha
  have hb' := okF_iff.1 hb
  refine fn_ok (fn := Try.f56) (nt := 28) Try.func56 rfl rfl rfl rfl (by simp [taggedL, tagged]) fun B hB => ?_
  refine aw_seq ?_
  refine aw_reg [(0, .new 2), (1, .new 3)] [2, 3] [2, 3] [.ref 2 0, .ref 3 0] [some (bxFeat a), some (bxFeat b)] [] (by kernel_rfl) hB trivial ?_
  refine ae_then ?_
  refine aw_seq ?_
  by_cases h1 : a.D = b.D
  ·by_cases h2 : ((a.X - b.X).natAbs : Int) ≤ 40
   ·refine aw_reg [(4, .dec true), (11, .call [(true, I (a.X - b.X))] true (I ((a.X - b.X).natAbs : Int))), (12, .dec true), (20, .call [(true, I (a.Y - b.Y))] true (I ((a.Y - b.Y).natAbs : Int)))] [4] [] [Bv (decide (((a.Y - b.Y).natAbs : Int) ≤ 40))] [] [a.D = b.D, inR .i64 (a.X - b.X), Con Try.prog 44 [I (a.X - b.X)] true (I ((a.X - b.X).natAbs : Int)) ∧ ((I (a.X - b.X) : AV) = I (a.X - b.X)) ∧ True, ((a.X - b.X).natAbs : Int) ≤ 40, inR .i64 (a.Y - b.Y), Con Try.prog 44 [I (a.Y - b.Y)] true (I ((a.Y - b.Y).natAbs : Int)) ∧ ((I (a.Y - b.Y) : AV) = I (a.Y - b.Y)) ∧ True] (by kernel_rfl) hB ⟨h1, (inR_i64 (by omega) (by omega)), ⟨(abs_ok (a.X - b.X) (by omega)), rfl, trivial⟩, h2, (inR_i64 (by omega) (by omega)), ⟨(abs_ok (a.Y - b.Y) (by omega)), rfl, trivial⟩, trivial⟩ ?_
    refine ae_then ?_
    refine aw_ret ?_
    refine ae_ret hB (Bv (decide (((a.Y - b.Y).natAbs : Int) ≤ 40))) (by kernel_rfl) (.inl (by first | rfl | (refine congrArg Bv ?_; simp [nearB, *]; done) | (refine congrArg Bv ?_; simp [nearB, *]; omega) | (refine congrArg Bv ?_; simp_all [nearB]; done) | (refine congrArg Bv ?_; simp_all [nearB]; omega))) rfl (fun _ => trivial)
   ·refine aw_reg [(4, .dec true), (11, .call [(true, I (a.X - b.X))] true (I ((a.X - b.X).natAbs : Int))), (12, .dec false)] [4] [] [Bv false] [] [a.D = b.D, inR .i64 (a.X - b.X), Con Try.prog 44 [I (a.X - b.X)] true (I ((a.X - b.X).natAbs : Int)) ∧ ((I (a.X - b.X) : AV) = I (a.X - b.X)) ∧ True, ¬ (((a.X - b.X).natAbs : Int) ≤ 40)] (by kernel_rfl) hB ⟨h1, (inR_i64 (by omega) (by omega)), ⟨(abs_ok (a.X - b.X) (by omega)), rfl, trivial⟩, h2, trivial⟩ ?_
    refine ae_then ?_
    refine aw_ret ?_
    refine ae_ret hB (Bv false) (by kernel_rfl) (.inl (by first | rfl | (refine congrArg Bv ?_; simp [nearB, *]; done) | (refine congrArg Bv ?_; simp [nearB, *]; omega) | (refine congrArg Bv ?_; simp_all [nearB]; done) | (refine congrArg Bv ?_; simp_all [nearB]; omega))) rfl (fun _ => trivial)
  ·refine aw_reg [(4, .dec false)] [4] [] [Bv false] [] [¬ (a.D = b.D)] (by kernel_rfl) hB ⟨h1, trivial⟩ ?_
   refine ae_then ?_
   refine aw_ret ?_
   refine ae_ret hB (Bv false) (by kernel_rfl) (.inl (by first | rfl | (refine congrArg Bv ?_; simp [nearB, *]; done) | (refine congrArg Bv ?_; simp [nearB, *]; omega) | (refine congrArg Bv ?_; simp_all [nearB]; done) | (refine congrArg Bv ?_; simp_all [nearB]; omega))) rfl (fun _ => trivial)


-- impl.ValidTrained
theorem equalNear_ok (s1 : List Feat) (s2 : List Feat) (hel : ∀ j, j < s1.length → j < s2.length → okF (at_ s1 j) = true ∧ okF (at_ s2 j) = true) : Con Try.prog 55 [slFeat false s1, slFeat false s2, .fn 56 []] true (Bv (decide (s1.length = s2.length) && allN s1.length (fun j => nearB (at_ s1 j) (at_ s2 j)))) := by
  refine fn_ok (fn := Try.f55) (nt := 32) Try.func55 rfl rfl rfl rfl (by simp [taggedL, tagged, tagFeat]) fun B hB => ?_
  refine aw_lens (x := slFeat false s1) 0 rfl (fun len_s1 => ?_)
  simp [LenOK, LenL, cFeat, fFeat, slFeat] at len_s1
  refine aw_lens (x := slFeat false s2) 1 rfl (fun len_s2 => ?_)
  simp [LenOK, LenL, cFeat, fFeat, slFeat] at len_s2
  refine aw_seq ?_
  refine aw_reg [] [0, 1, 2] [] [slFeat false s1, slFeat false s2, .fn 56 []] [] [] (by kernel_rfl) hB trivial ?_
  refine ae_then ?_
  refine aw_seq ?_
  refine aw_seq ?_
  by_cases h1 : (s1.length : Int) = (s2.length : Int)
  ·have hle :  s1.length = s2.length := by omega
   refine aw_reg [(4, .dec false)] [0, 1, 2, 14] [] [slFeat false s1, slFeat false s2, .fn 56 [], Bv false] [] [¬ ((s1.length : Int) ≠ (s2.length : Int))] (by kernel_rfl) hB ⟨(fun hq => hq h1), trivial⟩ ?_
   refine ae_then ?_
   refine aw_false rfl ?_
   refine aw_skip ?_
   refine ae_then ?_
   refine aw_seq ?_
   refine aw_seq ?_
   refine aw_reg [] [1, 2, 15, 16, 17] [] [slFeat false s2, .fn 56 [], slFeat false s1, I (s1.length : Int), I 0] [] [] (by kernel_rfl) hB trivial ?_
   refine ae_then ?_
   refine aw_block ?_
   refine aw_loop (fun gn gσ => ∃ (t17 : Int), gn = ((s1.length : Int) - t17).toNat ∧ (0 ≤ t17 ∧ t17 ≤ (s1.length : Int)) ∧ (∀ j : Nat, (j : Int) < t17 → nearB (at_ s1 j) (at_ s2 j) = true) ∧ gσ = mkS [(1, slFeat false s2), (2, .fn 56 []), (15, slFeat false s1), (16, I (s1.length : Int)), (17, I t17)] []) (((s1.length : Int) - 0).toNat) ⟨0, rfl, (by omega), (by intro j hj; omega), rfl⟩ (fun gn gσ hI => ?_)
   obtain ⟨t17, rfl, hi0, hall0, rfl⟩ := hI
   refine aw_seq ?_
   by_cases h2 : t17 < (s1.length : Int)
   ·have hi : t17.toNat < s1.length := by omega
    have hi2 : t17.toNat < s2.length := by omega
    refine aw_reg [(0, .dec true)] [1, 2, 15, 16, 17, 18] [] [slFeat false s2, .fn 56 [], slFeat false s1, I (s1.length : Int), I t17, Bv true] [] [t17 < (s1.length : Int)] (by kernel_rfl) hB ⟨h2, trivial⟩ ?_
    refine ae_then ?_
    refine aw_seq ?_
    refine aw_true rfl ?_
    refine aw_skip ?_
    refine ae_then ?_
    refine aw_seq ?_
    refine aw_block ?_
    refine aw_seq ?_
    refine aw_reg [(3, .new 8)] [1, 2, 7, 8, 15, 16, 17] [8] [slFeat false s2, .fn 56 [], I t17, .ref 8 0, slFeat false s1, I (s1.length : Int), I t17] [some (bxFeat (at_ s1 t17.toNat))] [(0 : Int) ≤ t17 ∧ t17 < (s1.length : Int)] (by kernel_rfl) hB ⟨⟨(by omega), (by omega)⟩, trivial⟩ ?_
    refine ae_then ?_
    refine aw_seq ?_
    refine aw_reg [(4, .new 9)] [1, 2, 8, 9, 15, 16, 17] [8, 9] [slFeat false s2, .fn 56 [], .ref 8 0, .ref 9 0, slFeat false s1, I (s1.length : Int), I t17] [some (bxFeat (at_ s1 t17.toNat)), some (bxFeat (at_ s2 t17.toNat))] [(0 : Int) ≤ t17 ∧ t17 < (s2.length : Int)] (by kernel_rfl) hB ⟨⟨(by omega), (by omega)⟩, trivial⟩ ?_
    refine ae_then ?_
    refine aw_seq ?_
    rcases Bool.eq_false_or_eq_true (nearB (at_ s1 t17.toNat) (at_ s2 t17.toNat)) with h3 | h3
    ·refine aw_reg [(3, .call [(true, agFeat (at_ s1 t17.toNat)), (true, agFeat (at_ s2 t17.toNat))] true (Bv true))] [1, 2, 15, 16, 17, 30] [] [slFeat false s2, .fn 56 [], slFeat false s1, I (s1.length : Int), I t17, Bv false] [] [Con Try.prog 56 [agFeat (at_ s1 t17.toNat), agFeat (at_ s2 t17.toNat)] true (Bv true) ∧ ((agFeat (at_ s1 t17.toNat) : AV) = agFeat (at_ s1 t17.toNat)) ∧ ((agFeat (at_ s2 t17.toNat) : AV) = agFeat (at_ s2 t17.toNat)) ∧ True] (by kernel_rfl) hB ⟨⟨(con_bool h3 (near_ok (at_ s1 t17.toNat) (at_ s2 t17.toNat) (hel _ hi hi2).1 (hel _ hi hi2).2)), rfl, rfl, trivial⟩, trivial⟩ ?_
     refine ae_then ?_
     refine aw_false rfl ?_
     refine aw_skip ?_
     refine ae_block 1 ?_
     refine ae_then ?_
     refine aw_reg [] [1, 2, 15, 16, 17] [] [slFeat false s2, .fn 56 [], slFeat false s1, I (s1.length : Int), I (t17 + 1)] [] [inR .i64 (t17 + 1)] (by kernel_rfl) hB ⟨(inR_i64 (by omega) (by omega)), trivial⟩ ?_
     exact ae_again _ (by omega) ⟨(t17 + 1), rfl, (by omega), (by intro j hj; by_cases ej : j = t17.toNat; (subst ej; assumption); exact hall0 j (by omega)), rfl⟩
    ·have hfin : allN s1.length (fun j => nearB (at_ s1 j) (at_ s2 j)) = false := allN_not hi h3
     refine aw_reg [(3, .call [(true, agFeat (at_ s1 t17.toNat)), (true, agFeat (at_ s2 t17.toNat))] true (Bv false))] [1, 2, 15, 16, 17, 30] [] [slFeat false s2, .fn 56 [], slFeat false s1, I (s1.length : Int), I t17, Bv true] [] [Con Try.prog 56 [agFeat (at_ s1 t17.toNat), agFeat (at_ s2 t17.toNat)] true (Bv false) ∧ ((agFeat (at_ s1 t17.toNat) : AV) = agFeat (at_ s1 t17.toNat)) ∧ ((agFeat (at_ s2 t17.toNat) : AV) = agFeat (at_ s2 t17.toNat)) ∧ True] (by kernel_rfl) hB ⟨⟨(con_bool h3 (near_ok (at_ s1 t17.toNat) (at_ s2 t17.toNat) (hel _ hi hi2).1 (hel _ hi hi2).2)), rfl, rfl, trivial⟩, trivial⟩ ?_
     refine ae_then ?_
     refine aw_true rfl ?_
     refine aw_seq ?_
     refine aw_reg [] [6] [] [Bv false] [] [] (by kernel_rfl) hB trivial ?_
     refine ae_then ?_
     refine aw_ret ?_
     refine ae_ret_block (ae_ret_then (ae_ret_then (ae_ret_block (ae_ret_then ?_))))
     refine ae_ret hB (Bv false) (by kernel_rfl) (.inl (by refine congrArg Bv ?_; first | (rw [hfin, decide_eq_true hle]; rfl) | (rw [hfin, Bool.and_false]) | (rw [decide_eq_false hle, Bool.false_and]))) rfl (fun _ => trivial)
   ·have hfin : allN s1.length (fun j => nearB (at_ s1 j) (at_ s2 j)) = true := allN_at (fun j hj => hall0 j (by omega))
    have hle : s1.length = s2.length := by omega
    refine aw_reg [(0, .dec false)] [1, 2, 15, 16, 17, 18] [] [slFeat false s2, .fn 56 [], slFeat false s1, I (s1.length : Int), I t17, Bv false] [] [¬ (t17 < (s1.length : Int))] (by kernel_rfl) hB ⟨h2, trivial⟩ ?_
    refine ae_then ?_
    refine aw_seq ?_
    refine aw_false rfl ?_
    refine aw_exit ?_
    refine ae_exit_then ?_
    refine ae_exit_then ?_
    refine ae_exit_same ?_
    refine ae_then ?_
    refine aw_seq ?_
    refine aw_reg [] [6] [] [Bv true] [] [] (by kernel_rfl) hB trivial ?_
    refine ae_then ?_
    refine aw_ret ?_
    refine ae_ret hB (Bv true) (by kernel_rfl) (.inl (by refine congrArg Bv ?_; first | (rw [hfin, decide_eq_true hle]; rfl) | (rw [hfin, Bool.and_false]) | (rw [decide_eq_false hle, Bool.false_and]))) rfl (fun _ => trivial)
  ·have hle : ¬ s1.length = s2.length := by omega
   refine aw_reg [(4, .dec true)] [0, 1, 2, 14] [] [slFeat false s1, slFeat false s2, .fn 56 [], Bv true] [] [(s1.length : Int) ≠ (s2.length : Int)] (by kernel_rfl) hB ⟨h1, trivial⟩ ?_
   refine ae_then ?_
   refine aw_true rfl ?_
   refine aw_seq ?_
   refine aw_reg [] [6] [] [Bv false] [] [] (by kernel_rfl) hB trivial ?_
   refine ae_then ?_
   refine aw_ret ?_
   refine ae_ret_then ?_
   refine ae_ret hB (Bv false) (by kernel_rfl) (.inl (by refine congrArg Bv ?_; first | (rw [hfin, decide_eq_true hle]; rfl) | (rw [hfin, Bool.and_false]) | (rw [decide_eq_false hle, Bool.false_and]))) rfl (fun _ => trivial)

theorem ValidTrained_ok (t : Trained) (ok : okTrained t) : Con Try.prog 31 [agTrained t] true (Bv (okTrained' t)) := by
  refine fn_ok (fn := Try.f31) (nt := 28) Try.func31 rfl rfl rfl rfl (by simp [taggedL, tagged, tagFeat]) fun B hB => ?_
  refine aw_lens (x := agTrained t) 0 rfl (fun len_t => ?_)
  simp [LenOK, LenL, cFeat, fFeat, slFeat] at len_t
  refine aw_seq ?_
  refine aw_reg [(0, .new 1)] [1] [1] [.ref 1 0] [some (bxTrained t)] [] (by kernel_rfl) hB trivial ?_
  refine ae_then ?_
  refine aw_seq ?_
  rcases Bool.eq_false_or_eq_true (okLabel t.Label) with h1 | h1
  ·rcases Bool.eq_false_or_eq_true (okFeats t.Base 72) with h2 | h2
   ·rcases Bool.eq_false_or_eq_true (okFeats t.Feats 72) with h3 | h3
    ·rcases Bool.eq_false_or_eq_true (decide (t.Base.length = t.Feats.length) && allN t.Base.length (fun j => nearB (at_ t.Base j) (at_ t.Feats j))) with h4 | h4
     ·refine aw_reg [(2, .call [(true, Sv t.Label)] true (Bv true)), (6, .call [(true, slFeat false t.Base)] true (Bv true)), (11, .call [(true, slFeat false t.Feats)] true (Bv true)), (18, .call [(true, slFeat false t.Base), (true, slFeat false t.Feats), (true, .fn 56 [])] true (Bv true)), (23, .call [(true, I t.Count), (true, I 0), (true, I 100)] true (Bv (inB t.Count 0 100)))] [2] [] [Bv (inB t.Count 0 100)] [] [Con Try.prog 54 [Sv t.Label] true (Bv true) ∧ ((Sv t.Label : AV) = Sv t.Label) ∧ True, Con Try.prog 32 [slFeat false t.Base] true (Bv true) ∧ ((slFeat false t.Base : AV) = slFeat false t.Base) ∧ True, Con Try.prog 32 [slFeat false t.Feats] true (Bv true) ∧ ((slFeat false t.Feats : AV) = slFeat false t.Feats) ∧ True, Con Try.prog 55 [slFeat false t.Base, slFeat false t.Feats, .fn 56 []] true (Bv true) ∧ ((slFeat false t.Base : AV) = slFeat false t.Base) ∧ ((slFeat false t.Feats : AV) = slFeat false t.Feats) ∧ ((.fn 56 [] : AV) = .fn 56 []) ∧ True, Con Try.prog 33 [I t.Count, I 0, I 100] true (Bv (inB t.Count 0 100)) ∧ ((I t.Count : AV) = I t.Count) ∧ ((I 0 : AV) = I 0) ∧ ((I 100 : AV) = I 100) ∧ True] (by kernel_rfl) hB ⟨⟨(con_bool h1 (implIsLabel_ok t.Label ok)), rfl, trivial⟩, ⟨(con_bool h2 (ValidSeq_ok t.Base)), rfl, trivial⟩, ⟨(con_bool h3 (ValidSeq_ok t.Feats)), rfl, trivial⟩, ⟨(con_bool h4 (equalNear_ok t.Base t.Feats (fun j h1 h2 => ⟨okFeats_at (by assumption) h1, okFeats_at (by assumption) h2⟩))), rfl, rfl, rfl, trivial⟩, ⟨(within_ok t.Count 0 100), rfl, rfl, rfl, trivial⟩, trivial⟩ ?_
      refine ae_then ?_
      refine aw_ret ?_
      refine ae_ret hB (Bv (inB t.Count 0 100)) (by kernel_rfl) (.inl (by first | rfl | (refine congrArg Bv ?_; simp [okTrained', inB, *]; done) | (refine congrArg Bv ?_; simp [okTrained', inB, *]; omega) | (refine congrArg Bv ?_; simp_all [okTrained', inB]; done) | (refine congrArg Bv ?_; simp_all [okTrained', inB]; omega))) rfl (fun _ => trivial)
     ·refine aw_reg [(2, .call [(true, Sv t.Label)] true (Bv true)), (6, .call [(true, slFeat false t.Base)] true (Bv true)), (11, .call [(true, slFeat false t.Feats)] true (Bv true)), (18, .call [(true, slFeat false t.Base), (true, slFeat false t.Feats), (true, .fn 56 [])] true (Bv false))] [2] [] [Bv false] [] [Con Try.prog 54 [Sv t.Label] true (Bv true) ∧ ((Sv t.Label : AV) = Sv t.Label) ∧ True, Con Try.prog 32 [slFeat false t.Base] true (Bv true) ∧ ((slFeat false t.Base : AV) = slFeat false t.Base) ∧ True, Con Try.prog 32 [slFeat false t.Feats] true (Bv true) ∧ ((slFeat false t.Feats : AV) = slFeat false t.Feats) ∧ True, Con Try.prog 55 [slFeat false t.Base, slFeat false t.Feats, .fn 56 []] true (Bv false) ∧ ((slFeat false t.Base : AV) = slFeat false t.Base) ∧ ((slFeat false t.Feats : AV) = slFeat false t.Feats) ∧ ((.fn 56 [] : AV) = .fn 56 []) ∧ True] (by kernel_rfl) hB ⟨⟨(con_bool h1 (implIsLabel_ok t.Label ok)), rfl, trivial⟩, ⟨(con_bool h2 (ValidSeq_ok t.Base)), rfl, trivial⟩, ⟨(con_bool h3 (ValidSeq_ok t.Feats)), rfl, trivial⟩, ⟨(con_bool h4 (equalNear_ok t.Base t.Feats (fun j h1 h2 => ⟨okFeats_at (by assumption) h1, okFeats_at (by assumption) h2⟩))), rfl, rfl, rfl, trivial⟩, trivial⟩ ?_
      refine ae_then ?_
      refine aw_ret ?_
      refine ae_ret hB (Bv false) (by kernel_rfl) (.inl (by first | rfl | (refine congrArg Bv ?_; simp [okTrained', inB, *]; done) | (refine congrArg Bv ?_; simp [okTrained', inB, *]; omega) | (refine congrArg Bv ?_; simp_all [okTrained', inB]; done) | (refine congrArg Bv ?_; simp_all [okTrained', inB]; omega))) rfl (fun _ => trivial)
    ·refine aw_reg [(2, .call [(true, Sv t.Label)] true (Bv true)), (6, .call [(true, slFeat false t.Base)] true (Bv true)), (11, .call [(true, slFeat false t.Feats)] true (Bv false))] [2] [] [Bv false] [] [Con Try.prog 54 [Sv t.Label] true (Bv true) ∧ ((Sv t.Label : AV) = Sv t.Label) ∧ True, Con Try.prog 32 [slFeat false t.Base] true (Bv true) ∧ ((slFeat false t.Base : AV) = slFeat false t.Base) ∧ True, Con Try.prog 32 [slFeat false t.Feats] true (Bv false) ∧ ((slFeat false t.Feats : AV) = slFeat false t.Feats) ∧ True] (by kernel_rfl) hB ⟨⟨(con_bool h1 (implIsLabel_ok t.Label ok)), rfl, trivial⟩, ⟨(con_bool h2 (ValidSeq_ok t.Base)), rfl, trivial⟩, ⟨(con_bool h3 (ValidSeq_ok t.Feats)), rfl, trivial⟩, trivial⟩ ?_
     refine ae_then ?_
     refine aw_ret ?_
     refine ae_ret hB (Bv false) (by kernel_rfl) (.inl (by first | rfl | (refine congrArg Bv ?_; simp [okTrained', inB, *]; done) | (refine congrArg Bv ?_; simp [okTrained', inB, *]; omega) | (refine congrArg Bv ?_; simp_all [okTrained', inB]; done) | (refine congrArg Bv ?_; simp_all [okTrained', inB]; omega))) rfl (fun _ => trivial)
   ·refine aw_reg [(2, .call [(true, Sv t.Label)] true (Bv true)), (6, .call [(true, slFeat false t.Base)] true (Bv false))] [2] [] [Bv false] [] [Con Try.prog 54 [Sv t.Label] true (Bv true) ∧ ((Sv t.Label : AV) = Sv t.Label) ∧ True, Con Try.prog 32 [slFeat false t.Base] true (Bv false) ∧ ((slFeat false t.Base : AV) = slFeat false t.Base) ∧ True] (by kernel_rfl) hB ⟨⟨(con_bool h1 (implIsLabel_ok t.Label ok)), rfl, trivial⟩, ⟨(con_bool h2 (ValidSeq_ok t.Base)), rfl, trivial⟩, trivial⟩ ?_
    refine ae_then ?_
    refine aw_ret ?_
    refine ae_ret hB (Bv false) (by kernel_rfl) (.inl (by first | rfl | (refine congrArg Bv ?_; simp [okTrained', inB, *]; done) | (refine congrArg Bv ?_; simp [okTrained', inB, *]; omega) | (refine congrArg Bv ?_; simp_all [okTrained', inB]; done) | (refine congrArg Bv ?_; simp_all [okTrained', inB]; omega))) rfl (fun _ => trivial)
  ·refine aw_reg [(2, .call [(true, Sv t.Label)] true (Bv false))] [2] [] [Bv false] [] [Con Try.prog 54 [Sv t.Label] true (Bv false) ∧ ((Sv t.Label : AV) = Sv t.Label) ∧ True] (by kernel_rfl) hB ⟨⟨(con_bool h1 (implIsLabel_ok t.Label ok)), rfl, trivial⟩, trivial⟩ ?_
   refine ae_then ?_
   refine aw_ret ?_
   refine ae_ret hB (Bv false) (by kernel_rfl) (.inl (by first | rfl | (refine congrArg Bv ?_; simp [okTrained', inB, *]; done) | (refine congrArg Bv ?_; simp [okTrained', inB, *]; omega) | (refine congrArg Bv ?_; simp_all [okTrained', inB]; done) | (refine congrArg Bv ?_; simp_all [okTrained', inB]; omega))) rfl (fun _ => trivial)


-- impl.isBand
theorem isBand_ok (band : Int) (n : Int) (m : Int) (hn : 0 ≤ n ∧ n ≤ 4611686018427387904) (hm : 0 ≤ m ∧ m ≤ 4611686018427387904) : Con Try.prog 34 [I band, I n, I m] true (Bv (inB band 0 72 && decide (((n - m).natAbs : Int) ≤ band))) := by
  refine fn_ok (fn := Try.f34) (nt := 17) Try.func34 rfl rfl rfl rfl (by simp [taggedL, tagged]) fun B hB => ?_
  refine aw_seq ?_
  refine aw_reg [] [0, 1, 2] [] [I band, I n, I m] [] [] (by kernel_rfl) hB trivial ?_
  refine ae_then ?_
  refine aw_seq ?_
  rcases Bool.eq_false_or_eq_true (inB band 0 72) with h1 | h1
  ·refine aw_reg [(1, .call [(true, I band), (true, I 0), (true, I 72)] true (Bv true)), (6, .call [(true, I (n - m))] true (I ((n - m).natAbs : Int)))] [6] [] [Bv (decide (((n - m).natAbs : Int) ≤ band))] [] [Con Try.prog 33 [I band, I 0, I 72] true (Bv true) ∧ ((I band : AV) = I band) ∧ ((I 0 : AV) = I 0) ∧ ((I 72 : AV) = I 72) ∧ True, inR .i64 (n - m), Con Try.prog 44 [I (n - m)] true (I ((n - m).natAbs : Int)) ∧ ((I (n - m) : AV) = I (n - m)) ∧ True] (by kernel_rfl) hB ⟨⟨(con_bool h1 (within_ok band 0 72)), rfl, rfl, rfl, trivial⟩, (inR_i64 (by omega) (by omega)), ⟨(abs_ok (n - m) (by omega)), rfl, trivial⟩, trivial⟩ ?_
   refine ae_then ?_
   refine aw_ret ?_
   refine ae_ret hB (Bv (decide (((n - m).natAbs : Int) ≤ band))) (by kernel_rfl) (.inl (by refine congrArg Bv ?_; first | (simp [*]; done) | (simp [inB] at *; omega))) rfl (fun _ => trivial)
  ·refine aw_reg [(1, .call [(true, I band), (true, I 0), (true, I 72)] true (Bv false))] [6] [] [Bv false] [] [Con Try.prog 33 [I band, I 0, I 72] true (Bv false) ∧ ((I band : AV) = I band) ∧ ((I 0 : AV) = I 0) ∧ ((I 72 : AV) = I 72) ∧ True] (by kernel_rfl) hB ⟨⟨(con_bool h1 (within_ok band 0 72)), rfl, rfl, rfl, trivial⟩, trivial⟩ ?_
   refine ae_then ?_
   refine aw_ret ?_
   refine ae_ret hB (Bv false) (by kernel_rfl) (.inl (by refine congrArg Bv ?_; first | (simp [*]; done) | (simp [inB] at *; omega))) rfl (fun _ => trivial)


/-- Whether two lists may be matched: 0, or what is wrong. -/
def mtc (a b : List Feat) (band : Int) : Int := if okFeats a 72 = true ∧ okFeats b 72 = true then (if inB band 0 72 = true ∧ (((a.length : Int) - (b.length : Int)).natAbs : Int) ≤ band then 0 else 2) else 1
theorem mtc_ok {a b : List Feat} {band : Int} (ha : okFeats a 72 = true) (hb : okFeats b 72 = true) (h1 : 0 ≤ band ∧ band ≤ 72) (h2 : (((a.length : Int) - (b.length : Int)).natAbs : Int) ≤ band) : mtc a b band = 0 := by
  unfold mtc
  rw [if_pos ⟨ha, hb⟩, if_pos ⟨inB_iff.2 h1, h2⟩]

-- impl.matchable
theorem matchable_ok (a : List Feat) (b : List Feat) (band : Int) (hla : a.length ≤ 4611686018427387904) (hlb : b.length ≤ 4611686018427387904) : Con Try.prog 75 [slFeat false a, slFeat false b, I band] true (I (mtc a b band)) := by
  refine fn_ok (fn := Try.f75) (nt := 24) Try.func75 rfl rfl rfl rfl (by simp [taggedL, tagged, tagFeat]) fun B hB => ?_
  refine aw_lens (x := slFeat false a) 0 rfl (fun len_a => ?_)
  simp [LenOK, LenL, cFeat, fFeat, slFeat] at len_a
  refine aw_lens (x := slFeat false b) 1 rfl (fun len_b => ?_)
  simp [LenOK, LenL, cFeat, fFeat, slFeat] at len_b
  refine aw_seq ?_
  refine aw_reg [] [0, 1, 2] [] [slFeat false a, slFeat false b, I band] [] [] (by kernel_rfl) hB trivial ?_
  refine ae_then ?_
  refine aw_seq ?_
  refine aw_block ?_
  refine aw_seq ?_
  rcases Bool.eq_false_or_eq_true (okFeats a 72) with h1 | h1
  ·rcases Bool.eq_false_or_eq_true (okFeats b 72) with h2 | h2
   ·refine aw_reg [(1, .call [(true, slFeat false a)] true (Bv true)), (5, .call [(true, slFeat false b)] true (Bv true))] [0, 1, 2, 7] [] [slFeat false a, slFeat false b, I band, Bv false] [] [Con Try.prog 32 [slFeat false a] true (Bv true) ∧ ((slFeat false a : AV) = slFeat false a) ∧ True, Con Try.prog 32 [slFeat false b] true (Bv true) ∧ ((slFeat false b : AV) = slFeat false b) ∧ True] (by kernel_rfl) hB ⟨⟨(con_bool h1 (ValidSeq_ok a)), rfl, trivial⟩, ⟨(con_bool h2 (ValidSeq_ok b)), rfl, trivial⟩, trivial⟩ ?_
    refine ae_then ?_
    refine aw_false rfl ?_
    refine aw_seq ?_
    rcases Bool.eq_false_or_eq_true (inB band 0 72 && decide ((((a.length : Int) - (b.length : Int)).natAbs : Int) ≤ band)) with h3 | h3
    ·refine aw_reg [(5, .call [(true, I band), (true, I (a.length : Int)), (true, I (b.length : Int))] true (Bv true))] [16] [] [Bv false] [] [Con Try.prog 34 [I band, I (a.length : Int), I (b.length : Int)] true (Bv true) ∧ ((I band : AV) = I band) ∧ ((I (a.length : Int) : AV) = I (a.length : Int)) ∧ ((I (b.length : Int) : AV) = I (b.length : Int)) ∧ True] (by kernel_rfl) hB ⟨⟨(con_bool h3 (isBand_ok band (a.length : Int) (b.length : Int) (by omega) (by omega))), rfl, rfl, rfl, trivial⟩, trivial⟩ ?_
     refine ae_then ?_
     refine aw_false rfl ?_
     refine aw_skip ?_
     refine ae_block 0 ?_
     refine ae_then ?_
     refine aw_seq ?_
     refine aw_reg [] [6] [] [I 0] [] [] (by kernel_rfl) hB trivial ?_
     refine ae_then ?_
     refine aw_ret ?_
     refine ae_ret hB (I 0) (by kernel_rfl) (.inl (by refine congrArg I ?_; unfold mtc; first | (simp [*]; done) | (simp_all; done) | (simp_all; omega))) rfl (fun _ => trivial)
    ·refine aw_reg [(5, .call [(true, I band), (true, I (a.length : Int)), (true, I (b.length : Int))] true (Bv false))] [16] [] [Bv true] [] [Con Try.prog 34 [I band, I (a.length : Int), I (b.length : Int)] true (Bv false) ∧ ((I band : AV) = I band) ∧ ((I (a.length : Int) : AV) = I (a.length : Int)) ∧ ((I (b.length : Int) : AV) = I (b.length : Int)) ∧ True] (by kernel_rfl) hB ⟨⟨(con_bool h3 (isBand_ok band (a.length : Int) (b.length : Int) (by omega) (by omega))), rfl, rfl, rfl, trivial⟩, trivial⟩ ?_
     refine ae_then ?_
     refine aw_true rfl ?_
     refine aw_seq ?_
     refine aw_reg [] [6] [] [I 2] [] [] (by kernel_rfl) hB trivial ?_
     refine ae_then ?_
     refine aw_ret ?_
     refine ae_ret_block (ae_ret_then ?_)
     refine ae_ret hB (I 2) (by kernel_rfl) (.inl (by refine congrArg I ?_; unfold mtc; first | (simp [*]; done) | (simp_all; done) | (simp_all; omega))) rfl (fun _ => trivial)
   ·refine aw_reg [(1, .call [(true, slFeat false a)] true (Bv true)), (5, .call [(true, slFeat false b)] true (Bv false))] [0, 1, 2, 7] [] [slFeat false a, slFeat false b, I band, Bv true] [] [Con Try.prog 32 [slFeat false a] true (Bv true) ∧ ((slFeat false a : AV) = slFeat false a) ∧ True, Con Try.prog 32 [slFeat false b] true (Bv false) ∧ ((slFeat false b : AV) = slFeat false b) ∧ True] (by kernel_rfl) hB ⟨⟨(con_bool h1 (ValidSeq_ok a)), rfl, trivial⟩, ⟨(con_bool h2 (ValidSeq_ok b)), rfl, trivial⟩, trivial⟩ ?_
    refine ae_then ?_
    refine aw_true rfl ?_
    refine aw_seq ?_
    refine aw_reg [] [6] [] [I 1] [] [] (by kernel_rfl) hB trivial ?_
    refine ae_then ?_
    refine aw_ret ?_
    refine ae_ret_block (ae_ret_then ?_)
    refine ae_ret hB (I 1) (by kernel_rfl) (.inl (by refine congrArg I ?_; unfold mtc; first | (simp [*]; done) | (simp_all; done) | (simp_all; omega))) rfl (fun _ => trivial)
  ·refine aw_reg [(1, .call [(true, slFeat false a)] true (Bv false))] [0, 1, 2, 7] [] [slFeat false a, slFeat false b, I band, Bv true] [] [Con Try.prog 32 [slFeat false a] true (Bv false) ∧ ((slFeat false a : AV) = slFeat false a) ∧ True] (by kernel_rfl) hB ⟨⟨(con_bool h1 (ValidSeq_ok a)), rfl, trivial⟩, trivial⟩ ?_
   refine ae_then ?_
   refine aw_true rfl ?_
   refine aw_seq ?_
   refine aw_reg [] [6] [] [I 1] [] [] (by kernel_rfl) hB trivial ?_
   refine ae_then ?_
   refine aw_ret ?_
   refine ae_ret_block (ae_ret_then ?_)
   refine ae_ret hB (I 1) (by kernel_rfl) (.inl (by refine congrArg I ?_; unfold mtc; first | (simp [*]; done) | (simp_all; done) | (simp_all; omega))) rfl (fun _ => trivial)


-- impl.stepsBack
theorem stepsBack_ok : Con Try.prog 78 [] true (.agg [I 1, I 1, I 1, I 0, I 0, I 1]) := by
  refine fn_ok (fn := Try.f78) (nt := 5) Try.func78 rfl rfl rfl rfl (by simp [taggedL, tagged]) fun B hB => ?_
  refine aw_seq ?_
  refine aw_reg [(0, .new 0)] [0] [0] [.ref 0 0] [some (.box [I 0, I 0, I 0, I 0, I 0, I 0])] [] (by kernel_rfl) hB trivial ?_
  refine ae_then ?_
  refine aw_seq ?_
  refine aw_reg [] [0] [0] [.ref 0 0] [some (.box [I 1, I 1, I 1, I 0, I 0, I 1])] [] (by kernel_rfl) hB trivial ?_
  refine ae_then ?_
  refine aw_ret ?_
  refine ae_ret hB (.agg [I 1, I 1, I 1, I 0, I 0, I 1]) (by kernel_rfl) (.inl rfl) rfl (fun _ => (by simp [tagged, taggedL]))


-- impl.leastBefore
theorem leastBefore_ok (table : List (List Int)) (i : Int) (j : Int) (hi : 0 ≤ i ∧ i < (table.length : Int)) (hj : 0 ≤ j ∧ j ≤ 1000) (h1 : 1 ≤ i → j < ((at_ table (i - 1).toNat).length : Int)) (h2 : 1 ≤ j → j ≤ ((at_ table (i - 0).toNat).length : Int)) : Con Try.prog 77 [slLI false table, I i, I j] true (I (lb3 table i j)) := by
  refine fn_ok (fn := Try.f77) (nt := 41) Try.func77 rfl rfl rfl rfl (by simp [taggedL, tagged, tagLI]) fun B hB => ?_
  refine aw_lens (x := slLI false table) 0 rfl (fun len_table => ?_)
  simp [LenOK, LenL, cI, cLI, fI, fLI, slI, slLI] at len_table
  refine aw_seq ?_
  refine aw_reg [] [0, 1, 2] [] [slLI false table, I i, I j] [] [] (by kernel_rfl) hB trivial ?_
  refine ae_then ?_
  refine aw_seq ?_
  refine aw_reg [] [0, 1, 2, 7] [] [slLI false table, I i, I j, I 1099511627776] [] [] (by kernel_rfl) hB trivial ?_
  refine ae_then ?_
  refine aw_seq ?_
  refine aw_seq ?_
  refine aw_reg [(0, .call [] true (.agg [I 1, I 1, I 1, I 0, I 0, I 1]))] [0, 1, 2, 7, 10, 11] [] [slLI false table, I i, I j, I 1099511627776, .agg [I 1, I 1, I 1, I 0, I 0, I 1], I 0] [] [Con Try.prog 78 [] true (.agg [I 1, I 1, I 1, I 0, I 0, I 1]) ∧ True] (by kernel_rfl) hB ⟨⟨(stepsBack_ok), trivial⟩, trivial⟩ ?_
  refine ae_then ?_
  refine aw_block ?_
  refine aw_loop (fun gn gσ => ∃ (least : Int) (t11 : Int), gn = ((3 : Int) - t11).toNat ∧ (0 ≤ t11 ∧ t11 ≤ 3) ∧ (least = lbk table i j t11.toNat) ∧ gσ = mkS [(0, slLI false table), (1, I i), (2, I j), (7, I least), (10, .agg [I 1, I 1, I 1, I 0, I 0, I 1]), (11, I t11)] []) (((3 : Int) - 0).toNat) ⟨1099511627776, 0, rfl, (by omega), (by rfl), rfl⟩ (fun gn gσ hI => ?_)
  obtain ⟨least, t11, rfl, ht0, hl0, rfl⟩ := hI
  refine aw_seq ?_
  by_cases h1 : t11 < 3
  ·have hcs : t11 = 0 ∨ t11 = 1 ∨ t11 = 2 := by omega
   rcases hcs with rfl | rfl | rfl
   ·refine aw_reg [(0, .dec true)] [0, 1, 2, 7, 10, 11, 12] [] [slLI false table, I i, I j, I least, .agg [I 1, I 1, I 1, I 0, I 0, I 1], I 0, Bv true] [] [(0 : Int) < 3] (by kernel_rfl) hB ⟨(by decide), trivial⟩ ?_
    refine ae_then ?_
    refine aw_seq ?_
    refine aw_true rfl ?_
    refine aw_skip ?_
    refine ae_then ?_
    refine aw_seq ?_
    refine aw_block ?_
    refine aw_seq ?_
    refine aw_reg [(1, .new 9)] [0, 1, 2, 7, 9, 10, 11] [9] [slLI false table, I i, I j, I least, .ref 9 0, .agg [I 1, I 1, I 1, I 0, I 0, I 1], I 0] [some (.box [I 1, I 1])] [(0 : Int) ≤ 0 ∧ 0 < (3 : Int)] (by kernel_rfl) hB ⟨⟨by decide, by decide⟩, trivial⟩ ?_
    refine ae_then ?_
    refine aw_seq ?_
    by_cases h2 : 1 ≤ i
    ·by_cases h3 : 1 ≤ j
     ·refine aw_reg [(3, .dec true), (8, .dec true)] [0, 1, 2, 7, 9, 10, 11, 23] [9] [slLI false table, I i, I j, I least, .ref 9 0, .agg [I 1, I 1, I 1, I 0, I 0, I 1], I 0, Bv true] [some (.box [I 1, I 1])] [(0 : Int) ≤ 0 ∧ 0 < (2 : Int), 1 ≤ i, (0 : Int) ≤ 1 ∧ 1 < (2 : Int), 1 ≤ j] (by kernel_rfl) hB ⟨⟨by decide, by decide⟩, h2, ⟨by decide, by decide⟩, h3, trivial⟩ ?_
      refine ae_then ?_
      refine aw_true rfl ?_
      refine aw_reg [] [0, 1, 2, 7, 10, 11] [] [slLI false table, I i, I j, I (min least (at_ (at_ table ((i - 1).toNat)) ((j - 1).toNat))), .agg [I 1, I 1, I 1, I 0, I 0, I 1], I 0] [] [(0 : Int) ≤ 0 ∧ 0 < (2 : Int), inR .i64 (i - 1), (0 : Int) ≤ (i - 1) ∧ (i - 1) < (table.length : Int), (0 : Int) ≤ 1 ∧ 1 < (2 : Int), inR .i64 (j - 1), (0 : Int) ≤ (j - 1) ∧ (j - 1) < (((at_ table ((i - 1).toNat)).length) : Int)] (by kernel_rfl) hB ⟨⟨by decide, by decide⟩, (inR_i64 (by omega) (by omega)), ⟨(by omega), (by omega)⟩, ⟨by decide, by decide⟩, (inR_i64 (by omega) (by omega)), ⟨(by omega), (by omega)⟩, trivial⟩ ?_
      refine ae_block 1 ?_
      refine ae_then ?_
      refine aw_reg [] [0, 1, 2, 7, 10, 11] [] [slLI false table, I i, I j, I (min least (at_ (at_ table ((i - 1).toNat)) ((j - 1).toNat))), .agg [I 1, I 1, I 1, I 0, I 0, I 1], I (0 + 1)] [] [inR .i64 (0 + 1)] (by kernel_rfl) hB ⟨(inR_i64 (by omega) (by omega)), trivial⟩ ?_
      exact ae_again _ (by omega) ⟨(min least (at_ (at_ table ((i - 1).toNat)) ((j - 1).toNat))), (0 + 1), rfl, (by omega), (by rw [hl0]; first | (show _ = lb1 table i j; unfold lb1; first | (rw [if_pos (by omega)]; rfl) | (rw [if_neg (by omega)]; rfl)) | (show _ = lb2 table i j; unfold lb2; first | (rw [if_pos (by omega)]; rfl) | (rw [if_neg (by omega)]; rfl)) | (show _ = lb3 table i j; unfold lb3; first | (rw [if_pos (by omega)]; rfl) | (rw [if_neg (by omega)]; rfl))), rfl⟩
     ·refine aw_reg [(3, .dec true), (8, .dec false)] [0, 1, 2, 7, 9, 10, 11, 23] [9] [slLI false table, I i, I j, I least, .ref 9 0, .agg [I 1, I 1, I 1, I 0, I 0, I 1], I 0, Bv false] [some (.box [I 1, I 1])] [(0 : Int) ≤ 0 ∧ 0 < (2 : Int), 1 ≤ i, (0 : Int) ≤ 1 ∧ 1 < (2 : Int), ¬ (1 ≤ j)] (by kernel_rfl) hB ⟨⟨by decide, by decide⟩, h2, ⟨by decide, by decide⟩, h3, trivial⟩ ?_
      refine ae_then ?_
      refine aw_false rfl ?_
      refine aw_skip ?_
      refine ae_block 1 ?_
      refine ae_then ?_
      refine aw_reg [] [0, 1, 2, 7, 10, 11] [] [slLI false table, I i, I j, I least, .agg [I 1, I 1, I 1, I 0, I 0, I 1], I (0 + 1)] [] [inR .i64 (0 + 1)] (by kernel_rfl) hB ⟨(inR_i64 (by omega) (by omega)), trivial⟩ ?_
      exact ae_again _ (by omega) ⟨least, (0 + 1), rfl, (by omega), (by rw [hl0]; first | (show _ = lb1 table i j; unfold lb1; first | (rw [if_pos (by omega)]; rfl) | (rw [if_neg (by omega)]; rfl)) | (show _ = lb2 table i j; unfold lb2; first | (rw [if_pos (by omega)]; rfl) | (rw [if_neg (by omega)]; rfl)) | (show _ = lb3 table i j; unfold lb3; first | (rw [if_pos (by omega)]; rfl) | (rw [if_neg (by omega)]; rfl))), rfl⟩
    ·refine aw_reg [(3, .dec false)] [0, 1, 2, 7, 9, 10, 11, 23] [9] [slLI false table, I i, I j, I least, .ref 9 0, .agg [I 1, I 1, I 1, I 0, I 0, I 1], I 0, Bv false] [some (.box [I 1, I 1])] [(0 : Int) ≤ 0 ∧ 0 < (2 : Int), ¬ (1 ≤ i)] (by kernel_rfl) hB ⟨⟨by decide, by decide⟩, h2, trivial⟩ ?_
     refine ae_then ?_
     refine aw_false rfl ?_
     refine aw_skip ?_
     refine ae_block 1 ?_
     refine ae_then ?_
     refine aw_reg [] [0, 1, 2, 7, 10, 11] [] [slLI false table, I i, I j, I least, .agg [I 1, I 1, I 1, I 0, I 0, I 1], I (0 + 1)] [] [inR .i64 (0 + 1)] (by kernel_rfl) hB ⟨(inR_i64 (by omega) (by omega)), trivial⟩ ?_
     exact ae_again _ (by omega) ⟨least, (0 + 1), rfl, (by omega), (by rw [hl0]; first | (show _ = lb1 table i j; unfold lb1; first | (rw [if_pos (by omega)]; rfl) | (rw [if_neg (by omega)]; rfl)) | (show _ = lb2 table i j; unfold lb2; first | (rw [if_pos (by omega)]; rfl) | (rw [if_neg (by omega)]; rfl)) | (show _ = lb3 table i j; unfold lb3; first | (rw [if_pos (by omega)]; rfl) | (rw [if_neg (by omega)]; rfl))), rfl⟩
   ·refine aw_reg [(0, .dec true)] [0, 1, 2, 7, 10, 11, 12] [] [slLI false table, I i, I j, I least, .agg [I 1, I 1, I 1, I 0, I 0, I 1], I 1, Bv true] [] [(1 : Int) < 3] (by kernel_rfl) hB ⟨(by decide), trivial⟩ ?_
    refine ae_then ?_
    refine aw_seq ?_
    refine aw_true rfl ?_
    refine aw_skip ?_
    refine ae_then ?_
    refine aw_seq ?_
    refine aw_block ?_
    refine aw_seq ?_
    refine aw_reg [(1, .new 9)] [0, 1, 2, 7, 9, 10, 11] [9] [slLI false table, I i, I j, I least, .ref 9 0, .agg [I 1, I 1, I 1, I 0, I 0, I 1], I 1] [some (.box [I 1, I 0])] [(0 : Int) ≤ 1 ∧ 1 < (3 : Int)] (by kernel_rfl) hB ⟨⟨by decide, by decide⟩, trivial⟩ ?_
    refine ae_then ?_
    refine aw_seq ?_
    by_cases h4 : 1 ≤ i
    ·refine aw_reg [(3, .dec true), (8, .dec true)] [0, 1, 2, 7, 9, 10, 11, 23] [9] [slLI false table, I i, I j, I least, .ref 9 0, .agg [I 1, I 1, I 1, I 0, I 0, I 1], I 1, Bv true] [some (.box [I 1, I 0])] [(0 : Int) ≤ 0 ∧ 0 < (2 : Int), 1 ≤ i, (0 : Int) ≤ 1 ∧ 1 < (2 : Int), 0 ≤ j] (by kernel_rfl) hB ⟨⟨by decide, by decide⟩, h4, ⟨by decide, by decide⟩, (by omega), trivial⟩ ?_
     refine ae_then ?_
     refine aw_true rfl ?_
     refine aw_reg [] [0, 1, 2, 7, 10, 11] [] [slLI false table, I i, I j, I (min least (at_ (at_ table ((i - 1).toNat)) ((j - 0).toNat))), .agg [I 1, I 1, I 1, I 0, I 0, I 1], I 1] [] [(0 : Int) ≤ 0 ∧ 0 < (2 : Int), inR .i64 (i - 1), (0 : Int) ≤ (i - 1) ∧ (i - 1) < (table.length : Int), (0 : Int) ≤ 1 ∧ 1 < (2 : Int), inR .i64 (j - 0), (0 : Int) ≤ (j - 0) ∧ (j - 0) < (((at_ table ((i - 1).toNat)).length) : Int)] (by kernel_rfl) hB ⟨⟨by decide, by decide⟩, (inR_i64 (by omega) (by omega)), ⟨(by omega), (by omega)⟩, ⟨by decide, by decide⟩, (inR_i64 (by omega) (by omega)), ⟨(by omega), (by omega)⟩, trivial⟩ ?_
     refine ae_block 1 ?_
     refine ae_then ?_
     refine aw_reg [] [0, 1, 2, 7, 10, 11] [] [slLI false table, I i, I j, I (min least (at_ (at_ table ((i - 1).toNat)) ((j - 0).toNat))), .agg [I 1, I 1, I 1, I 0, I 0, I 1], I (1 + 1)] [] [inR .i64 (1 + 1)] (by kernel_rfl) hB ⟨(inR_i64 (by omega) (by omega)), trivial⟩ ?_
     exact ae_again _ (by omega) ⟨(min least (at_ (at_ table ((i - 1).toNat)) ((j - 0).toNat))), (1 + 1), rfl, (by omega), (by rw [hl0]; first | (show _ = lb1 table i j; unfold lb1; first | (rw [if_pos (by omega)]; rfl) | (rw [if_neg (by omega)]; rfl)) | (show _ = lb2 table i j; unfold lb2; first | (rw [if_pos (by omega)]; rfl) | (rw [if_neg (by omega)]; rfl)) | (show _ = lb3 table i j; unfold lb3; first | (rw [if_pos (by omega)]; rfl) | (rw [if_neg (by omega)]; rfl))), rfl⟩
    ·refine aw_reg [(3, .dec false)] [0, 1, 2, 7, 9, 10, 11, 23] [9] [slLI false table, I i, I j, I least, .ref 9 0, .agg [I 1, I 1, I 1, I 0, I 0, I 1], I 1, Bv false] [some (.box [I 1, I 0])] [(0 : Int) ≤ 0 ∧ 0 < (2 : Int), ¬ (1 ≤ i)] (by kernel_rfl) hB ⟨⟨by decide, by decide⟩, h4, trivial⟩ ?_
     refine ae_then ?_
     refine aw_false rfl ?_
     refine aw_skip ?_
     refine ae_block 1 ?_
     refine ae_then ?_
     refine aw_reg [] [0, 1, 2, 7, 10, 11] [] [slLI false table, I i, I j, I least, .agg [I 1, I 1, I 1, I 0, I 0, I 1], I (1 + 1)] [] [inR .i64 (1 + 1)] (by kernel_rfl) hB ⟨(inR_i64 (by omega) (by omega)), trivial⟩ ?_
     exact ae_again _ (by omega) ⟨least, (1 + 1), rfl, (by omega), (by rw [hl0]; first | (show _ = lb1 table i j; unfold lb1; first | (rw [if_pos (by omega)]; rfl) | (rw [if_neg (by omega)]; rfl)) | (show _ = lb2 table i j; unfold lb2; first | (rw [if_pos (by omega)]; rfl) | (rw [if_neg (by omega)]; rfl)) | (show _ = lb3 table i j; unfold lb3; first | (rw [if_pos (by omega)]; rfl) | (rw [if_neg (by omega)]; rfl))), rfl⟩
   ·refine aw_reg [(0, .dec true)] [0, 1, 2, 7, 10, 11, 12] [] [slLI false table, I i, I j, I least, .agg [I 1, I 1, I 1, I 0, I 0, I 1], I 2, Bv true] [] [(2 : Int) < 3] (by kernel_rfl) hB ⟨(by decide), trivial⟩ ?_
    refine ae_then ?_
    refine aw_seq ?_
    refine aw_true rfl ?_
    refine aw_skip ?_
    refine ae_then ?_
    refine aw_seq ?_
    refine aw_block ?_
    refine aw_seq ?_
    refine aw_reg [(1, .new 9)] [0, 1, 2, 7, 9, 10, 11] [9] [slLI false table, I i, I j, I least, .ref 9 0, .agg [I 1, I 1, I 1, I 0, I 0, I 1], I 2] [some (.box [I 0, I 1])] [(0 : Int) ≤ 2 ∧ 2 < (3 : Int)] (by kernel_rfl) hB ⟨⟨by decide, by decide⟩, trivial⟩ ?_
    refine ae_then ?_
    refine aw_seq ?_
    by_cases h5 : 1 ≤ j
    ·refine aw_reg [(3, .dec true), (8, .dec true)] [0, 1, 2, 7, 9, 10, 11, 23] [9] [slLI false table, I i, I j, I least, .ref 9 0, .agg [I 1, I 1, I 1, I 0, I 0, I 1], I 2, Bv true] [some (.box [I 0, I 1])] [(0 : Int) ≤ 0 ∧ 0 < (2 : Int), 0 ≤ i, (0 : Int) ≤ 1 ∧ 1 < (2 : Int), 1 ≤ j] (by kernel_rfl) hB ⟨⟨by decide, by decide⟩, (by omega), ⟨by decide, by decide⟩, h5, trivial⟩ ?_
     refine ae_then ?_
     refine aw_true rfl ?_
     refine aw_reg [] [0, 1, 2, 7, 10, 11] [] [slLI false table, I i, I j, I (min least (at_ (at_ table ((i - 0).toNat)) ((j - 1).toNat))), .agg [I 1, I 1, I 1, I 0, I 0, I 1], I 2] [] [(0 : Int) ≤ 0 ∧ 0 < (2 : Int), inR .i64 (i - 0), (0 : Int) ≤ (i - 0) ∧ (i - 0) < (table.length : Int), (0 : Int) ≤ 1 ∧ 1 < (2 : Int), inR .i64 (j - 1), (0 : Int) ≤ (j - 1) ∧ (j - 1) < (((at_ table ((i - 0).toNat)).length) : Int)] (by kernel_rfl) hB ⟨⟨by decide, by decide⟩, (inR_i64 (by omega) (by omega)), ⟨(by omega), (by omega)⟩, ⟨by decide, by decide⟩, (inR_i64 (by omega) (by omega)), ⟨(by omega), (by omega)⟩, trivial⟩ ?_
     refine ae_block 1 ?_
     refine ae_then ?_
     refine aw_reg [] [0, 1, 2, 7, 10, 11] [] [slLI false table, I i, I j, I (min least (at_ (at_ table ((i - 0).toNat)) ((j - 1).toNat))), .agg [I 1, I 1, I 1, I 0, I 0, I 1], I (2 + 1)] [] [inR .i64 (2 + 1)] (by kernel_rfl) hB ⟨(inR_i64 (by omega) (by omega)), trivial⟩ ?_
     exact ae_again _ (by omega) ⟨(min least (at_ (at_ table ((i - 0).toNat)) ((j - 1).toNat))), (2 + 1), rfl, (by omega), (by rw [hl0]; first | (show _ = lb1 table i j; unfold lb1; first | (rw [if_pos (by omega)]; rfl) | (rw [if_neg (by omega)]; rfl)) | (show _ = lb2 table i j; unfold lb2; first | (rw [if_pos (by omega)]; rfl) | (rw [if_neg (by omega)]; rfl)) | (show _ = lb3 table i j; unfold lb3; first | (rw [if_pos (by omega)]; rfl) | (rw [if_neg (by omega)]; rfl))), rfl⟩
    ·refine aw_reg [(3, .dec true), (8, .dec false)] [0, 1, 2, 7, 9, 10, 11, 23] [9] [slLI false table, I i, I j, I least, .ref 9 0, .agg [I 1, I 1, I 1, I 0, I 0, I 1], I 2, Bv false] [some (.box [I 0, I 1])] [(0 : Int) ≤ 0 ∧ 0 < (2 : Int), 0 ≤ i, (0 : Int) ≤ 1 ∧ 1 < (2 : Int), ¬ (1 ≤ j)] (by kernel_rfl) hB ⟨⟨by decide, by decide⟩, (by omega), ⟨by decide, by decide⟩, h5, trivial⟩ ?_
     refine ae_then ?_
     refine aw_false rfl ?_
     refine aw_skip ?_
     refine ae_block 1 ?_
     refine ae_then ?_
     refine aw_reg [] [0, 1, 2, 7, 10, 11] [] [slLI false table, I i, I j, I least, .agg [I 1, I 1, I 1, I 0, I 0, I 1], I (2 + 1)] [] [inR .i64 (2 + 1)] (by kernel_rfl) hB ⟨(inR_i64 (by omega) (by omega)), trivial⟩ ?_
     exact ae_again _ (by omega) ⟨least, (2 + 1), rfl, (by omega), (by rw [hl0]; first | (show _ = lb1 table i j; unfold lb1; first | (rw [if_pos (by omega)]; rfl) | (rw [if_neg (by omega)]; rfl)) | (show _ = lb2 table i j; unfold lb2; first | (rw [if_pos (by omega)]; rfl) | (rw [if_neg (by omega)]; rfl)) | (show _ = lb3 table i j; unfold lb3; first | (rw [if_pos (by omega)]; rfl) | (rw [if_neg (by omega)]; rfl))), rfl⟩
  ·have hte : t11.toNat = 3 := by omega
   refine aw_reg [(0, .dec false)] [0, 1, 2, 7, 10, 11, 12] [] [slLI false table, I i, I j, I least, .agg [I 1, I 1, I 1, I 0, I 0, I 1], I t11, Bv false] [] [¬ (t11 < 3)] (by kernel_rfl) hB ⟨h1, trivial⟩ ?_
   refine ae_then ?_
   refine aw_seq ?_
   refine aw_false rfl ?_
   refine aw_exit ?_
   refine ae_exit_then ?_
   refine ae_exit_then ?_
   refine ae_exit_same ?_
   refine ae_then ?_
   refine aw_seq ?_
   refine aw_reg [] [6] [] [I least] [] [] (by kernel_rfl) hB trivial ?_
   refine ae_then ?_
   refine aw_ret ?_
   refine ae_ret hB (I least) (by kernel_rfl) (.inl (by rw [hl0, hte]; rfl)) rfl (fun _ => trivial)


-- impl.featCost
theorem featCost_ok (a : Feat) (b : Feat) (ha : okF a = true) (hb : okF b = true) : Con Try.prog 84 [agFeat a, agFeat b] true (I (costF a b)) := by
  have ha' := okF_iff.1 ha
  have hb' := okF_iff.1 hb
  refine fn_ok (fn := Try.f84) (nt := 31) Try.func84 rfl rfl rfl rfl (by simp [taggedL, tagged]) fun B hB => ?_
  refine aw_seq ?_
  refine aw_reg [(0, .new 2), (1, .new 3)] [2, 3] [2, 3] [.ref 2 0, .ref 3 0] [some (bxFeat a), some (bxFeat b)] [] (by kernel_rfl) hB trivial ?_
  refine ae_then ?_
  refine aw_seq ?_
  refine aw_reg [(5, .call [(true, I (a.D - b.D))] true (I ((a.D - b.D).natAbs : Int)))] [2, 3, 5] [2, 3] [.ref 2 0, .ref 3 0, I ((a.D - b.D).natAbs : Int)] [some (bxFeat a), some (bxFeat b)] [inR .i64 (a.D - b.D), Con Try.prog 44 [I (a.D - b.D)] true (I ((a.D - b.D).natAbs : Int)) ∧ ((I (a.D - b.D) : AV) = I (a.D - b.D)) ∧ True] (by kernel_rfl) hB ⟨(inR_i64 (by omega) (by omega)), ⟨(abs_ok (a.D - b.D) (by omega)), rfl, trivial⟩, trivial⟩ ?_
  refine ae_then ?_
  refine aw_seq ?_
  refine aw_reg [(5, .call [(true, I (a.X - b.X))] true (I ((a.X - b.X).natAbs : Int))), (11, .call [(true, I (a.Y - b.Y))] true (I ((a.Y - b.Y).natAbs : Int)))] [4] [] [I ((((a.X - b.X).natAbs : Int) + ((a.Y - b.Y).natAbs : Int)) + (16 * (min ((a.D - b.D).natAbs : Int) (8 - ((a.D - b.D).natAbs : Int)))))] [] [inR .i64 (a.X - b.X), Con Try.prog 44 [I (a.X - b.X)] true (I ((a.X - b.X).natAbs : Int)) ∧ ((I (a.X - b.X) : AV) = I (a.X - b.X)) ∧ True, inR .i64 (a.Y - b.Y), Con Try.prog 44 [I (a.Y - b.Y)] true (I ((a.Y - b.Y).natAbs : Int)) ∧ ((I (a.Y - b.Y) : AV) = I (a.Y - b.Y)) ∧ True, inR .i64 (((a.X - b.X).natAbs : Int) + ((a.Y - b.Y).natAbs : Int)), inR .i64 (8 - ((a.D - b.D).natAbs : Int)), inR .i64 (16 * (min ((a.D - b.D).natAbs : Int) (8 - ((a.D - b.D).natAbs : Int)))), inR .i64 ((((a.X - b.X).natAbs : Int) + ((a.Y - b.Y).natAbs : Int)) + (16 * (min ((a.D - b.D).natAbs : Int) (8 - ((a.D - b.D).natAbs : Int)))))] (by kernel_rfl) hB ⟨(inR_i64 (by omega) (by omega)), ⟨(abs_ok (a.X - b.X) (by omega)), rfl, trivial⟩, (inR_i64 (by omega) (by omega)), ⟨(abs_ok (a.Y - b.Y) (by omega)), rfl, trivial⟩, (inR_i64 (by omega) (by omega)), (inR_i64 (by omega) (by omega)), (inR_i64 (by omega) (by omega)), (inR_i64 (by omega) (by omega)), trivial⟩ ?_
  refine ae_then ?_
  refine aw_ret ?_
  refine ae_ret hB (I ((((a.X - b.X).natAbs : Int) + ((a.Y - b.Y).natAbs : Int)) + (16 * (min ((a.D - b.D).natAbs : Int) (8 - ((a.D - b.D).natAbs : Int)))))) (by kernel_rfl) (.inl (by refine congrArg I ?_; first | rfl | (unfold costF; omega))) rfl (fun _ => trivial)


theorem beq_ne {i k : Nat} (h : i ≠ k) : Nat.beq i k = false := Bool.eq_false_iff.2 fun e => h (Nat.eq_of_beq_eq_true e)
theorem at_set_eq {α : Type} [Inhabited α] {xs : List α} {k : Nat} {c : α} (h : k < xs.length) : at_ (xs.set k c) k = c := by simp [at_, h]
theorem at_set_ne {α : Type} [Inhabited α] {xs : List α} {k i : Nat} {c : α} (h : i ≠ k) : at_ (xs.set k c) i = at_ xs i := by
  have : ¬ k = i := fun e => h e.symm
  simp [at_, this]
theorem le_row {ob : Nat → Option Ob} {F N sz p n : Nat} {m : Nat → Nat} {g : Nat → Nat → List AV} {fr : Bool} {f : Nat → List AV} (h : ob F = some (.fam N sz m g)) (hp : p < N) (hn : m p = n)
    (hf : ∀ i, i < n → g p i = f i ∨ (AV.idsL (f i) = [] ∧ leL (fun _ => none) false (g p i) (f i))) : le ob true (.row F p) (.sl fr sz n f) := by
  simp only [le, h]
  exact ⟨fun _ => trivial, hp, trivial, hn, hf⟩

def oLIc (F : Nat) (x : List Int) (i : Nat) : List AV := [.row F i]
def oLI (F : Nat) (xs : List (List Int)) (i : Nat) : List AV := oLIc F (at_ xs i) i
def mLI (xs : List (List Int)) (p : Nat) : Nat := (at_ xs p).length
def gLI (xs : List (List Int)) (p : Nat) : Nat → List AV := fI (at_ xs p)
theorem oleLI {ob : Nat → Option Ob} {F : Nat} (fr : Bool) (xs : List (List Int)) (h : ob F = some (.fam xs.length 1 (mLI xs) (gLI xs))) : ∀ i, i < xs.length → AV.idsL (fLI fr xs i) = [] ∧ leL ob true (oLI F xs i) (fLI fr xs i) :=
  fun i hi => And.intro rfl (And.intro (le_row h hi rfl (fun q _ => .inl rfl)) rfl)
theorem olecatLI {ob : Nat → Option Ob} {F : Nat} (fr : Bool) (xs : List (List Int)) (x : List Int) {f : Nat → List AV} (h : ob F = some (.fam xs.length 1 (mLI xs) (gLI xs))) (hx : leL ob true (f 0) (cLI fr x)) : ∀ i, i < (xs ++ [x]).length → AV.idsL (fLI fr (xs ++ [x]) i) = [] ∧ leL ob true (catF xs.length (oLI F xs) f i) (fLI fr (xs ++ [x]) i) := by
  intro i hi
  by_cases hl : i < xs.length
  · have := oleLI fr xs h i hl
    rw [catF_lt hl]
    have e : fLI fr (xs ++ [x]) i = fLI fr xs i := by show cLI fr (at_ _ _) = cLI fr (at_ _ _); rw [at_left hl]
    rw [e]; exact this
  · have e : i = xs.length := by simp at hi; omega
    subst e
    rw [catF_ge (Nat.le_refl _), Nat.sub_self]
    have e : fLI fr (xs ++ [x]) xs.length = cLI fr x := by show cLI fr (at_ _ _) = _; rw [at_right (Nat.le_refl _)]; simp [at_]
    rw [e]; exact ⟨rfl, hx⟩
theorem ocatLI {F j N : Nat} (hF : Nat.beq F j = false) {xs : List (List Int)} {x : List Int} {g : Nat → List AV} (hN : N = xs.length) (hx : AV.joiL j F N (g 0) = oLIc F x N) : ∀ i, i < (xs ++ [x]).length → AV.joiL j F N (catF xs.length (oLI F xs) g i) = oLI F (xs ++ [x]) i := by
  subst hN
  intro i hi
  by_cases h : i < xs.length
  · rw [catF_lt h]
    simp [oLI, oLIc, at_left h, AV.joiL, AV.joi, hF]
  · have e : i = xs.length := by simp at hi; omega
    subst e
    rw [catF_ge (Nat.le_refl _), Nat.sub_self, hx]
    simp [oLI, at_right (Nat.le_refl _), at_]
theorem fcatLI {xs : List (List Int)} (x : List Int) {n : Nat} {f : Nat → List AV} (hn : n = x.length) (hf : ∀ i, i < n → f i = fI x i) : xs.length + 1 = (xs ++ [x]).length ∧ 1 = 1 ∧ ∀ p, p < (xs ++ [x]).length → famUp xs.length n (mLI xs) p = mLI (xs ++ [x]) p ∧ ∀ i, i < mLI (xs ++ [x]) p → famUpF xs.length f (gLI xs) p i = gLI (xs ++ [x]) p i ∨ (AV.idsL (gLI (xs ++ [x]) p i) = [] ∧ leL (fun _ => none) false (famUpF xs.length f (gLI xs) p i) (gLI (xs ++ [x]) p i)) := by
  refine ⟨by simp, rfl, fun p hp => ?_⟩
  by_cases h : p < xs.length
  · have e : Nat.beq p xs.length = false := Bool.eq_false_iff.2 fun e => by have := Nat.eq_of_beq_eq_true e; omega
    simp [famUp, famUpF, e, mLI, gLI, at_left h]
  · have e : p = xs.length := by simp at hp; omega
    subst e
    have e2 : at_ (xs ++ [x]) xs.length = x := by simp [at_right (Nat.le_refl _), at_]
    simp only [famUp, famUpF, Nat.beq_refl, cond_true, mLI, gLI, e2]
    exact ⟨hn, fun i hi => .inl (hf i (by omega))⟩
theorem osetLI (F P : Nat) (xs : List (List Int)) (ys : List Int) (i : Nat) : oLI F xs i = oLI F (xs.set P ys) i := by
  unfold oLI
  by_cases h : P = i
  · subst h
    by_cases hl : P < xs.length
    · simp [at_, hl, oLIc]
    · rw [List.set_eq_of_length_le (by omega)]
  · simp [at_, h]
theorem fnilLI (n : Nat) {g : Nat → Nat → List AV} : n = (List.replicate n ([] : List Int)).length ∧ 1 = 1 ∧ ∀ p, p < (List.replicate n ([] : List Int)).length → (fun _ : Nat => (0 : Nat)) p = mLI (List.replicate n ([] : List Int)) p ∧ ∀ i, i < mLI (List.replicate n ([] : List Int)) p → g p i = gLI (List.replicate n ([] : List Int)) p i ∨ (AV.idsL (gLI (List.replicate n ([] : List Int)) p i) = [] ∧ leL (fun _ => none) false (g p i) (gLI (List.replicate n ([] : List Int)) p i)) := by
  refine ⟨by simp, rfl, fun p hp => ?_⟩
  have e : mLI (List.replicate n ([] : List Int)) p = 0 := by simp only [List.length_replicate] at hp; simp [mLI, at_, hp]
  exact ⟨e.symm, fun i hi => by rw [e] at hi; exact absurd hi (Nat.not_lt_zero _)⟩
theorem fputLI {xs : List (List Int)} {P m1 : Nat} {ys : List Int} {f1 : Nat → List AV} (hP : P < xs.length) (hm : m1 = ys.length) (hf : ∀ i, i < m1 → f1 i = fI ys i) : xs.length = (xs.set P ys).length ∧ 1 = 1 ∧ ∀ p, p < (xs.set P ys).length → famUp P m1 (mLI xs) p = mLI (xs.set P ys) p ∧ ∀ i, i < mLI (xs.set P ys) p → famUpF P f1 (gLI xs) p i = gLI (xs.set P ys) p i ∨ (AV.idsL (gLI (xs.set P ys) p i) = [] ∧ leL (fun _ => none) false (famUpF P f1 (gLI xs) p i) (gLI (xs.set P ys) p i)) := by
  refine ⟨by simp, rfl, fun p hp => ?_⟩
  by_cases h : p = P
  · subst h
    have e : at_ (xs.set p ys) p = ys := at_set_eq hP
    refine ⟨?_, fun i hi => .inl ?_⟩
    · simp only [famUp, Nat.beq_refl, cond_true, mLI, e]; exact hm
    · simp only [mLI, e] at hi; simp only [famUpF, Nat.beq_refl, cond_true, gLI, e]; exact hf i (by omega)
  · have e : at_ (xs.set P ys) p = at_ xs p := at_set_ne h
    have b := beq_ne h
    refine ⟨?_, fun i hi => .inl ?_⟩
    · simp only [famUp, b, cond_false, mLI, e]
    · simp only [famUpF, b, cond_false, gLI, e]
theorem fsetLI {xs : List (List Int)} {P k : Nat} {c : Int} {g' : Nat → Nat → List AV} (hP : P < xs.length) (hk : k < (at_ xs P).length) (h1 : g' P k = cI c) (h2 : ∀ i, i ≠ k → g' P i = gLI xs P i) (h3 : ∀ p, p ≠ P → g' p = gLI xs p) : xs.length = (xs.set P ((at_ xs P).set k c)).length ∧ 1 = 1 ∧ ∀ p, p < (xs.set P ((at_ xs P).set k c)).length → mLI xs p = mLI (xs.set P ((at_ xs P).set k c)) p ∧ ∀ i, i < mLI (xs.set P ((at_ xs P).set k c)) p → g' p i = gLI (xs.set P ((at_ xs P).set k c)) p i ∨ (AV.idsL (gLI (xs.set P ((at_ xs P).set k c)) p i) = [] ∧ leL (fun _ => none) false (g' p i) (gLI (xs.set P ((at_ xs P).set k c)) p i)) := by
  refine ⟨by simp, rfl, fun p hp => ?_⟩
  by_cases h : p = P
  · subst h
    have e2 : at_ (xs.set p ((at_ xs p).set k c)) p = ((at_ xs p).set k c) := at_set_eq hP
    have e3 : ((at_ xs p).set k c) = (at_ xs p).set k c := rfl
    simp only [mLI, gLI, e2, e3]
    refine ⟨by simp, fun i hi => .inl ?_⟩
    by_cases hi2 : i = k
    · subst hi2
      rw [h1]
      show _ = cI (at_ _ _)
      rw [at_set_eq hk]
    · rw [h2 i hi2]
      show cI (at_ _ _) = cI (at_ _ _)
      rw [at_set_ne hi2]
  · have e : at_ (xs.set P ((at_ xs P).set k c)) p = at_ xs p := at_set_ne h
    simp only [mLI, gLI, e]
    refine ⟨trivial, fun i hi => .inl ?_⟩
    rw [h3 p h]; rfl

-- impl.costTable
theorem costTable_ok (a : List Feat) (b : List Feat) (band : Int) (hab : okAB a b) (hbd : 0 ≤ band ∧ band ≤ 1000) : ∃ (v : List (List Int)), (tbOk a b band v a.length) ∧ Con Try.prog 76 [slFeat false a, slFeat false b, I band] true (slLI true v) := by
  have hla := hab.2.2
  have hh : ∃ r : (List (List Int)), ((tbOk a b band r a.length) ∧ (True)) ∧ CallOK Try.prog 76 [slFeat false a, slFeat false b, I band] (lookO []) true (slLI true r) (lookO []) := by
    refine fn_okX (Φ := fun r : (List (List Int)) => (tbOk a b band r a.length) ∧ (True)) [] (fun r => []) (fn := Try.f76) (nt := 76) Try.func76 rfl rfl (args := [slFeat false a, slFeat false b, I band]) rfl (allcons (.inl ⟨rfl, tagFeat false _⟩) (allcons (.inl ⟨rfl, tagFeat false _⟩) (allcons (.inl ⟨rfl, trivial⟩) allnil))) (res := fun r => slLI true r) ?_
    refine x_seq ?_
    refine x_reg [] [0, 1, 2] [] [slFeat false a, slFeat false b, I band] [] [] (by kernel_rfl) trivial ?_
    refine xe_then ?_
    refine x_seq ?_
    refine x_reg [(2, .new 13)] [0, 1, 2, 7] [13] [slFeat false a, slFeat false b, I band, .arr 13] [some (.arr 1 ((a.length : Int).toNat) (fun _ => [nilA]))] [(0 : Int) ≤ (a.length : Int) ∧ ((a.length : Int) : Int) ≤ (a.length : Int) ∧ (24 : Int) * (a.length : Int) ≤ 281474976710656 ∧ (a.length : Int) ≤ 9223372036854775807] (by kernel_rfl) ⟨⟨(by omega), (by omega), (by omega), (by omega)⟩, trivial⟩ ?_
    refine xe_then ?_
    refine x_seq ?_
    refine x_seq ?_
    refine x_reg [] [0, 1, 2, 7, 15, 16] [13] [slFeat false a, slFeat false b, I band, .arr 13, I (a.length : Int), I 0] [some (.arr 1 ((a.length : Int).toNat) (fun _ => [nilA]))] [] (by kernel_rfl) trivial ?_
    refine xe_then ?_
    refine x_block ?_
    refine x_famN 13 8401 1 rfl (fun q _ => ⟨_, rfl, rfl⟩) (by kernel_rfl) ?_
    refine x_weak [] (T := [(0, slFeat false a), (1, slFeat false b), (2, I band), (7, .arr 13), (15, I (a.length : Int)), (16, I 0)]) (O := [(13, .oar [8401] 1 ((List.replicate ((a.length : Int).toNat) ([] : List Int)).length) (oLI 8401 (List.replicate ((a.length : Int).toNat) ([] : List Int)))), (8401, .fam (List.replicate ((a.length : Int).toNat) ([] : List Int)).length 1 (mLI (List.replicate ((a.length : Int).toNat) ([] : List Int))) (gLI (List.replicate ((a.length : Int).toNat) ([] : List Int))))]) rfl (⟨.inl rfl, .inl rfl, .inl rfl, .inl rfl, .inl rfl, .inl rfl, trivial⟩) (⟨.inr ⟨rfl, rfl, (by simp), fun i hi => .inl rfl⟩, .inr (fnilLI ((a.length : Int).toNat)), trivial⟩) ?_
    refine x_loop (X := Int × (List (List Int))) (fun x => mkS [(0, slFeat false a), (1, slFeat false b), (2, I band), (7, .arr 13), (15, I (a.length : Int)), (16, I x.1)] [(13, .oar [8401] 1 x.2.length (oLI 8401 x.2)), (8401, .fam x.2.length 1 (mLI x.2) (gLI x.2))]) (fun x => (0 ≤ x.1 ∧ x.1 ≤ (a.length : Int)) ∧ (tbOk a b band x.2 x.1.toNat) ∧ True) (fun x => ((a.length : Int) - x.1).toNat) (0, (List.replicate ((a.length : Int).toNat) ([] : List Int))) rfl (show (0 ≤ (0 : Int) ∧ (0 : Int) ≤ (a.length : Int)) ∧ (tbOk a b band (List.replicate ((a.length : Int).toNat) ([] : List Int)) (0 : Int).toNat) ∧ True from ⟨(by omega), (by exact tb_nil a b band (by first | rfl | omega | simp)), trivial⟩) (fun x hI => ?_)
    obtain ⟨t16, tb⟩ := x
    obtain ⟨hi0, htb, _⟩ : (0 ≤ t16 ∧ t16 ≤ (a.length : Int)) ∧ (tbOk a b band tb t16.toNat) ∧ True := hI
    show XW _ _ _ _ (mkS [(0, slFeat false a), (1, slFeat false b), (2, I band), (7, .arr 13), (15, I (a.length : Int)), (16, I t16)] [(13, .oar [8401] 1 tb.length (oLI 8401 tb)), (8401, .fam tb.length 1 (mLI tb) (gLI tb))]) _ _
    refine x_seq ?_
    by_cases h1 : t16 < (a.length : Int)
    ·have hi : t16.toNat < a.length := by omega
     have hix : ((t16.toNat : Nat) : Int) = t16 := by omega
     have htl := htb.1
     refine x_reg [(0, .dec true)] [0, 1, 2, 7, 15, 16, 17] [13, 8401] [slFeat false a, slFeat false b, I band, .arr 13, I (a.length : Int), I t16, Bv true] [some (.oar [8401] 1 tb.length (oLI 8401 tb)), some (.fam tb.length 1 (mLI tb) (gLI tb))] [t16 < (a.length : Int)] (by kernel_rfl) ⟨h1, trivial⟩ ?_
     refine xe_then ?_
     refine x_seq ?_
     refine x_true rfl ?_
     refine x_skip ?_
     refine xe_then ?_
     refine x_seq ?_
     refine x_block ?_
     refine x_seq ?_
     refine x_reg [] [0, 1, 2, 7, 8, 15, 16] [13, 8401] [slFeat false a, slFeat false b, I band, .arr 13, I t16, I (a.length : Int), I t16] [some (.oar [8401] 1 tb.length (oLI 8401 tb)), some (.fam tb.length 1 (mLI tb) (gLI tb))] [] (by kernel_rfl) trivial ?_
     refine xe_then ?_
     refine x_seq ?_
     refine x_reg [(4, .new 23)] [0, 1, 2, 7, 8, 15, 16] [13, 23, 8401] [slFeat false a, slFeat false b, I band, .arr 13, I t16, I (a.length : Int), I t16] [some (.oar [8401, 23] 1 tb.length (fun q => bif Nat.beq q t16.toNat then [.arr 23] else (oLI 8401 tb) q)), some (.arr 1 ((b.length : Int).toNat) (fun _ => [I 0])), some (.fam tb.length 1 (mLI tb) (gLI tb))] [(0 : Int) ≤ (b.length : Int) ∧ ((b.length : Int) : Int) ≤ (b.length : Int) ∧ (8 : Int) * (b.length : Int) ≤ 281474976710656 ∧ (b.length : Int) ≤ 9223372036854775807, (0 : Int) ≤ t16 ∧ t16 < (tb.length : Int), t16.toNat < tb.length] (by kernel_rfl) ⟨⟨(by omega), (by omega), (by omega), (by omega)⟩, ⟨(by omega), (by omega)⟩, (by omega), trivial⟩ ?_
     refine xe_then ?_
     refine x_seq ?_
     refine x_putrow 13 23 8401 t16.toNat rfl rfl rfl ((by omega)) (by first | exact Nat.le_refl _ | omega) (fun q _ => ⟨fun e => by subst e; simp only [Nat.beq_refl, cond_true], fun e => by simp only [beq_ne e, cond_false]; rfl⟩) (by kernel_rfl) ?_
     refine x_weak [] (T := [(0, slFeat false a), (1, slFeat false b), (2, I band), (7, .arr 13), (8, I t16), (15, I (a.length : Int)), (16, I t16)]) (O := [(13, .oar [8401] 1 ((tb.set t16.toNat (List.replicate ((b.length : Int).toNat) 0)).length) (oLI 8401 (tb.set t16.toNat (List.replicate ((b.length : Int).toNat) 0)))), (8401, .fam (tb.set t16.toNat (List.replicate ((b.length : Int).toNat) 0)).length 1 (mLI (tb.set t16.toNat (List.replicate ((b.length : Int).toNat) 0))) (gLI (tb.set t16.toNat (List.replicate ((b.length : Int).toNat) 0))))]) rfl (⟨.inl rfl, .inl rfl, .inl rfl, .inl rfl, .inl rfl, .inl rfl, .inl rfl, trivial⟩) (⟨.inr ⟨rfl, rfl, (by simp), fun i hi => .inl rfl⟩, .inr (fputLI ((by omega)) (by first | rfl | (simp; done) | (simp; omega)) (fun i_ h_ => (show ∀ i_ : Nat, i_ < ((List.replicate ((b.length : Int).toNat) 0) : List Int).length → (fun _ => [I 0]) i_ = (fI (List.replicate ((b.length : Int).toNat) 0)) i_ from fun i_ hi_ => (const_enc (enc := cI) rfl i_ hi_)) i_ (by first | exact h_ | (simpa using h_)))), trivial⟩) ?_
     refine x_reg [] [0, 1, 2, 7, 8, 15, 16, 26, 27] [13, 8401] [slFeat false a, slFeat false b, I band, .arr 13, I t16, I (a.length : Int), I t16, I (b.length : Int), I 0] [some (.oar [8401] 1 ((tb.set t16.toNat (List.replicate ((b.length : Int).toNat) 0)).length) (oLI 8401 (tb.set t16.toNat (List.replicate ((b.length : Int).toNat) 0)))), some (.fam (tb.set t16.toNat (List.replicate ((b.length : Int).toNat) 0)).length 1 (mLI (tb.set t16.toNat (List.replicate ((b.length : Int).toNat) 0))) (gLI (tb.set t16.toNat (List.replicate ((b.length : Int).toNat) 0))))] [] (by kernel_rfl) trivial ?_
     refine xe_then ?_
     refine x_block ?_
     refine x_loop (X := Int × (List (List Int))) (fun x => mkS [(0, slFeat false a), (1, slFeat false b), (2, I band), (7, .arr 13), (8, I t16), (15, I (a.length : Int)), (16, I t16), (26, I (b.length : Int)), (27, I x.1)] [(13, .oar [8401] 1 x.2.length (oLI 8401 x.2)), (8401, .fam x.2.length 1 (mLI x.2) (gLI x.2))]) (fun x => (0 ≤ x.1 ∧ x.1 ≤ (b.length : Int)) ∧ (tbOk a b band x.2 t16.toNat ∧ rowOk a b band (at_ x.2 t16.toNat) t16.toNat x.1.toNat) ∧ True) (fun x => ((b.length : Int) - x.1).toNat) (0, (tb.set t16.toNat (List.replicate ((b.length : Int).toNat) 0))) rfl (show (0 ≤ (0 : Int) ∧ (0 : Int) ≤ (b.length : Int)) ∧ (tbOk a b band (tb.set t16.toNat (List.replicate ((b.length : Int).toNat) 0)) t16.toNat ∧ rowOk a b band (at_ (tb.set t16.toNat (List.replicate ((b.length : Int).toNat) 0)) t16.toNat) t16.toNat (0 : Int).toNat) ∧ True from ⟨(by omega), (by exact tb_row htb hi (by first | rfl | omega | simp)), trivial⟩) (fun x hI => ?_)
     obtain ⟨t27, tb'⟩ := x
     obtain ⟨hj0, hin, _⟩ : (0 ≤ t27 ∧ t27 ≤ (b.length : Int)) ∧ (tbOk a b band tb' t16.toNat ∧ rowOk a b band (at_ tb' t16.toNat) t16.toNat t27.toNat) ∧ True := hI
     show XW _ _ _ _ (mkS [(0, slFeat false a), (1, slFeat false b), (2, I band), (7, .arr 13), (8, I t16), (15, I (a.length : Int)), (16, I t16), (26, I (b.length : Int)), (27, I t27)] [(13, .oar [8401] 1 tb'.length (oLI 8401 tb')), (8401, .fam tb'.length 1 (mLI tb') (gLI tb'))]) _ _
     refine x_seq ?_
     by_cases h2 : t27 < (b.length : Int)
     ·have hj : t27.toNat < b.length := by omega
      have hcb := costF_bd (hab.1 _ hi) (hab.2.1 _ hj)
      have hjx : ((t27.toNat : Nat) : Int) = t27 := by omega
      have htl2 := hin.1.1
      have htl3 := hin.2.1
      have hlb := lb_at hab hin.1 hin.2 hi hj
      rw [hix, hjx] at hlb
      have hrl : 1 ≤ t16 → ((at_ tb' (t16 - 1).toNat).length : Int) = b.length := fun q => by rw [(hin.1.2 (t16 - 1).toNat (by omega)).1]
      have hrz : (t16 - 0).toNat = t16.toNat := by omega
      refine x_reg [(0, .dec true)] [0, 1, 2, 7, 8, 15, 16, 26, 27, 28] [13, 8401] [slFeat false a, slFeat false b, I band, .arr 13, I t16, I (a.length : Int), I t16, I (b.length : Int), I t27, Bv true] [some (.oar [8401] 1 tb'.length (oLI 8401 tb')), some (.fam tb'.length 1 (mLI tb') (gLI tb'))] [t27 < (b.length : Int)] (by kernel_rfl) ⟨h2, trivial⟩ ?_
      refine xe_then ?_
      refine x_seq ?_
      refine x_true rfl ?_
      refine x_skip ?_
      refine xe_then ?_
      refine x_seq ?_
      refine x_block ?_
      refine x_seq ?_
      refine x_reg [] [0, 1, 2, 7, 8, 9, 15, 16, 26, 27] [13, 8401] [slFeat false a, slFeat false b, I band, .arr 13, I t16, I t27, I (a.length : Int), I t16, I (b.length : Int), I t27] [some (.oar [8401] 1 tb'.length (oLI 8401 tb')), some (.fam tb'.length 1 (mLI tb') (gLI tb'))] [] (by kernel_rfl) trivial ?_
      refine xe_then ?_
      refine x_seq ?_
      refine x_reg [(3, .call [(false, slLI false tb'), (true, I t16), (true, I t27)] true (I (lb3 tb' t16 t27)))] [0, 1, 2, 7, 8, 9, 10, 15, 16, 26, 27] [13, 8401] [slFeat false a, slFeat false b, I band, .arr 13, I t16, I t27, I (lb3 tb' t16 t27), I (a.length : Int), I t16, I (b.length : Int), I t27] [some (.oar [8401] 1 tb'.length (oLI 8401 tb')), some (.fam tb'.length 1 (mLI tb') (gLI tb'))] [Con Try.prog 77 [slLI false tb', I t16, I t27] true (I (lb3 tb' t16 t27)) ∧ ((false = true → true = true) ∧ 1 = 1 ∧ tb'.length = tb'.length ∧ ∀ i, i < tb'.length → AV.idsL ((fLI false tb') i) = [] ∧ leL (lookO [(8401, .fam tb'.length 1 (mLI tb') (gLI tb'))]) true ((oLI 8401 tb') i) ((fLI false tb') i)) ∧ ((I t16 : AV) = I t16) ∧ ((I t27 : AV) = I t27) ∧ True] (by kernel_rfl) ⟨⟨(leastBefore_ok tb' t16 t27 (by omega) (by omega) (fun q => by have := hrl q; omega) (fun q => by rw [hrz]; omega)), ⟨(fun h => by cases h), rfl, rfl, oleLI _ _ rfl⟩, rfl, rfl, trivial⟩, trivial⟩ ?_
      refine xe_then ?_
      refine x_seq ?_
      refine x_seq ?_
      by_cases h3 : t16 = 0
      ·by_cases h4 : t27 = 0
       ·refine x_reg [(1, .dec true), (4, .dec true)] [0, 1, 2, 7, 8, 9, 10, 15, 16, 26, 27, 39] [13, 8401] [slFeat false a, slFeat false b, I band, .arr 13, I t16, I t27, I (lb3 tb' t16 t27), I (a.length : Int), I t16, I (b.length : Int), I t27, Bv true] [some (.oar [8401] 1 tb'.length (oLI 8401 tb')), some (.fam tb'.length 1 (mLI tb') (gLI tb'))] [t16 = 0, t27 = 0] (by kernel_rfl) ⟨h3, h4, trivial⟩ ?_
        refine xe_then ?_
        refine x_true rfl ?_
        refine x_reg [] [0, 1, 2, 7, 8, 9, 10, 15, 16, 26, 27] [13, 8401] [slFeat false a, slFeat false b, I band, .arr 13, I t16, I t27, I 0, I (a.length : Int), I t16, I (b.length : Int), I t27] [some (.oar [8401] 1 tb'.length (oLI 8401 tb')), some (.fam tb'.length 1 (mLI tb') (gLI tb'))] [] (by kernel_rfl) trivial ?_
        refine xe_then ?_
        refine x_seq ?_
        by_cases h5 : band < ((t16 - t27).natAbs : Int)
        ·refine x_reg [(3, .call [(true, I (t16 - t27))] true (I ((t16 - t27).natAbs : Int))), (5, .dec true)] [0, 1, 2, 7, 8, 9, 10, 15, 16, 26, 27, 49] [13, 8401] [slFeat false a, slFeat false b, I band, .arr 13, I t16, I t27, I 0, I (a.length : Int), I t16, I (b.length : Int), I t27, Bv true] [some (.oar [8401] 1 tb'.length (oLI 8401 tb')), some (.fam tb'.length 1 (mLI tb') (gLI tb'))] [inR .i64 (t16 - t27), Con Try.prog 44 [I (t16 - t27)] true (I ((t16 - t27).natAbs : Int)) ∧ ((I (t16 - t27) : AV) = I (t16 - t27)) ∧ True, band < ((t16 - t27).natAbs : Int)] (by kernel_rfl) ⟨(inR_i64 (by omega) (by omega)), ⟨(abs_ok (t16 - t27) (by omega)), rfl, trivial⟩, h5, trivial⟩ ?_
         refine xe_then ?_
         refine x_true rfl ?_
         refine x_reg [] [0, 1, 2, 7, 8, 15, 16, 26, 27] [13, 8401] [slFeat false a, slFeat false b, I band, .arr 13, I t16, I (a.length : Int), I t16, I (b.length : Int), I t27] [some (.oar [8401] 1 tb'.length (oLI 8401 tb')), some (.fam tb'.length 1 (mLI tb') (fun q => bif Nat.beq q t16.toNat then (fun q => bif Nat.beq q t27.toNat then [I 1099511627776] else (gLI tb') t16.toNat q) else (gLI tb') q))] [(0 : Int) ≤ t16 ∧ t16 < (tb'.length : Int), t16.toNat < tb'.length, t16.toNat < tb'.length ∧ (0 : Int) ≤ t27 ∧ t27 < (((at_ tb' t16.toNat).length) : Int), t16.toNat < tb'.length ∧ t27.toNat < (at_ tb' t16.toNat).length] (by kernel_rfl) ⟨⟨(by omega), (by omega)⟩, (by omega), ⟨(by omega), (by omega), (by omega)⟩, ⟨(by omega), (by omega)⟩, trivial⟩ ?_
         refine xe_block 3 ?_
         refine xe_then ?_
         refine x_weak [] (T := [(0, slFeat false a), (1, slFeat false b), (2, I band), (7, .arr 13), (8, I t16), (15, I (a.length : Int)), (16, I t16), (26, I (b.length : Int)), (27, I t27)]) (O := [(13, .oar [8401] 1 ((tb'.set t16.toNat ((at_ tb' t16.toNat).set t27.toNat 1099511627776)).length) (oLI 8401 (tb'.set t16.toNat ((at_ tb' t16.toNat).set t27.toNat 1099511627776)))), (8401, .fam (tb'.set t16.toNat ((at_ tb' t16.toNat).set t27.toNat 1099511627776)).length 1 (mLI (tb'.set t16.toNat ((at_ tb' t16.toNat).set t27.toNat 1099511627776))) (gLI (tb'.set t16.toNat ((at_ tb' t16.toNat).set t27.toNat 1099511627776))))]) rfl (⟨.inl rfl, .inl rfl, .inl rfl, .inl rfl, .inl rfl, .inl rfl, .inl rfl, .inl rfl, .inl rfl, trivial⟩) (⟨.inr ⟨rfl, rfl, (by first | rfl | (simp; done) | omega), fun i_ hi_ => .inl (osetLI 8401 t16.toNat tb' ((at_ tb' t16.toNat).set t27.toNat 1099511627776) i_)⟩, .inr (fsetLI (P := t16.toNat) (k := t27.toNat) ((by omega)) ((by omega)) (by simp only [Nat.beq_refl, cond_true]; try rfl) (by intro i hi; simp only [Nat.beq_refl, cond_true, beq_ne hi, cond_false]; try rfl) (by intro p hp; simp only [beq_ne hp, cond_false])), trivial⟩) ?_
         refine x_reg [] [0, 1, 2, 7, 8, 15, 16, 26, 27] [13, 8401] [slFeat false a, slFeat false b, I band, .arr 13, I t16, I (a.length : Int), I t16, I (b.length : Int), I (t27 + 1)] [some (.oar [8401] 1 ((tb'.set t16.toNat ((at_ tb' t16.toNat).set t27.toNat 1099511627776)).length) (oLI 8401 (tb'.set t16.toNat ((at_ tb' t16.toNat).set t27.toNat 1099511627776)))), some (.fam (tb'.set t16.toNat ((at_ tb' t16.toNat).set t27.toNat 1099511627776)).length 1 (mLI (tb'.set t16.toNat ((at_ tb' t16.toNat).set t27.toNat 1099511627776))) (gLI (tb'.set t16.toNat ((at_ tb' t16.toNat).set t27.toNat 1099511627776))))] [inR .i64 (t27 + 1)] (by kernel_rfl) ⟨(inR_i64 (by omega) (by omega)), trivial⟩ ?_
         exact xe_again ((t27 + 1), (tb'.set t16.toNat ((at_ tb' t16.toNat).set t27.toNat 1099511627776))) rfl (show (0 ≤ (t27 + 1) ∧ (t27 + 1) ≤ (b.length : Int)) ∧ (tbOk a b band (tb'.set t16.toNat ((at_ tb' t16.toNat).set t27.toNat 1099511627776)) t16.toNat ∧ rowOk a b band (at_ (tb'.set t16.toNat ((at_ tb' t16.toNat).set t27.toNat 1099511627776)) t16.toNat) t16.toNat (t27 + 1).toNat) ∧ True from ⟨(by omega), (by rw [show (t27 + 1).toNat = t27.toNat + 1 from by omega]; exact tb_step hin.1 hin.2 hi hj (by rw [hlb.2]; first | exact (stp_far (by first | (left; rw [hix, hjx]; omega) | (right; (try rw [if_neg (by omega)]); (try rw [if_pos (by omega)]); omega))).symm | (rw [stp_add (by rw [hix, hjx]; omega) (by first | (rw [if_neg (by omega)]; omega) | (rw [if_pos (by omega)]; decide))]; first | rw [if_neg (by omega)] | rw [if_pos (by omega)]))), trivial⟩) (by first | (show (((b.length : Int) - (t27 + 1)).toNat : Nat) < ((b.length : Int) - t27).toNat; omega) | (dsimp only; omega))
        ·refine x_reg [(3, .call [(true, I (t16 - t27))] true (I ((t16 - t27).natAbs : Int))), (5, .dec false), (8, .dec false)] [0, 1, 2, 7, 8, 9, 10, 15, 16, 26, 27, 49] [13, 8401] [slFeat false a, slFeat false b, I band, .arr 13, I t16, I t27, I 0, I (a.length : Int), I t16, I (b.length : Int), I t27, Bv false] [some (.oar [8401] 1 tb'.length (oLI 8401 tb')), some (.fam tb'.length 1 (mLI tb') (gLI tb'))] [inR .i64 (t16 - t27), Con Try.prog 44 [I (t16 - t27)] true (I ((t16 - t27).natAbs : Int)) ∧ ((I (t16 - t27) : AV) = I (t16 - t27)) ∧ True, ¬ (band < ((t16 - t27).natAbs : Int)), ¬ ((1099511627776 : Int) ≤ 0)] (by kernel_rfl) ⟨(inR_i64 (by omega) (by omega)), ⟨(abs_ok (t16 - t27) (by omega)), rfl, trivial⟩, h5, (by decide), trivial⟩ ?_
         refine xe_then ?_
         refine x_false rfl ?_
         refine x_reg [(14, .call [(true, agFeat (at_ a t16.toNat)), (true, agFeat (at_ b t27.toNat))] true (I (costF (at_ a t16.toNat) (at_ b t27.toNat))))] [0, 1, 2, 7, 8, 15, 16, 26, 27] [13, 8401] [slFeat false a, slFeat false b, I band, .arr 13, I t16, I (a.length : Int), I t16, I (b.length : Int), I t27] [some (.oar [8401] 1 tb'.length (oLI 8401 tb')), some (.fam tb'.length 1 (mLI tb') (fun q => bif Nat.beq q t16.toNat then (fun q => bif Nat.beq q t27.toNat then [I (0 + (costF (at_ a t16.toNat) (at_ b t27.toNat)))] else (gLI tb') t16.toNat q) else (gLI tb') q))] [(0 : Int) ≤ t16 ∧ t16 < (tb'.length : Int), t16.toNat < tb'.length, (0 : Int) ≤ t16 ∧ t16 < (a.length : Int), (0 : Int) ≤ t27 ∧ t27 < (b.length : Int), Con Try.prog 84 [agFeat (at_ a t16.toNat), agFeat (at_ b t27.toNat)] true (I (costF (at_ a t16.toNat) (at_ b t27.toNat))) ∧ ((agFeat (at_ a t16.toNat) : AV) = agFeat (at_ a t16.toNat)) ∧ ((agFeat (at_ b t27.toNat) : AV) = agFeat (at_ b t27.toNat)) ∧ True, inR .i64 (0 + (costF (at_ a t16.toNat) (at_ b t27.toNat))), t16.toNat < tb'.length ∧ (0 : Int) ≤ t27 ∧ t27 < (((at_ tb' t16.toNat).length) : Int), t16.toNat < tb'.length ∧ t27.toNat < (at_ tb' t16.toNat).length] (by kernel_rfl) ⟨⟨(by omega), (by omega)⟩, (by omega), ⟨(by omega), (by omega)⟩, ⟨(by omega), (by omega)⟩, ⟨(featCost_ok (at_ a t16.toNat) (at_ b t27.toNat) (by first | exact hab.1 _ (by omega) | exact hab.2.1 _ (by omega)) (by first | exact hab.1 _ (by omega) | exact hab.2.1 _ (by omega))), rfl, rfl, trivial⟩, (inR_i64 (by omega) (by omega)), ⟨(by omega), (by omega), (by omega)⟩, ⟨(by omega), (by omega)⟩, trivial⟩ ?_
         refine xe_block 3 ?_
         refine xe_then ?_
         refine x_weak [] (T := [(0, slFeat false a), (1, slFeat false b), (2, I band), (7, .arr 13), (8, I t16), (15, I (a.length : Int)), (16, I t16), (26, I (b.length : Int)), (27, I t27)]) (O := [(13, .oar [8401] 1 ((tb'.set t16.toNat ((at_ tb' t16.toNat).set t27.toNat (0 + (costF (at_ a t16.toNat) (at_ b t27.toNat))))).length) (oLI 8401 (tb'.set t16.toNat ((at_ tb' t16.toNat).set t27.toNat (0 + (costF (at_ a t16.toNat) (at_ b t27.toNat))))))), (8401, .fam (tb'.set t16.toNat ((at_ tb' t16.toNat).set t27.toNat (0 + (costF (at_ a t16.toNat) (at_ b t27.toNat))))).length 1 (mLI (tb'.set t16.toNat ((at_ tb' t16.toNat).set t27.toNat (0 + (costF (at_ a t16.toNat) (at_ b t27.toNat)))))) (gLI (tb'.set t16.toNat ((at_ tb' t16.toNat).set t27.toNat (0 + (costF (at_ a t16.toNat) (at_ b t27.toNat)))))))]) rfl (⟨.inl rfl, .inl rfl, .inl rfl, .inl rfl, .inl rfl, .inl rfl, .inl rfl, .inl rfl, .inl rfl, trivial⟩) (⟨.inr ⟨rfl, rfl, (by first | rfl | (simp; done) | omega), fun i_ hi_ => .inl (osetLI 8401 t16.toNat tb' ((at_ tb' t16.toNat).set t27.toNat (0 + (costF (at_ a t16.toNat) (at_ b t27.toNat)))) i_)⟩, .inr (fsetLI (P := t16.toNat) (k := t27.toNat) ((by omega)) ((by omega)) (by simp only [Nat.beq_refl, cond_true]; try rfl) (by intro i hi; simp only [Nat.beq_refl, cond_true, beq_ne hi, cond_false]; try rfl) (by intro p hp; simp only [beq_ne hp, cond_false])), trivial⟩) ?_
         refine x_reg [] [0, 1, 2, 7, 8, 15, 16, 26, 27] [13, 8401] [slFeat false a, slFeat false b, I band, .arr 13, I t16, I (a.length : Int), I t16, I (b.length : Int), I (t27 + 1)] [some (.oar [8401] 1 ((tb'.set t16.toNat ((at_ tb' t16.toNat).set t27.toNat (0 + (costF (at_ a t16.toNat) (at_ b t27.toNat))))).length) (oLI 8401 (tb'.set t16.toNat ((at_ tb' t16.toNat).set t27.toNat (0 + (costF (at_ a t16.toNat) (at_ b t27.toNat))))))), some (.fam (tb'.set t16.toNat ((at_ tb' t16.toNat).set t27.toNat (0 + (costF (at_ a t16.toNat) (at_ b t27.toNat))))).length 1 (mLI (tb'.set t16.toNat ((at_ tb' t16.toNat).set t27.toNat (0 + (costF (at_ a t16.toNat) (at_ b t27.toNat)))))) (gLI (tb'.set t16.toNat ((at_ tb' t16.toNat).set t27.toNat (0 + (costF (at_ a t16.toNat) (at_ b t27.toNat)))))))] [inR .i64 (t27 + 1)] (by kernel_rfl) ⟨(inR_i64 (by omega) (by omega)), trivial⟩ ?_
         exact xe_again ((t27 + 1), (tb'.set t16.toNat ((at_ tb' t16.toNat).set t27.toNat (0 + (costF (at_ a t16.toNat) (at_ b t27.toNat)))))) rfl (show (0 ≤ (t27 + 1) ∧ (t27 + 1) ≤ (b.length : Int)) ∧ (tbOk a b band (tb'.set t16.toNat ((at_ tb' t16.toNat).set t27.toNat (0 + (costF (at_ a t16.toNat) (at_ b t27.toNat))))) t16.toNat ∧ rowOk a b band (at_ (tb'.set t16.toNat ((at_ tb' t16.toNat).set t27.toNat (0 + (costF (at_ a t16.toNat) (at_ b t27.toNat))))) t16.toNat) t16.toNat (t27 + 1).toNat) ∧ True from ⟨(by omega), (by rw [show (t27 + 1).toNat = t27.toNat + 1 from by omega]; exact tb_step hin.1 hin.2 hi hj (by rw [hlb.2]; first | exact (stp_far (by first | (left; rw [hix, hjx]; omega) | (right; (try rw [if_neg (by omega)]); (try rw [if_pos (by omega)]); omega))).symm | (rw [stp_add (by rw [hix, hjx]; omega) (by first | (rw [if_neg (by omega)]; omega) | (rw [if_pos (by omega)]; decide))]; first | rw [if_neg (by omega)] | rw [if_pos (by omega)]))), trivial⟩) (by first | (show (((b.length : Int) - (t27 + 1)).toNat : Nat) < ((b.length : Int) - t27).toNat; omega) | (dsimp only; omega))
       ·refine x_reg [(1, .dec true), (4, .dec false)] [0, 1, 2, 7, 8, 9, 10, 15, 16, 26, 27, 39] [13, 8401] [slFeat false a, slFeat false b, I band, .arr 13, I t16, I t27, I (lb3 tb' t16 t27), I (a.length : Int), I t16, I (b.length : Int), I t27, Bv false] [some (.oar [8401] 1 tb'.length (oLI 8401 tb')), some (.fam tb'.length 1 (mLI tb') (gLI tb'))] [t16 = 0, ¬ (t27 = 0)] (by kernel_rfl) ⟨h3, h4, trivial⟩ ?_
        refine xe_then ?_
        refine x_false rfl ?_
        refine x_skip ?_
        refine xe_then ?_
        refine x_seq ?_
        by_cases h6 : band < ((t16 - t27).natAbs : Int)
        ·refine x_reg [(3, .call [(true, I (t16 - t27))] true (I ((t16 - t27).natAbs : Int))), (5, .dec true)] [0, 1, 2, 7, 8, 9, 10, 15, 16, 26, 27, 49] [13, 8401] [slFeat false a, slFeat false b, I band, .arr 13, I t16, I t27, I (lb3 tb' t16 t27), I (a.length : Int), I t16, I (b.length : Int), I t27, Bv true] [some (.oar [8401] 1 tb'.length (oLI 8401 tb')), some (.fam tb'.length 1 (mLI tb') (gLI tb'))] [inR .i64 (t16 - t27), Con Try.prog 44 [I (t16 - t27)] true (I ((t16 - t27).natAbs : Int)) ∧ ((I (t16 - t27) : AV) = I (t16 - t27)) ∧ True, band < ((t16 - t27).natAbs : Int)] (by kernel_rfl) ⟨(inR_i64 (by omega) (by omega)), ⟨(abs_ok (t16 - t27) (by omega)), rfl, trivial⟩, h6, trivial⟩ ?_
         refine xe_then ?_
         refine x_true rfl ?_
         refine x_reg [] [0, 1, 2, 7, 8, 15, 16, 26, 27] [13, 8401] [slFeat false a, slFeat false b, I band, .arr 13, I t16, I (a.length : Int), I t16, I (b.length : Int), I t27] [some (.oar [8401] 1 tb'.length (oLI 8401 tb')), some (.fam tb'.length 1 (mLI tb') (fun q => bif Nat.beq q t16.toNat then (fun q => bif Nat.beq q t27.toNat then [I 1099511627776] else (gLI tb') t16.toNat q) else (gLI tb') q))] [(0 : Int) ≤ t16 ∧ t16 < (tb'.length : Int), t16.toNat < tb'.length, t16.toNat < tb'.length ∧ (0 : Int) ≤ t27 ∧ t27 < (((at_ tb' t16.toNat).length) : Int), t16.toNat < tb'.length ∧ t27.toNat < (at_ tb' t16.toNat).length] (by kernel_rfl) ⟨⟨(by omega), (by omega)⟩, (by omega), ⟨(by omega), (by omega), (by omega)⟩, ⟨(by omega), (by omega)⟩, trivial⟩ ?_
         refine xe_block 3 ?_
         refine xe_then ?_
         refine x_weak [] (T := [(0, slFeat false a), (1, slFeat false b), (2, I band), (7, .arr 13), (8, I t16), (15, I (a.length : Int)), (16, I t16), (26, I (b.length : Int)), (27, I t27)]) (O := [(13, .oar [8401] 1 ((tb'.set t16.toNat ((at_ tb' t16.toNat).set t27.toNat 1099511627776)).length) (oLI 8401 (tb'.set t16.toNat ((at_ tb' t16.toNat).set t27.toNat 1099511627776)))), (8401, .fam (tb'.set t16.toNat ((at_ tb' t16.toNat).set t27.toNat 1099511627776)).length 1 (mLI (tb'.set t16.toNat ((at_ tb' t16.toNat).set t27.toNat 1099511627776))) (gLI (tb'.set t16.toNat ((at_ tb' t16.toNat).set t27.toNat 1099511627776))))]) rfl (⟨.inl rfl, .inl rfl, .inl rfl, .inl rfl, .inl rfl, .inl rfl, .inl rfl, .inl rfl, .inl rfl, trivial⟩) (⟨.inr ⟨rfl, rfl, (by first | rfl | (simp; done) | omega), fun i_ hi_ => .inl (osetLI 8401 t16.toNat tb' ((at_ tb' t16.toNat).set t27.toNat 1099511627776) i_)⟩, .inr (fsetLI (P := t16.toNat) (k := t27.toNat) ((by omega)) ((by omega)) (by simp only [Nat.beq_refl, cond_true]; try rfl) (by intro i hi; simp only [Nat.beq_refl, cond_true, beq_ne hi, cond_false]; try rfl) (by intro p hp; simp only [beq_ne hp, cond_false])), trivial⟩) ?_
         refine x_reg [] [0, 1, 2, 7, 8, 15, 16, 26, 27] [13, 8401] [slFeat false a, slFeat false b, I band, .arr 13, I t16, I (a.length : Int), I t16, I (b.length : Int), I (t27 + 1)] [some (.oar [8401] 1 ((tb'.set t16.toNat ((at_ tb' t16.toNat).set t27.toNat 1099511627776)).length) (oLI 8401 (tb'.set t16.toNat ((at_ tb' t16.toNat).set t27.toNat 1099511627776)))), some (.fam (tb'.set t16.toNat ((at_ tb' t16.toNat).set t27.toNat 1099511627776)).length 1 (mLI (tb'.set t16.toNat ((at_ tb' t16.toNat).set t27.toNat 1099511627776))) (gLI (tb'.set t16.toNat ((at_ tb' t16.toNat).set t27.toNat 1099511627776))))] [inR .i64 (t27 + 1)] (by kernel_rfl) ⟨(inR_i64 (by omega) (by omega)), trivial⟩ ?_
         exact xe_again ((t27 + 1), (tb'.set t16.toNat ((at_ tb' t16.toNat).set t27.toNat 1099511627776))) rfl (show (0 ≤ (t27 + 1) ∧ (t27 + 1) ≤ (b.length : Int)) ∧ (tbOk a b band (tb'.set t16.toNat ((at_ tb' t16.toNat).set t27.toNat 1099511627776)) t16.toNat ∧ rowOk a b band (at_ (tb'.set t16.toNat ((at_ tb' t16.toNat).set t27.toNat 1099511627776)) t16.toNat) t16.toNat (t27 + 1).toNat) ∧ True from ⟨(by omega), (by rw [show (t27 + 1).toNat = t27.toNat + 1 from by omega]; exact tb_step hin.1 hin.2 hi hj (by rw [hlb.2]; first | exact (stp_far (by first | (left; rw [hix, hjx]; omega) | (right; (try rw [if_neg (by omega)]); (try rw [if_pos (by omega)]); omega))).symm | (rw [stp_add (by rw [hix, hjx]; omega) (by first | (rw [if_neg (by omega)]; omega) | (rw [if_pos (by omega)]; decide))]; first | rw [if_neg (by omega)] | rw [if_pos (by omega)]))), trivial⟩) (by first | (show (((b.length : Int) - (t27 + 1)).toNat : Nat) < ((b.length : Int) - t27).toNat; omega) | (dsimp only; omega))
        ·by_cases h7 : 1099511627776 ≤ (lb3 tb' t16 t27)
         ·refine x_reg [(3, .call [(true, I (t16 - t27))] true (I ((t16 - t27).natAbs : Int))), (5, .dec false), (8, .dec true)] [0, 1, 2, 7, 8, 9, 10, 15, 16, 26, 27, 49] [13, 8401] [slFeat false a, slFeat false b, I band, .arr 13, I t16, I t27, I (lb3 tb' t16 t27), I (a.length : Int), I t16, I (b.length : Int), I t27, Bv true] [some (.oar [8401] 1 tb'.length (oLI 8401 tb')), some (.fam tb'.length 1 (mLI tb') (gLI tb'))] [inR .i64 (t16 - t27), Con Try.prog 44 [I (t16 - t27)] true (I ((t16 - t27).natAbs : Int)) ∧ ((I (t16 - t27) : AV) = I (t16 - t27)) ∧ True, ¬ (band < ((t16 - t27).natAbs : Int)), 1099511627776 ≤ (lb3 tb' t16 t27)] (by kernel_rfl) ⟨(inR_i64 (by omega) (by omega)), ⟨(abs_ok (t16 - t27) (by omega)), rfl, trivial⟩, h6, h7, trivial⟩ ?_
          refine xe_then ?_
          refine x_true rfl ?_
          refine x_reg [] [0, 1, 2, 7, 8, 15, 16, 26, 27] [13, 8401] [slFeat false a, slFeat false b, I band, .arr 13, I t16, I (a.length : Int), I t16, I (b.length : Int), I t27] [some (.oar [8401] 1 tb'.length (oLI 8401 tb')), some (.fam tb'.length 1 (mLI tb') (fun q => bif Nat.beq q t16.toNat then (fun q => bif Nat.beq q t27.toNat then [I 1099511627776] else (gLI tb') t16.toNat q) else (gLI tb') q))] [(0 : Int) ≤ t16 ∧ t16 < (tb'.length : Int), t16.toNat < tb'.length, t16.toNat < tb'.length ∧ (0 : Int) ≤ t27 ∧ t27 < (((at_ tb' t16.toNat).length) : Int), t16.toNat < tb'.length ∧ t27.toNat < (at_ tb' t16.toNat).length] (by kernel_rfl) ⟨⟨(by omega), (by omega)⟩, (by omega), ⟨(by omega), (by omega), (by omega)⟩, ⟨(by omega), (by omega)⟩, trivial⟩ ?_
          refine xe_block 3 ?_
          refine xe_then ?_
          refine x_weak [] (T := [(0, slFeat false a), (1, slFeat false b), (2, I band), (7, .arr 13), (8, I t16), (15, I (a.length : Int)), (16, I t16), (26, I (b.length : Int)), (27, I t27)]) (O := [(13, .oar [8401] 1 ((tb'.set t16.toNat ((at_ tb' t16.toNat).set t27.toNat 1099511627776)).length) (oLI 8401 (tb'.set t16.toNat ((at_ tb' t16.toNat).set t27.toNat 1099511627776)))), (8401, .fam (tb'.set t16.toNat ((at_ tb' t16.toNat).set t27.toNat 1099511627776)).length 1 (mLI (tb'.set t16.toNat ((at_ tb' t16.toNat).set t27.toNat 1099511627776))) (gLI (tb'.set t16.toNat ((at_ tb' t16.toNat).set t27.toNat 1099511627776))))]) rfl (⟨.inl rfl, .inl rfl, .inl rfl, .inl rfl, .inl rfl, .inl rfl, .inl rfl, .inl rfl, .inl rfl, trivial⟩) (⟨.inr ⟨rfl, rfl, (by first | rfl | (simp; done) | omega), fun i_ hi_ => .inl (osetLI 8401 t16.toNat tb' ((at_ tb' t16.toNat).set t27.toNat 1099511627776) i_)⟩, .inr (fsetLI (P := t16.toNat) (k := t27.toNat) ((by omega)) ((by omega)) (by simp only [Nat.beq_refl, cond_true]; try rfl) (by intro i hi; simp only [Nat.beq_refl, cond_true, beq_ne hi, cond_false]; try rfl) (by intro p hp; simp only [beq_ne hp, cond_false])), trivial⟩) ?_
          refine x_reg [] [0, 1, 2, 7, 8, 15, 16, 26, 27] [13, 8401] [slFeat false a, slFeat false b, I band, .arr 13, I t16, I (a.length : Int), I t16, I (b.length : Int), I (t27 + 1)] [some (.oar [8401] 1 ((tb'.set t16.toNat ((at_ tb' t16.toNat).set t27.toNat 1099511627776)).length) (oLI 8401 (tb'.set t16.toNat ((at_ tb' t16.toNat).set t27.toNat 1099511627776)))), some (.fam (tb'.set t16.toNat ((at_ tb' t16.toNat).set t27.toNat 1099511627776)).length 1 (mLI (tb'.set t16.toNat ((at_ tb' t16.toNat).set t27.toNat 1099511627776))) (gLI (tb'.set t16.toNat ((at_ tb' t16.toNat).set t27.toNat 1099511627776))))] [inR .i64 (t27 + 1)] (by kernel_rfl) ⟨(inR_i64 (by omega) (by omega)), trivial⟩ ?_
          exact xe_again ((t27 + 1), (tb'.set t16.toNat ((at_ tb' t16.toNat).set t27.toNat 1099511627776))) rfl (show (0 ≤ (t27 + 1) ∧ (t27 + 1) ≤ (b.length : Int)) ∧ (tbOk a b band (tb'.set t16.toNat ((at_ tb' t16.toNat).set t27.toNat 1099511627776)) t16.toNat ∧ rowOk a b band (at_ (tb'.set t16.toNat ((at_ tb' t16.toNat).set t27.toNat 1099511627776)) t16.toNat) t16.toNat (t27 + 1).toNat) ∧ True from ⟨(by omega), (by rw [show (t27 + 1).toNat = t27.toNat + 1 from by omega]; exact tb_step hin.1 hin.2 hi hj (by rw [hlb.2]; first | exact (stp_far (by first | (left; rw [hix, hjx]; omega) | (right; (try rw [if_neg (by omega)]); (try rw [if_pos (by omega)]); omega))).symm | (rw [stp_add (by rw [hix, hjx]; omega) (by first | (rw [if_neg (by omega)]; omega) | (rw [if_pos (by omega)]; decide))]; first | rw [if_neg (by omega)] | rw [if_pos (by omega)]))), trivial⟩) (by first | (show (((b.length : Int) - (t27 + 1)).toNat : Nat) < ((b.length : Int) - t27).toNat; omega) | (dsimp only; omega))
         ·refine x_reg [(3, .call [(true, I (t16 - t27))] true (I ((t16 - t27).natAbs : Int))), (5, .dec false), (8, .dec false)] [0, 1, 2, 7, 8, 9, 10, 15, 16, 26, 27, 49] [13, 8401] [slFeat false a, slFeat false b, I band, .arr 13, I t16, I t27, I (lb3 tb' t16 t27), I (a.length : Int), I t16, I (b.length : Int), I t27, Bv false] [some (.oar [8401] 1 tb'.length (oLI 8401 tb')), some (.fam tb'.length 1 (mLI tb') (gLI tb'))] [inR .i64 (t16 - t27), Con Try.prog 44 [I (t16 - t27)] true (I ((t16 - t27).natAbs : Int)) ∧ ((I (t16 - t27) : AV) = I (t16 - t27)) ∧ True, ¬ (band < ((t16 - t27).natAbs : Int)), ¬ (1099511627776 ≤ (lb3 tb' t16 t27))] (by kernel_rfl) ⟨(inR_i64 (by omega) (by omega)), ⟨(abs_ok (t16 - t27) (by omega)), rfl, trivial⟩, h6, h7, trivial⟩ ?_
          refine xe_then ?_
          refine x_false rfl ?_
          refine x_reg [(14, .call [(true, agFeat (at_ a t16.toNat)), (true, agFeat (at_ b t27.toNat))] true (I (costF (at_ a t16.toNat) (at_ b t27.toNat))))] [0, 1, 2, 7, 8, 15, 16, 26, 27] [13, 8401] [slFeat false a, slFeat false b, I band, .arr 13, I t16, I (a.length : Int), I t16, I (b.length : Int), I t27] [some (.oar [8401] 1 tb'.length (oLI 8401 tb')), some (.fam tb'.length 1 (mLI tb') (fun q => bif Nat.beq q t16.toNat then (fun q => bif Nat.beq q t27.toNat then [I ((lb3 tb' t16 t27) + (costF (at_ a t16.toNat) (at_ b t27.toNat)))] else (gLI tb') t16.toNat q) else (gLI tb') q))] [(0 : Int) ≤ t16 ∧ t16 < (tb'.length : Int), t16.toNat < tb'.length, (0 : Int) ≤ t16 ∧ t16 < (a.length : Int), (0 : Int) ≤ t27 ∧ t27 < (b.length : Int), Con Try.prog 84 [agFeat (at_ a t16.toNat), agFeat (at_ b t27.toNat)] true (I (costF (at_ a t16.toNat) (at_ b t27.toNat))) ∧ ((agFeat (at_ a t16.toNat) : AV) = agFeat (at_ a t16.toNat)) ∧ ((agFeat (at_ b t27.toNat) : AV) = agFeat (at_ b t27.toNat)) ∧ True, inR .i64 ((lb3 tb' t16 t27) + (costF (at_ a t16.toNat) (at_ b t27.toNat))), t16.toNat < tb'.length ∧ (0 : Int) ≤ t27 ∧ t27 < (((at_ tb' t16.toNat).length) : Int), t16.toNat < tb'.length ∧ t27.toNat < (at_ tb' t16.toNat).length] (by kernel_rfl) ⟨⟨(by omega), (by omega)⟩, (by omega), ⟨(by omega), (by omega)⟩, ⟨(by omega), (by omega)⟩, ⟨(featCost_ok (at_ a t16.toNat) (at_ b t27.toNat) (by first | exact hab.1 _ (by omega) | exact hab.2.1 _ (by omega)) (by first | exact hab.1 _ (by omega) | exact hab.2.1 _ (by omega))), rfl, rfl, trivial⟩, (inR_i64 (by omega) (by omega)), ⟨(by omega), (by omega), (by omega)⟩, ⟨(by omega), (by omega)⟩, trivial⟩ ?_
          refine xe_block 3 ?_
          refine xe_then ?_
          refine x_weak [] (T := [(0, slFeat false a), (1, slFeat false b), (2, I band), (7, .arr 13), (8, I t16), (15, I (a.length : Int)), (16, I t16), (26, I (b.length : Int)), (27, I t27)]) (O := [(13, .oar [8401] 1 ((tb'.set t16.toNat ((at_ tb' t16.toNat).set t27.toNat ((lb3 tb' t16 t27) + (costF (at_ a t16.toNat) (at_ b t27.toNat))))).length) (oLI 8401 (tb'.set t16.toNat ((at_ tb' t16.toNat).set t27.toNat ((lb3 tb' t16 t27) + (costF (at_ a t16.toNat) (at_ b t27.toNat))))))), (8401, .fam (tb'.set t16.toNat ((at_ tb' t16.toNat).set t27.toNat ((lb3 tb' t16 t27) + (costF (at_ a t16.toNat) (at_ b t27.toNat))))).length 1 (mLI (tb'.set t16.toNat ((at_ tb' t16.toNat).set t27.toNat ((lb3 tb' t16 t27) + (costF (at_ a t16.toNat) (at_ b t27.toNat)))))) (gLI (tb'.set t16.toNat ((at_ tb' t16.toNat).set t27.toNat ((lb3 tb' t16 t27) + (costF (at_ a t16.toNat) (at_ b t27.toNat)))))))]) rfl (⟨.inl rfl, .inl rfl, .inl rfl, .inl rfl, .inl rfl, .inl rfl, .inl rfl, .inl rfl, .inl rfl, trivial⟩) (⟨.inr ⟨rfl, rfl, (by first | rfl | (simp; done) | omega), fun i_ hi_ => .inl (osetLI 8401 t16.toNat tb' ((at_ tb' t16.toNat).set t27.toNat ((lb3 tb' t16 t27) + (costF (at_ a t16.toNat) (at_ b t27.toNat)))) i_)⟩, .inr (fsetLI (P := t16.toNat) (k := t27.toNat) ((by omega)) ((by omega)) (by simp only [Nat.beq_refl, cond_true]; try rfl) (by intro i hi; simp only [Nat.beq_refl, cond_true, beq_ne hi, cond_false]; try rfl) (by intro p hp; simp only [beq_ne hp, cond_false])), trivial⟩) ?_
          refine x_reg [] [0, 1, 2, 7, 8, 15, 16, 26, 27] [13, 8401] [slFeat false a, slFeat false b, I band, .arr 13, I t16, I (a.length : Int), I t16, I (b.length : Int), I (t27 + 1)] [some (.oar [8401] 1 ((tb'.set t16.toNat ((at_ tb' t16.toNat).set t27.toNat ((lb3 tb' t16 t27) + (costF (at_ a t16.toNat) (at_ b t27.toNat))))).length) (oLI 8401 (tb'.set t16.toNat ((at_ tb' t16.toNat).set t27.toNat ((lb3 tb' t16 t27) + (costF (at_ a t16.toNat) (at_ b t27.toNat))))))), some (.fam (tb'.set t16.toNat ((at_ tb' t16.toNat).set t27.toNat ((lb3 tb' t16 t27) + (costF (at_ a t16.toNat) (at_ b t27.toNat))))).length 1 (mLI (tb'.set t16.toNat ((at_ tb' t16.toNat).set t27.toNat ((lb3 tb' t16 t27) + (costF (at_ a t16.toNat) (at_ b t27.toNat)))))) (gLI (tb'.set t16.toNat ((at_ tb' t16.toNat).set t27.toNat ((lb3 tb' t16 t27) + (costF (at_ a t16.toNat) (at_ b t27.toNat)))))))] [inR .i64 (t27 + 1)] (by kernel_rfl) ⟨(inR_i64 (by omega) (by omega)), trivial⟩ ?_
          exact xe_again ((t27 + 1), (tb'.set t16.toNat ((at_ tb' t16.toNat).set t27.toNat ((lb3 tb' t16 t27) + (costF (at_ a t16.toNat) (at_ b t27.toNat)))))) rfl (show (0 ≤ (t27 + 1) ∧ (t27 + 1) ≤ (b.length : Int)) ∧ (tbOk a b band (tb'.set t16.toNat ((at_ tb' t16.toNat).set t27.toNat ((lb3 tb' t16 t27) + (costF (at_ a t16.toNat) (at_ b t27.toNat))))) t16.toNat ∧ rowOk a b band (at_ (tb'.set t16.toNat ((at_ tb' t16.toNat).set t27.toNat ((lb3 tb' t16 t27) + (costF (at_ a t16.toNat) (at_ b t27.toNat))))) t16.toNat) t16.toNat (t27 + 1).toNat) ∧ True from ⟨(by omega), (by rw [show (t27 + 1).toNat = t27.toNat + 1 from by omega]; exact tb_step hin.1 hin.2 hi hj (by rw [hlb.2]; first | exact (stp_far (by first | (left; rw [hix, hjx]; omega) | (right; (try rw [if_neg (by omega)]); (try rw [if_pos (by omega)]); omega))).symm | (rw [stp_add (by rw [hix, hjx]; omega) (by first | (rw [if_neg (by omega)]; omega) | (rw [if_pos (by omega)]; decide))]; first | rw [if_neg (by omega)] | rw [if_pos (by omega)]))), trivial⟩) (by first | (show (((b.length : Int) - (t27 + 1)).toNat : Nat) < ((b.length : Int) - t27).toNat; omega) | (dsimp only; omega))
      ·refine x_reg [(1, .dec false)] [0, 1, 2, 7, 8, 9, 10, 15, 16, 26, 27, 39] [13, 8401] [slFeat false a, slFeat false b, I band, .arr 13, I t16, I t27, I (lb3 tb' t16 t27), I (a.length : Int), I t16, I (b.length : Int), I t27, Bv false] [some (.oar [8401] 1 tb'.length (oLI 8401 tb')), some (.fam tb'.length 1 (mLI tb') (gLI tb'))] [¬ (t16 = 0)] (by kernel_rfl) ⟨h3, trivial⟩ ?_
       refine xe_then ?_
       refine x_false rfl ?_
       refine x_skip ?_
       refine xe_then ?_
       refine x_seq ?_
       by_cases h8 : band < ((t16 - t27).natAbs : Int)
       ·refine x_reg [(3, .call [(true, I (t16 - t27))] true (I ((t16 - t27).natAbs : Int))), (5, .dec true)] [0, 1, 2, 7, 8, 9, 10, 15, 16, 26, 27, 49] [13, 8401] [slFeat false a, slFeat false b, I band, .arr 13, I t16, I t27, I (lb3 tb' t16 t27), I (a.length : Int), I t16, I (b.length : Int), I t27, Bv true] [some (.oar [8401] 1 tb'.length (oLI 8401 tb')), some (.fam tb'.length 1 (mLI tb') (gLI tb'))] [inR .i64 (t16 - t27), Con Try.prog 44 [I (t16 - t27)] true (I ((t16 - t27).natAbs : Int)) ∧ ((I (t16 - t27) : AV) = I (t16 - t27)) ∧ True, band < ((t16 - t27).natAbs : Int)] (by kernel_rfl) ⟨(inR_i64 (by omega) (by omega)), ⟨(abs_ok (t16 - t27) (by omega)), rfl, trivial⟩, h8, trivial⟩ ?_
        refine xe_then ?_
        refine x_true rfl ?_
        refine x_reg [] [0, 1, 2, 7, 8, 15, 16, 26, 27] [13, 8401] [slFeat false a, slFeat false b, I band, .arr 13, I t16, I (a.length : Int), I t16, I (b.length : Int), I t27] [some (.oar [8401] 1 tb'.length (oLI 8401 tb')), some (.fam tb'.length 1 (mLI tb') (fun q => bif Nat.beq q t16.toNat then (fun q => bif Nat.beq q t27.toNat then [I 1099511627776] else (gLI tb') t16.toNat q) else (gLI tb') q))] [(0 : Int) ≤ t16 ∧ t16 < (tb'.length : Int), t16.toNat < tb'.length, t16.toNat < tb'.length ∧ (0 : Int) ≤ t27 ∧ t27 < (((at_ tb' t16.toNat).length) : Int), t16.toNat < tb'.length ∧ t27.toNat < (at_ tb' t16.toNat).length] (by kernel_rfl) ⟨⟨(by omega), (by omega)⟩, (by omega), ⟨(by omega), (by omega), (by omega)⟩, ⟨(by omega), (by omega)⟩, trivial⟩ ?_
        refine xe_block 3 ?_
        refine xe_then ?_
        refine x_weak [] (T := [(0, slFeat false a), (1, slFeat false b), (2, I band), (7, .arr 13), (8, I t16), (15, I (a.length : Int)), (16, I t16), (26, I (b.length : Int)), (27, I t27)]) (O := [(13, .oar [8401] 1 ((tb'.set t16.toNat ((at_ tb' t16.toNat).set t27.toNat 1099511627776)).length) (oLI 8401 (tb'.set t16.toNat ((at_ tb' t16.toNat).set t27.toNat 1099511627776)))), (8401, .fam (tb'.set t16.toNat ((at_ tb' t16.toNat).set t27.toNat 1099511627776)).length 1 (mLI (tb'.set t16.toNat ((at_ tb' t16.toNat).set t27.toNat 1099511627776))) (gLI (tb'.set t16.toNat ((at_ tb' t16.toNat).set t27.toNat 1099511627776))))]) rfl (⟨.inl rfl, .inl rfl, .inl rfl, .inl rfl, .inl rfl, .inl rfl, .inl rfl, .inl rfl, .inl rfl, trivial⟩) (⟨.inr ⟨rfl, rfl, (by first | rfl | (simp; done) | omega), fun i_ hi_ => .inl (osetLI 8401 t16.toNat tb' ((at_ tb' t16.toNat).set t27.toNat 1099511627776) i_)⟩, .inr (fsetLI (P := t16.toNat) (k := t27.toNat) ((by omega)) ((by omega)) (by simp only [Nat.beq_refl, cond_true]; try rfl) (by intro i hi; simp only [Nat.beq_refl, cond_true, beq_ne hi, cond_false]; try rfl) (by intro p hp; simp only [beq_ne hp, cond_false])), trivial⟩) ?_
        refine x_reg [] [0, 1, 2, 7, 8, 15, 16, 26, 27] [13, 8401] [slFeat false a, slFeat false b, I band, .arr 13, I t16, I (a.length : Int), I t16, I (b.length : Int), I (t27 + 1)] [some (.oar [8401] 1 ((tb'.set t16.toNat ((at_ tb' t16.toNat).set t27.toNat 1099511627776)).length) (oLI 8401 (tb'.set t16.toNat ((at_ tb' t16.toNat).set t27.toNat 1099511627776)))), some (.fam (tb'.set t16.toNat ((at_ tb' t16.toNat).set t27.toNat 1099511627776)).length 1 (mLI (tb'.set t16.toNat ((at_ tb' t16.toNat).set t27.toNat 1099511627776))) (gLI (tb'.set t16.toNat ((at_ tb' t16.toNat).set t27.toNat 1099511627776))))] [inR .i64 (t27 + 1)] (by kernel_rfl) ⟨(inR_i64 (by omega) (by omega)), trivial⟩ ?_
        exact xe_again ((t27 + 1), (tb'.set t16.toNat ((at_ tb' t16.toNat).set t27.toNat 1099511627776))) rfl (show (0 ≤ (t27 + 1) ∧ (t27 + 1) ≤ (b.length : Int)) ∧ (tbOk a b band (tb'.set t16.toNat ((at_ tb' t16.toNat).set t27.toNat 1099511627776)) t16.toNat ∧ rowOk a b band (at_ (tb'.set t16.toNat ((at_ tb' t16.toNat).set t27.toNat 1099511627776)) t16.toNat) t16.toNat (t27 + 1).toNat) ∧ True from ⟨(by omega), (by rw [show (t27 + 1).toNat = t27.toNat + 1 from by omega]; exact tb_step hin.1 hin.2 hi hj (by rw [hlb.2]; first | exact (stp_far (by first | (left; rw [hix, hjx]; omega) | (right; (try rw [if_neg (by omega)]); (try rw [if_pos (by omega)]); omega))).symm | (rw [stp_add (by rw [hix, hjx]; omega) (by first | (rw [if_neg (by omega)]; omega) | (rw [if_pos (by omega)]; decide))]; first | rw [if_neg (by omega)] | rw [if_pos (by omega)]))), trivial⟩) (by first | (show (((b.length : Int) - (t27 + 1)).toNat : Nat) < ((b.length : Int) - t27).toNat; omega) | (dsimp only; omega))
       ·by_cases h9 : 1099511627776 ≤ (lb3 tb' t16 t27)
        ·refine x_reg [(3, .call [(true, I (t16 - t27))] true (I ((t16 - t27).natAbs : Int))), (5, .dec false), (8, .dec true)] [0, 1, 2, 7, 8, 9, 10, 15, 16, 26, 27, 49] [13, 8401] [slFeat false a, slFeat false b, I band, .arr 13, I t16, I t27, I (lb3 tb' t16 t27), I (a.length : Int), I t16, I (b.length : Int), I t27, Bv true] [some (.oar [8401] 1 tb'.length (oLI 8401 tb')), some (.fam tb'.length 1 (mLI tb') (gLI tb'))] [inR .i64 (t16 - t27), Con Try.prog 44 [I (t16 - t27)] true (I ((t16 - t27).natAbs : Int)) ∧ ((I (t16 - t27) : AV) = I (t16 - t27)) ∧ True, ¬ (band < ((t16 - t27).natAbs : Int)), 1099511627776 ≤ (lb3 tb' t16 t27)] (by kernel_rfl) ⟨(inR_i64 (by omega) (by omega)), ⟨(abs_ok (t16 - t27) (by omega)), rfl, trivial⟩, h8, h9, trivial⟩ ?_
         refine xe_then ?_
         refine x_true rfl ?_
         refine x_reg [] [0, 1, 2, 7, 8, 15, 16, 26, 27] [13, 8401] [slFeat false a, slFeat false b, I band, .arr 13, I t16, I (a.length : Int), I t16, I (b.length : Int), I t27] [some (.oar [8401] 1 tb'.length (oLI 8401 tb')), some (.fam tb'.length 1 (mLI tb') (fun q => bif Nat.beq q t16.toNat then (fun q => bif Nat.beq q t27.toNat then [I 1099511627776] else (gLI tb') t16.toNat q) else (gLI tb') q))] [(0 : Int) ≤ t16 ∧ t16 < (tb'.length : Int), t16.toNat < tb'.length, t16.toNat < tb'.length ∧ (0 : Int) ≤ t27 ∧ t27 < (((at_ tb' t16.toNat).length) : Int), t16.toNat < tb'.length ∧ t27.toNat < (at_ tb' t16.toNat).length] (by kernel_rfl) ⟨⟨(by omega), (by omega)⟩, (by omega), ⟨(by omega), (by omega), (by omega)⟩, ⟨(by omega), (by omega)⟩, trivial⟩ ?_
         refine xe_block 3 ?_
         refine xe_then ?_
         refine x_weak [] (T := [(0, slFeat false a), (1, slFeat false b), (2, I band), (7, .arr 13), (8, I t16), (15, I (a.length : Int)), (16, I t16), (26, I (b.length : Int)), (27, I t27)]) (O := [(13, .oar [8401] 1 ((tb'.set t16.toNat ((at_ tb' t16.toNat).set t27.toNat 1099511627776)).length) (oLI 8401 (tb'.set t16.toNat ((at_ tb' t16.toNat).set t27.toNat 1099511627776)))), (8401, .fam (tb'.set t16.toNat ((at_ tb' t16.toNat).set t27.toNat 1099511627776)).length 1 (mLI (tb'.set t16.toNat ((at_ tb' t16.toNat).set t27.toNat 1099511627776))) (gLI (tb'.set t16.toNat ((at_ tb' t16.toNat).set t27.toNat 1099511627776))))]) rfl (⟨.inl rfl, .inl rfl, .inl rfl, .inl rfl, .inl rfl, .inl rfl, .inl rfl, .inl rfl, .inl rfl, trivial⟩) (⟨.inr ⟨rfl, rfl, (by first | rfl | (simp; done) | omega), fun i_ hi_ => .inl (osetLI 8401 t16.toNat tb' ((at_ tb' t16.toNat).set t27.toNat 1099511627776) i_)⟩, .inr (fsetLI (P := t16.toNat) (k := t27.toNat) ((by omega)) ((by omega)) (by simp only [Nat.beq_refl, cond_true]; try rfl) (by intro i hi; simp only [Nat.beq_refl, cond_true, beq_ne hi, cond_false]; try rfl) (by intro p hp; simp only [beq_ne hp, cond_false])), trivial⟩) ?_
         refine x_reg [] [0, 1, 2, 7, 8, 15, 16, 26, 27] [13, 8401] [slFeat false a, slFeat false b, I band, .arr 13, I t16, I (a.length : Int), I t16, I (b.length : Int), I (t27 + 1)] [some (.oar [8401] 1 ((tb'.set t16.toNat ((at_ tb' t16.toNat).set t27.toNat 1099511627776)).length) (oLI 8401 (tb'.set t16.toNat ((at_ tb' t16.toNat).set t27.toNat 1099511627776)))), some (.fam (tb'.set t16.toNat ((at_ tb' t16.toNat).set t27.toNat 1099511627776)).length 1 (mLI (tb'.set t16.toNat ((at_ tb' t16.toNat).set t27.toNat 1099511627776))) (gLI (tb'.set t16.toNat ((at_ tb' t16.toNat).set t27.toNat 1099511627776))))] [inR .i64 (t27 + 1)] (by kernel_rfl) ⟨(inR_i64 (by omega) (by omega)), trivial⟩ ?_
         exact xe_again ((t27 + 1), (tb'.set t16.toNat ((at_ tb' t16.toNat).set t27.toNat 1099511627776))) rfl (show (0 ≤ (t27 + 1) ∧ (t27 + 1) ≤ (b.length : Int)) ∧ (tbOk a b band (tb'.set t16.toNat ((at_ tb' t16.toNat).set t27.toNat 1099511627776)) t16.toNat ∧ rowOk a b band (at_ (tb'.set t16.toNat ((at_ tb' t16.toNat).set t27.toNat 1099511627776)) t16.toNat) t16.toNat (t27 + 1).toNat) ∧ True from ⟨(by omega), (by rw [show (t27 + 1).toNat = t27.toNat + 1 from by omega]; exact tb_step hin.1 hin.2 hi hj (by rw [hlb.2]; first | exact (stp_far (by first | (left; rw [hix, hjx]; omega) | (right; (try rw [if_neg (by omega)]); (try rw [if_pos (by omega)]); omega))).symm | (rw [stp_add (by rw [hix, hjx]; omega) (by first | (rw [if_neg (by omega)]; omega) | (rw [if_pos (by omega)]; decide))]; first | rw [if_neg (by omega)] | rw [if_pos (by omega)]))), trivial⟩) (by first | (show (((b.length : Int) - (t27 + 1)).toNat : Nat) < ((b.length : Int) - t27).toNat; omega) | (dsimp only; omega))
        ·refine x_reg [(3, .call [(true, I (t16 - t27))] true (I ((t16 - t27).natAbs : Int))), (5, .dec false), (8, .dec false)] [0, 1, 2, 7, 8, 9, 10, 15, 16, 26, 27, 49] [13, 8401] [slFeat false a, slFeat false b, I band, .arr 13, I t16, I t27, I (lb3 tb' t16 t27), I (a.length : Int), I t16, I (b.length : Int), I t27, Bv false] [some (.oar [8401] 1 tb'.length (oLI 8401 tb')), some (.fam tb'.length 1 (mLI tb') (gLI tb'))] [inR .i64 (t16 - t27), Con Try.prog 44 [I (t16 - t27)] true (I ((t16 - t27).natAbs : Int)) ∧ ((I (t16 - t27) : AV) = I (t16 - t27)) ∧ True, ¬ (band < ((t16 - t27).natAbs : Int)), ¬ (1099511627776 ≤ (lb3 tb' t16 t27))] (by kernel_rfl) ⟨(inR_i64 (by omega) (by omega)), ⟨(abs_ok (t16 - t27) (by omega)), rfl, trivial⟩, h8, h9, trivial⟩ ?_
         refine xe_then ?_
         refine x_false rfl ?_
         refine x_reg [(14, .call [(true, agFeat (at_ a t16.toNat)), (true, agFeat (at_ b t27.toNat))] true (I (costF (at_ a t16.toNat) (at_ b t27.toNat))))] [0, 1, 2, 7, 8, 15, 16, 26, 27] [13, 8401] [slFeat false a, slFeat false b, I band, .arr 13, I t16, I (a.length : Int), I t16, I (b.length : Int), I t27] [some (.oar [8401] 1 tb'.length (oLI 8401 tb')), some (.fam tb'.length 1 (mLI tb') (fun q => bif Nat.beq q t16.toNat then (fun q => bif Nat.beq q t27.toNat then [I ((lb3 tb' t16 t27) + (costF (at_ a t16.toNat) (at_ b t27.toNat)))] else (gLI tb') t16.toNat q) else (gLI tb') q))] [(0 : Int) ≤ t16 ∧ t16 < (tb'.length : Int), t16.toNat < tb'.length, (0 : Int) ≤ t16 ∧ t16 < (a.length : Int), (0 : Int) ≤ t27 ∧ t27 < (b.length : Int), Con Try.prog 84 [agFeat (at_ a t16.toNat), agFeat (at_ b t27.toNat)] true (I (costF (at_ a t16.toNat) (at_ b t27.toNat))) ∧ ((agFeat (at_ a t16.toNat) : AV) = agFeat (at_ a t16.toNat)) ∧ ((agFeat (at_ b t27.toNat) : AV) = agFeat (at_ b t27.toNat)) ∧ True, inR .i64 ((lb3 tb' t16 t27) + (costF (at_ a t16.toNat) (at_ b t27.toNat))), t16.toNat < tb'.length ∧ (0 : Int) ≤ t27 ∧ t27 < (((at_ tb' t16.toNat).length) : Int), t16.toNat < tb'.length ∧ t27.toNat < (at_ tb' t16.toNat).length] (by kernel_rfl) ⟨⟨(by omega), (by omega)⟩, (by omega), ⟨(by omega), (by omega)⟩, ⟨(by omega), (by omega)⟩, ⟨(featCost_ok (at_ a t16.toNat) (at_ b t27.toNat) (by first | exact hab.1 _ (by omega) | exact hab.2.1 _ (by omega)) (by first | exact hab.1 _ (by omega) | exact hab.2.1 _ (by omega))), rfl, rfl, trivial⟩, (inR_i64 (by omega) (by omega)), ⟨(by omega), (by omega), (by omega)⟩, ⟨(by omega), (by omega)⟩, trivial⟩ ?_
         refine xe_block 3 ?_
         refine xe_then ?_
         refine x_weak [] (T := [(0, slFeat false a), (1, slFeat false b), (2, I band), (7, .arr 13), (8, I t16), (15, I (a.length : Int)), (16, I t16), (26, I (b.length : Int)), (27, I t27)]) (O := [(13, .oar [8401] 1 ((tb'.set t16.toNat ((at_ tb' t16.toNat).set t27.toNat ((lb3 tb' t16 t27) + (costF (at_ a t16.toNat) (at_ b t27.toNat))))).length) (oLI 8401 (tb'.set t16.toNat ((at_ tb' t16.toNat).set t27.toNat ((lb3 tb' t16 t27) + (costF (at_ a t16.toNat) (at_ b t27.toNat))))))), (8401, .fam (tb'.set t16.toNat ((at_ tb' t16.toNat).set t27.toNat ((lb3 tb' t16 t27) + (costF (at_ a t16.toNat) (at_ b t27.toNat))))).length 1 (mLI (tb'.set t16.toNat ((at_ tb' t16.toNat).set t27.toNat ((lb3 tb' t16 t27) + (costF (at_ a t16.toNat) (at_ b t27.toNat)))))) (gLI (tb'.set t16.toNat ((at_ tb' t16.toNat).set t27.toNat ((lb3 tb' t16 t27) + (costF (at_ a t16.toNat) (at_ b t27.toNat)))))))]) rfl (⟨.inl rfl, .inl rfl, .inl rfl, .inl rfl, .inl rfl, .inl rfl, .inl rfl, .inl rfl, .inl rfl, trivial⟩) (⟨.inr ⟨rfl, rfl, (by first | rfl | (simp; done) | omega), fun i_ hi_ => .inl (osetLI 8401 t16.toNat tb' ((at_ tb' t16.toNat).set t27.toNat ((lb3 tb' t16 t27) + (costF (at_ a t16.toNat) (at_ b t27.toNat)))) i_)⟩, .inr (fsetLI (P := t16.toNat) (k := t27.toNat) ((by omega)) ((by omega)) (by simp only [Nat.beq_refl, cond_true]; try rfl) (by intro i hi; simp only [Nat.beq_refl, cond_true, beq_ne hi, cond_false]; try rfl) (by intro p hp; simp only [beq_ne hp, cond_false])), trivial⟩) ?_
         refine x_reg [] [0, 1, 2, 7, 8, 15, 16, 26, 27] [13, 8401] [slFeat false a, slFeat false b, I band, .arr 13, I t16, I (a.length : Int), I t16, I (b.length : Int), I (t27 + 1)] [some (.oar [8401] 1 ((tb'.set t16.toNat ((at_ tb' t16.toNat).set t27.toNat ((lb3 tb' t16 t27) + (costF (at_ a t16.toNat) (at_ b t27.toNat))))).length) (oLI 8401 (tb'.set t16.toNat ((at_ tb' t16.toNat).set t27.toNat ((lb3 tb' t16 t27) + (costF (at_ a t16.toNat) (at_ b t27.toNat))))))), some (.fam (tb'.set t16.toNat ((at_ tb' t16.toNat).set t27.toNat ((lb3 tb' t16 t27) + (costF (at_ a t16.toNat) (at_ b t27.toNat))))).length 1 (mLI (tb'.set t16.toNat ((at_ tb' t16.toNat).set t27.toNat ((lb3 tb' t16 t27) + (costF (at_ a t16.toNat) (at_ b t27.toNat)))))) (gLI (tb'.set t16.toNat ((at_ tb' t16.toNat).set t27.toNat ((lb3 tb' t16 t27) + (costF (at_ a t16.toNat) (at_ b t27.toNat)))))))] [inR .i64 (t27 + 1)] (by kernel_rfl) ⟨(inR_i64 (by omega) (by omega)), trivial⟩ ?_
         exact xe_again ((t27 + 1), (tb'.set t16.toNat ((at_ tb' t16.toNat).set t27.toNat ((lb3 tb' t16 t27) + (costF (at_ a t16.toNat) (at_ b t27.toNat)))))) rfl (show (0 ≤ (t27 + 1) ∧ (t27 + 1) ≤ (b.length : Int)) ∧ (tbOk a b band (tb'.set t16.toNat ((at_ tb' t16.toNat).set t27.toNat ((lb3 tb' t16 t27) + (costF (at_ a t16.toNat) (at_ b t27.toNat))))) t16.toNat ∧ rowOk a b band (at_ (tb'.set t16.toNat ((at_ tb' t16.toNat).set t27.toNat ((lb3 tb' t16 t27) + (costF (at_ a t16.toNat) (at_ b t27.toNat))))) t16.toNat) t16.toNat (t27 + 1).toNat) ∧ True from ⟨(by omega), (by rw [show (t27 + 1).toNat = t27.toNat + 1 from by omega]; exact tb_step hin.1 hin.2 hi hj (by rw [hlb.2]; first | exact (stp_far (by first | (left; rw [hix, hjx]; omega) | (right; (try rw [if_neg (by omega)]); (try rw [if_pos (by omega)]); omega))).symm | (rw [stp_add (by rw [hix, hjx]; omega) (by first | (rw [if_neg (by omega)]; omega) | (rw [if_pos (by omega)]; decide))]; first | rw [if_neg (by omega)] | rw [if_pos (by omega)]))), trivial⟩) (by first | (show (((b.length : Int) - (t27 + 1)).toNat : Nat) < ((b.length : Int) - t27).toNat; omega) | (dsimp only; omega))
     ·have hje : t27.toNat = b.length := by omega
      refine x_reg [(0, .dec false)] [0, 1, 2, 7, 8, 15, 16, 26, 27, 28] [13, 8401] [slFeat false a, slFeat false b, I band, .arr 13, I t16, I (a.length : Int), I t16, I (b.length : Int), I t27, Bv false] [some (.oar [8401] 1 tb'.length (oLI 8401 tb')), some (.fam tb'.length 1 (mLI tb') (gLI tb'))] [¬ (t27 < (b.length : Int))] (by kernel_rfl) ⟨h2, trivial⟩ ?_
      refine xe_then ?_
      refine x_seq ?_
      refine x_false rfl ?_
      refine x_exit ?_
      refine xe_exit_then ?_
      refine xe_loop_exit ?_
      refine xe_exit_same ?_
      refine xe_block 1 ?_
      refine xe_then ?_
      refine x_reg [] [0, 1, 2, 7, 15, 16] [13, 8401] [slFeat false a, slFeat false b, I band, .arr 13, I (a.length : Int), I (t16 + 1)] [some (.oar [8401] 1 tb'.length (oLI 8401 tb')), some (.fam tb'.length 1 (mLI tb') (gLI tb'))] [inR .i64 (t16 + 1)] (by kernel_rfl) ⟨(inR_i64 (by omega) (by omega)), trivial⟩ ?_
      exact xe_again ((t16 + 1), tb') rfl (show (0 ≤ (t16 + 1) ∧ (t16 + 1) ≤ (a.length : Int)) ∧ (tbOk a b band tb' (t16 + 1).toNat) ∧ True from ⟨(by omega), (by rw [show (t16 + 1).toNat = t16.toNat + 1 from by omega]; exact tb_done hin.1 hin.2 hje), trivial⟩) (by first | (show (((a.length : Int) - (t16 + 1)).toNat : Nat) < ((a.length : Int) - t16).toNat; omega) | (dsimp only; omega))
    ·have hie : t16.toNat = a.length := by omega
     rw [hie] at htb
     refine x_reg [(0, .dec false)] [0, 1, 2, 7, 15, 16, 17] [13, 8401] [slFeat false a, slFeat false b, I band, .arr 13, I (a.length : Int), I t16, Bv false] [some (.oar [8401] 1 tb.length (oLI 8401 tb)), some (.fam tb.length 1 (mLI tb) (gLI tb))] [¬ (t16 < (a.length : Int))] (by kernel_rfl) ⟨h1, trivial⟩ ?_
     refine xe_then ?_
     refine x_seq ?_
     refine x_false rfl ?_
     refine x_exit ?_
     refine xe_exit_then ?_
     refine xe_loop_exit ?_
     refine xe_exit_same ?_
     refine xe_then ?_
     refine x_seq ?_
     refine x_reg [] [6] [13, 8401] [.arr 13] [some (.oar [8401] 1 tb.length (oLI 8401 tb)), some (.fam tb.length 1 (mLI tb) (gLI tb))] [] (by kernel_rfl) trivial ?_
     refine xe_then ?_
     refine x_ret ?_
     refine xe_end tb (show (tbOk a b band tb a.length) ∧ (True) from ⟨(by first | assumption | exact htb), trivial⟩) (trivial) (.arr 13) (by kernel_rfl) (.inr ⟨(fun _ => rfl), rfl, rfl, oleLI _ _ rfl⟩) (fun _ => rfl) (fun _ => (tagLI true _))
  obtain ⟨v, ⟨hh0, _⟩, hc⟩ := hh
  exact ⟨v, hh0, hc⟩

end Go.Proofs.Ytcedmgpiaekfaaa.Ax
