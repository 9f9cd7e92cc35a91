/- The statement FnSymbolTexts: contracts of what it reaches, and its proof. No conditions. -/
import Derived.Test.YtlkfodajddkomaaGreatDoorAxLSymbolTexts2
import Derived.LaidMore
import Derived.Lay
import Derived.Lib.IndexBytes
import Derived.Lib.ItoaNum
import Derived.Lib.ParseIntBCases
import Derived.Lib.ParseIntBTie
import Derived.Lib.SplitLaws
import Derived.OpenShut
import Derived.SevenTiedAt
import Derived.Stop.Joined
import Derived.Test.YtlkfodajddkomaaGreatDoorAxBd
import Derived.Test.YtlkfodajddkomaaGreatDoorAxR
import Derived.Test.YtlkfodajddkomaaGreatDoorAxY
namespace Go.Proofs.YtlkfodajddkomaaGreatDoor.Ax
open Go.RowKit Go.ChangeShapes Go.WideShapes
set_option linter.unusedVariables false
set_option linter.unusedSimpArgs false


-- spec.ReadSymbols
theorem specReadSymbols_ok (s : ByteArray) (hz : s.size ≤ 100000) : ∃ (v : List Symbol) (c : Bool), (v = (ssR s).1) ∧ (c = (ssR s).2) ∧ Con Tryz.prog 11 [Sv s] true (.tup [slSymbol true v, Bv c]) := by
  have hh : ∃ r : (List Symbol) × Bool, ((r.1 = (ssR s).1) ∧ (r.2 = (ssR s).2) ∧ (True)) ∧ CallOK Tryz.prog 11 [Sv s] (lookO []) true (.tup [slSymbol true r.1, Bv r.2]) (lookO []) := by
    refine fn_okX (Φ := fun r : (List Symbol) × Bool => (r.1 = (ssR s).1) ∧ (r.2 = (ssR s).2) ∧ (True)) [] (fun r => []) (fn := Tryz.f11) (nt := 44) Tryz.func11 rfl rfl (args := [Sv s]) rfl (allcons (.inl ⟨rfl, trivial⟩) allnil) (res := fun r => .tup [slSymbol true r.1, Bv r.2]) ?_
    refine xR [] [0] [] [Sv s] [] [] trivial ?_
    refine x_seq ?_
    obtain ⟨v_1, hx1_0, hc1⟩ := l01Split_ok s 10 (by omega) (by omega)
    have hlv : v_1 = splB ⟨#[10]⟩ s := by rw [hx1_0]; rfl
    have hlp := splB_pos 10 s
    have hlz := splB_len 10 s
    rw [← hlv] at hlp hlz
    refine x_r [(1, .call [(true, .any), (true, .any)] true (slS true v_1))] [4] [] [slS true v_1] [] [Con Tryz.prog 40 [Sv s, .val (.int .u8 10)] true (slS true v_1) ∧ True] ⟨⟨hc1, trivial⟩, trivial⟩ ?_
    refine xe_then ?_
    refine xR [(0, .new 11)] [4, 5] [11] [slS true v_1, .arr 11] [some (.arr 5 0 (litF [] 5))] [] trivial ?_
    refine x_seq ?_
    refine x_seq ?_
    by_cases h1 : (at_ v_1 (((v_1.length : Int) - 1).toNat)) = (⟨#[]⟩ : ByteArray)
    ·have hc1 : at_ v_1 (v_1.length - 1) = ⟨#[]⟩ := by rw [show v_1.length - 1 = ((v_1.length : Int) - 1).toNat from by omega]; exact h1
     refine x_r [(6, .dec false)] [4, 5, 18] [11] [slS true v_1, .arr 11, Bv false] [some (.arr 5 0 (litF [] 5))] [inR .i64 ((v_1.length : Int) - 1), (0 : Int) ≤ ((v_1.length : Int) - 1) ∧ ((v_1.length : Int) - 1) < (v_1.length : Int), ¬ ((at_ v_1 (((v_1.length : Int) - 1).toNat)) ≠ (⟨#[]⟩ : ByteArray))] ⟨(inR_i64 (by omega) (by omega)), ⟨(by omega), (by omega)⟩, (fun hq => hq h1), trivial⟩ ?_
     refine xe_then ?_
     refine x_false rfl ?_
     refine x_skip ?_
     refine xe_then ?_
     refine x_seq ?_
     refine xR [] [4, 5, 6] [11] [slS true v_1, .arr 11, I 0] [some (.arr 5 0 (litF [] 5))] [] trivial ?_
     refine x_block ?_
     refine x_weak [] (T := [(4, slS true v_1), (5, .arr 11), (6, I 0)]) (O := [(11, tASymbol ([] : List Symbol))]) rfl (⟨.inl rfl, .inl rfl, .inl rfl, trivial⟩) (⟨.inr ⟨rfl, (by first | rfl | (simp; done) | (simp; omega) | omega), fun i_ hi_ => absurd hi_ (Nat.not_lt_zero _)⟩, trivial⟩) ?_
     refine x_loop (X := (List Symbol) × Int) (fun x => mkS [(4, slS true v_1), (5, .arr 11), (6, I x.2)] [(11, tASymbol x.1)]) (fun x => (0 ≤ x.2 ∧ x.2 ≤ (v_1.length : Int) - 1) ∧ ((x.1.length : Int) = x.2) ∧ (x.1 = (v_1.take x.2.toNat).map rdSy) ∧ (∀ i_ : Nat, (i_ : Int) < x.2 → n5 (at_ v_1 i_) = true) ∧ True) (fun x => ((v_1.length : Int) - x.2).toNat) (([] : List Symbol), 0) rfl (show (0 ≤ (0 : Int) ∧ (0 : Int) ≤ (v_1.length : Int) - 1) ∧ ((([] : List Symbol).length : Int) = (0 : Int)) ∧ (([] : List Symbol) = (v_1.take (0 : Int).toNat).map rdSy) ∧ (∀ i_ : Nat, (i_ : Int) < (0 : Int) → n5 (at_ v_1 i_) = true) ∧ True from ⟨(by omega), (by rfl), (by rfl), (by intro i_ hi_; omega), trivial⟩) (fun x hI => ?_)
     obtain ⟨ys, i⟩ := x
     obtain ⟨hi0, hyl, hys, hall0, _⟩ : (0 ≤ i ∧ i ≤ (v_1.length : Int) - 1) ∧ ((ys.length : Int) = i) ∧ (ys = (v_1.take i.toNat).map rdSy) ∧ (∀ i_ : Nat, (i_ : Int) < i → n5 (at_ v_1 i_) = true) ∧ True := hI
     show XW _ _ _ _ (mkS [(4, slS true v_1), (5, .arr 11), (6, I i)] [(11, tASymbol ys)]) _ _
     refine x_seq ?_
     refine x_seq ?_
     by_cases h2 : i < ((v_1.length : Int) - 1)
     ·have hi : i.toNat < v_1.length := by omega
      have hliz : (at_ v_1 i.toNat).size ≤ s.size := by have q := at_mem hi; rw [hlv] at q ⊢; exact splB_piece q
      refine x_r [(4, .dec true)] [4, 5, 6, 23] [11] [slS true v_1, .arr 11, I i, Bv true] [some (tASymbol ys)] [inR .i64 ((v_1.length : Int) - 1), i < ((v_1.length : Int) - 1)] ⟨(inR_i64 (by omega) (by omega)), h2, trivial⟩ ?_
      refine xe_then ?_
      refine x_true rfl ?_
      refine x_skip ?_
      refine xe_then ?_
      refine x_seq ?_
      refine x_block ?_
      refine x_seq ?_
      obtain ⟨v_2, c_2, hx2_0, hx2_1, hx2_2, hc2⟩ := l20Line_ok (at_ v_1 i.toNat) (by omega)
      have hnc := hx2_0
      have hnv := hx2_1
      refine x_r [(4, .call [(true, .any)] true (.tup [agSymbol v_2, Bv c_2])), (8, .new 7)] [4, 5, 6, 7, 8] [7, 11] [slS true v_1, .arr 11, I i, .ref 7 0, Bv c_2] [some (bxSymbol v_2), some (tASymbol ys)] [(0 : Int) ≤ i ∧ i < (v_1.length : Int), Con Tryz.prog 41 [Sv (at_ v_1 i.toNat)] true (.tup [agSymbol v_2, Bv c_2]) ∧ True] ⟨⟨(by omega), (by omega)⟩, ⟨hc2, trivial⟩, trivial⟩ ?_
      refine xe_then ?_
      refine x_seq ?_
      refine x_seq ?_
      rcases Bool.eq_false_or_eq_true c_2 with h3 | h3
      ·subst h3
       have hn5 : n5 (at_ v_1 i.toNat) = true := hnc.symm
       have hsv := hnv rfl
       refine x_r [] [4, 5, 6, 7, 35] [7, 11] [slS true v_1, .arr 11, I i, .ref 7 0, Bv false] [some (bxSymbol v_2), some (tASymbol ys)] [] trivial ?_
       refine xe_then ?_
       refine x_false rfl ?_
       refine x_skip ?_
       refine xe_then ?_
       refine x_r [(2, .new 38), (3, .new 39)] [4, 5, 6] [39] [slS true v_1, .arr 39, I i] [some (.arr 5 (ys.length + 1) (catF ys.length (fSymbol ys) (litF [Sv v_2.Label, I v_2.Box.X1, I v_2.Box.Y1, I v_2.Box.X2, I v_2.Box.Y2] 5)))] [(ys.length + 1) * 48 ≤ 140737488355328] ⟨(by omega), trivial⟩ ?_
       refine xe_block 1 ?_
       refine xe_then ?_
       refine x_r [] [4, 5, 6] [39] [slS true v_1, .arr 39, I (i + 1)] [some (.arr 5 (ys.length + 1) (catF ys.length (fSymbol ys) (litF [Sv v_2.Label, I v_2.Box.X1, I v_2.Box.Y1, I v_2.Box.X2, I v_2.Box.Y2] 5)))] [inR .i64 (i + 1)] ⟨(inR_i64 (by omega) (by omega)), trivial⟩ ?_
       refine xe_weak [(11, 39)] (T := [(4, slS true v_1), (5, .arr 11), (6, I (i + 1))]) (O := [(11, tASymbol (ys ++ [v_2]))]) rfl (⟨.inl rfl, .inl rfl, .inl rfl, trivial⟩) (⟨.inr ⟨rfl, (by first | rfl | (simp; done) | (simp; omega) | omega), fun i_ hi_ => .inl (cat_snoc (enc := cSymbol) (xs := ys) rfl i_ hi_)⟩, trivial⟩) (xe_again ((ys ++ [v_2]), (i + 1)) rfl (show (0 ≤ (i + 1) ∧ (i + 1) ≤ (v_1.length : Int) - 1) ∧ (((ys ++ [v_2]).length : Int) = (i + 1)) ∧ ((ys ++ [v_2]) = (v_1.take (i + 1).toNat).map rdSy) ∧ (∀ i_ : Nat, (i_ : Int) < (i + 1) → n5 (at_ v_1 i_) = true) ∧ True from ⟨(by omega), (by simp; omega), (by rw [hys]; exact (mapTake_succ (by omega) hi hsv).symm), (by intro i_ hi_; by_cases ej : i_ = i.toNat; (subst ej; exact hn5); exact hall0 i_ (by omega)), trivial⟩) (by first | (show (((v_1.length : Int) - (i + 1)).toNat : Nat) < ((v_1.length : Int) - i).toNat; omega) | (dsimp only; omega)))
      subst h3
      have hn5 : n5 (at_ v_1 i.toNat) = false := hnc.symm
      have hst := ss_no (s := s) (fun q => by have q1 := q.2.1 i.toNat (by rw [← hlv]; omega); rw [← hlv, hn5] at q1; cases q1)
      refine x_r [] [4, 5, 6, 7, 35] [7, 11] [slS true v_1, .arr 11, I i, .ref 7 0, Bv true] [some (bxSymbol v_2), some (tASymbol ys)] [] trivial ?_
      refine xe_then ?_
      refine x_true rfl ?_
      refine xR [] [2, 3] [] [nilA, Bv false] [] [] trivial ?_
      refine x_ret ?_
      refine xe_ret_then (xe_ret_block (xe_ret_then (xe_loop_ret (xe_ret_block (xe_ret_then ?_)))))
      refine xe_end (([] : List Symbol), false) (show (([] : List Symbol) = (ssR s).1) ∧ (false = (ssR s).2) ∧ (True) from ⟨(by first | (rw [hst]; done) | (rw [hst, ← hlv]; exact hfin) | (rw [hst, ← hlv, ← hfin]; done)), (by first | (rw [hst]; done) | (rw [hst, ← hlv]; exact hfin) | (rw [hst, ← hlv, ← hfin]; done)), trivial⟩) (trivial) (.tup [nilA, Bv false]) (by kernel_rfl) (.inr ⟨⟨rfl, rfl⟩, ⟨rfl, rfl⟩⟩) (fun _ => rfl) (fun _ => (by simp [tagged, taggedL, tagSymbol]))
     have hie : i.toNat = v_1.length - 1 := by omega
     have hfin : ys = (v_1.take (v_1.length - 1)).map rdSy := by rw [hys, hie]
     have hsz9 : ∀ y ∈ ys, y.Label.size ≤ 9223372036854775807 := fun y hy => by have q := rdSy_sz (B := s.size) (ls := v_1.take (v_1.length - 1)) (fun l hl => by have q := List.mem_of_mem_take hl; rw [hlv] at q; exact splB_piece q) y (by rw [← hfin]; exact hy); omega
     refine x_r [(4, .dec false)] [4, 5, 6, 23] [11] [slS true v_1, .arr 11, I i, Bv false] [some (tASymbol ys)] [inR .i64 ((v_1.length : Int) - 1), ¬ (i < ((v_1.length : Int) - 1))] ⟨(inR_i64 (by omega) (by omega)), h2, trivial⟩ ?_
     refine xe_then ?_
     refine x_false rfl ?_
     refine x_exit ?_
     refine xe_exit_then ?_
     refine xe_loop_exit ?_
     refine xe_exit_same ?_
     refine xe_then ?_
     refine x_seq ?_
     refine x_seq ?_
     rcases Bool.eq_false_or_eq_true (okSyms ys) with h4 | h4
     ·have hst := ss_yes (s := s) (by rw [← hlv]; exact ⟨hc1, fun i_ hi_ => hall0 i_ (by omega), by rw [← hfin]; exact h4⟩)
      refine x_r [(1, .call [(false, slSymbol false ys)] true (Bv true))] [5, 42] [11] [.arr 11, Bv false] [some (tASymbol ys)] [Con Tryz.prog 28 [slSymbol false ys] true (Bv true) ∧ ((false = true → true = true) ∧ 5 = 5 ∧ ys.length = ys.length ∧ ∀ i_, i_ < ys.length → (fSymbol ys) i_ = (fSymbol ys) i_ ∨ (AV.idsL ((fSymbol ys) i_) = [] ∧ leL (fun _ => none) false ((fSymbol ys) i_) ((fSymbol ys) i_))) ∧ True] ⟨⟨(con_bool h4 (l20Ok_ok ys hsz9)), ⟨(fun h => by cases h), rfl, rfl, fun i _ => .inl rfl⟩, trivial⟩, trivial⟩ ?_
      refine xe_then ?_
      refine x_false rfl ?_
      refine x_skip ?_
      refine xe_then ?_
      refine xR [] [2, 3] [11] [.arr 11, Bv true] [some (tASymbol ys)] [] trivial ?_
      refine x_ret ?_
      refine xe_end (ys, true) (show (ys = (ssR s).1) ∧ (true = (ssR s).2) ∧ (True) from ⟨(by first | (rw [hst]; done) | (rw [hst, ← hlv]; exact hfin) | (rw [hst, ← hlv, ← hfin]; done)), (by first | (rw [hst]; done) | (rw [hst, ← hlv]; exact hfin) | (rw [hst, ← hlv, ← hfin]; done)), trivial⟩) (trivial) (.tup [.arr 11, Bv true]) (by kernel_rfl) (.inr ⟨⟨(fun _ => rfl), rfl, rfl, fun i _ => .inl rfl⟩, ⟨rfl, rfl⟩⟩) (fun _ => rfl) (fun _ => (by simp [tagged, taggedL, tagSymbol]))
     have hst := ss_no (s := s) (fun q => by have q1 := q.2.2; rw [← hlv, ← hfin] at q1; rw [h4] at q1; cases q1)
     refine x_r [(1, .call [(false, slSymbol false ys)] true (Bv false))] [5, 42] [11] [.arr 11, Bv true] [some (tASymbol ys)] [Con Tryz.prog 28 [slSymbol false ys] true (Bv false) ∧ ((false = true → true = true) ∧ 5 = 5 ∧ ys.length = ys.length ∧ ∀ i_, i_ < ys.length → (fSymbol ys) i_ = (fSymbol ys) i_ ∨ (AV.idsL ((fSymbol ys) i_) = [] ∧ leL (fun _ => none) false ((fSymbol ys) i_) ((fSymbol ys) i_))) ∧ True] ⟨⟨(con_bool h4 (l20Ok_ok ys hsz9)), ⟨(fun h => by cases h), rfl, rfl, fun i _ => .inl rfl⟩, trivial⟩, trivial⟩ ?_
     refine xe_then ?_
     refine x_true rfl ?_
     refine xR [] [2, 3] [] [nilA, Bv false] [] [] trivial ?_
     refine x_ret ?_
     refine xe_ret_then ?_
     refine xe_end (([] : List Symbol), false) (show (([] : List Symbol) = (ssR s).1) ∧ (false = (ssR s).2) ∧ (True) from ⟨(by first | (rw [hst]; done) | (rw [hst, ← hlv]; exact hfin) | (rw [hst, ← hlv, ← hfin]; done)), (by first | (rw [hst]; done) | (rw [hst, ← hlv]; exact hfin) | (rw [hst, ← hlv, ← hfin]; done)), trivial⟩) (trivial) (.tup [nilA, Bv false]) (by kernel_rfl) (.inr ⟨⟨rfl, rfl⟩, ⟨rfl, rfl⟩⟩) (fun _ => rfl) (fun _ => (by simp [tagged, taggedL, tagSymbol]))
    have hst := ss_no (s := s) (fun q => by have q1 := q.1; rw [← hlv, show v_1.length - 1 = ((v_1.length : Int) - 1).toNat from by omega] at q1; exact h1 q1)
    refine x_r [(6, .dec true)] [4, 5, 18] [11] [slS true v_1, .arr 11, Bv true] [some (.arr 5 0 (litF [] 5))] [inR .i64 ((v_1.length : Int) - 1), (0 : Int) ≤ ((v_1.length : Int) - 1) ∧ ((v_1.length : Int) - 1) < (v_1.length : Int), (at_ v_1 (((v_1.length : Int) - 1).toNat)) ≠ (⟨#[]⟩ : ByteArray)] ⟨(inR_i64 (by omega) (by omega)), ⟨(by omega), (by omega)⟩, h1, trivial⟩ ?_
    refine xe_then ?_
    refine x_true rfl ?_
    refine xR [] [2, 3] [] [nilA, Bv false] [] [] trivial ?_
    refine x_ret ?_
    refine xe_ret_then ?_
    refine xe_end (([] : List Symbol), false) (show (([] : List Symbol) = (ssR s).1) ∧ (false = (ssR s).2) ∧ (True) from ⟨(by first | (rw [hst]; done) | (rw [hst, ← hlv]; exact hfin) | (rw [hst, ← hlv, ← hfin]; done)), (by first | (rw [hst]; done) | (rw [hst, ← hlv]; exact hfin) | (rw [hst, ← hlv, ← hfin]; done)), trivial⟩) (trivial) (.tup [nilA, Bv false]) (by kernel_rfl) (.inr ⟨⟨rfl, rfl⟩, ⟨rfl, rfl⟩⟩) (fun _ => rfl) (fun _ => (by simp [tagged, taggedL, tagSymbol]))
  obtain ⟨⟨v, c⟩, ⟨hh0, hh1, _⟩, hc⟩ := hh
  exact ⟨v, c, hh0, hh1, hc⟩



-- spec.DrawSameSymbols
theorem DrawSameSymbols_ok (code : List Int) (hc : (∀ j, j < code.length → 0 ≤ at_ code j ∧ at_ code j ≤ 255) ∧ code.length ≤ 4611686018427387904) : ∃ (a : List Symbol) (b : List Symbol), Con Tryz.prog 12 [slU8 false code] true (.tup [slSymbol true a, slSymbol true b]) := by
  have hh : ∃ r : (List Symbol) × (List Symbol), (True) ∧ CallOK Tryz.prog 12 [slU8 false code] (lookO []) true (.tup [slSymbol true r.1, slSymbol true r.2]) (lookO []) := by
    refine fn_okX (Φ := fun r : (List Symbol) × (List Symbol) => True) [] (fun r => []) (fn := Tryz.f12) (nt := 40) Tryz.func12 rfl rfl (args := [slU8 false code]) rfl (allcons (.inl ⟨rfl, tagU8 false _⟩) allnil) (res := fun r => .tup [slSymbol true r.1, slSymbol true r.2]) ?_
    refine xR [] [0] [] [slU8 false code] [] [] trivial ?_
    refine x_seq ?_
    obtain ⟨s'_1, hx1_0, hc1⟩ := l00From_ok code
    have hsrc : okSrc s'_1 := ⟨by rw [hx1_0.1]; exact hc.1, by rw [hx1_0.2]; decide, by rw [hx1_0.1]; exact hc.2⟩
    have hat0 := hx1_0.2
    refine x_r [(1, .lend [] [(7001, bxl00Src s'_1)] [(true, .any)] false (.ref 7001 0))] [4] [7001] [.ref 7001 0] [some (bxl00Src s'_1)] [CallOK Tryz.prog 26 [slU8 false code] (lookO []) false (.ref 7001 0) (lookO [(7001, bxl00Src s'_1)]) ∧ True] ⟨⟨hc1, trivial⟩, trivial⟩ ?_
    refine xe_then ?_
    refine x_seq ?_
    obtain ⟨s'_2, fs_2, hx2_0, hx2_1, hx2_2, hx2_3, hx2_4, hc2⟩ := l20Bent_ok s'_1 (by first | assumption | (simp only [okSrc] at *; simp_all; done)) (by omega)
    have hfz := hx2_4
    refine x_r [(1, .lend [(7001, bxl00Src s'_1, bxl00Src s'_2)] [(9502, tASymbol fs_2)] [(true, .any)] false (.arr 9502))] [4, 5] [7001, 9502] [.ref 7001 0, .arr 9502] [some (bxl00Src s'_2), some (tASymbol fs_2)] [CallOK Tryz.prog 25 [.ref 7001 0] (lookO [(7001, bxl00Src s'_1)]) false (.arr 9502) (lookO [(7001, bxl00Src s'_2), (9502, tASymbol fs_2)]) ∧ (((bxl00Src s'_1 : Ob) = bxl00Src s'_1 ∨ obLe noOb true (bxl00Src s'_1) (bxl00Src s'_1)) ∧ taggedO false (bxl00Src s'_1)) ∧ True] ⟨⟨hc2, ⟨.inl rfl, (by simp [taggedO, taggedL, tagged, tagU8])⟩, trivial⟩, trivial⟩ ?_
    refine xe_then ?_
    refine xR [(0, .new 11), (2, .new 13)] [4, 5, 6] [13, 7001, 9502] [.ref 7001 0, .arr 9502, .arr 13] [some (.arr 5 (0 + fs_2.length) (catF 0 (litF [] 5) (fSymbol fs_2))), some (bxl00Src s'_2), some (tASymbol fs_2)] [(0 + fs_2.length) * 48 ≤ 140737488355328] ⟨(by (try simp only [List.length_set, List.length_append, List.length_nil]); omega), trivial⟩ ?_
    refine x_seq ?_
    refine x_seq ?_
    refine x_weak [] (T := [(4, .ref 7001 0), (5, .arr 9502), (6, .arr 13)]) (O := [(13, tASymbol fs_2), (7001, bxl00Src s'_2), (9502, tASymbol fs_2)]) rfl (⟨.inl rfl, .inl rfl, .inl rfl, trivial⟩) (⟨.inr ⟨rfl, (by first | rfl | (simp; done) | (simp; omega) | omega), fun i_ hi_ => .inl (cat_nil i_)⟩, .inl rfl, .inl rfl, trivial⟩) ?_
    by_cases h1 : 0 < (fs_2.length : Int)
    ·have hI0 := hfz _ (at_mem (i := 0) (by omega))
     unfold syI at hI0
     obtain ⟨v_3, s'_3, hx3_0, hx3_1, hx3_2, hc3⟩ := one_ok s'_2 2 (by first | assumption | (simp only [okSrc] at *; simp_all; done)) (by omega)
     rcases Bool.eq_false_or_eq_true v_3 with h2 | h2
     ·subst h2
      refine x_r [(2, .dec true), (5, .lend [(7001, bxl00Src s'_2, bxl00Src s'_3)] [] [(true, .any), (true, .any)] true (Bv true))] [4, 5, 6, 20] [13, 7001, 9502] [.ref 7001 0, .arr 9502, .arr 13, Bv true] [some (tASymbol fs_2), some (bxl00Src s'_3), some (tASymbol fs_2)] [0 < (fs_2.length : Int), CallOK Tryz.prog 38 [.ref 7001 0, I 2] (lookO [(7001, bxl00Src s'_2)]) true (Bv true) (lookO [(7001, bxl00Src s'_3)]) ∧ (((bxl00Src s'_2 : Ob) = bxl00Src s'_2 ∨ obLe noOb true (bxl00Src s'_2) (bxl00Src s'_2)) ∧ taggedO false (bxl00Src s'_2)) ∧ True] ⟨h1, ⟨hc3, ⟨.inl rfl, (by simp [taggedO, taggedL, tagged, tagU8])⟩, trivial⟩, trivial⟩ ?_
      refine xe_then ?_
      refine x_true rfl ?_
      obtain ⟨v_4, s'_4, hx4_0, hx4_1, hx4_2, hx4_3, hc4⟩ := pick_ok s'_3 2 (by first | assumption | (simp only [okSrc] at *; simp_all; done)) (by omega)
      refine x_r [(6, .lend [(7001, bxl00Src s'_3, bxl00Src s'_4)] [] [(true, .any), (true, .any)] true (I v_4))] [4, 5, 6] [13, 7001, 9502] [.ref 7001 0, .arr 9502, .arr 13] [some (.arr 5 fs_2.length (fun q => bif Nat.beq q 0 then [Sv ((at_ fs_2 0).Label), I (((at_ fs_2 0).Box).X1), I ((((at_ fs_2 0).Box).Y1) + v_4), I (((at_ fs_2 0).Box).X2), I (((at_ fs_2 0).Box).Y2)] else (fSymbol fs_2) q)), some (bxl00Src s'_4), some (tASymbol fs_2)] [(0 : Int) ≤ 0 ∧ 0 < (fs_2.length : Int), 0 < fs_2.length, CallOK Tryz.prog 42 [.ref 7001 0, I 2] (lookO [(7001, bxl00Src s'_3)]) true (I v_4) (lookO [(7001, bxl00Src s'_4)]) ∧ (((bxl00Src s'_3 : Ob) = bxl00Src s'_3 ∨ obLe noOb true (bxl00Src s'_3) (bxl00Src s'_3)) ∧ taggedO false (bxl00Src s'_3)) ∧ True, inR .i64 ((((at_ fs_2 0).Box).Y1) + v_4), (0 : Int) ≤ 0 ∧ 0 < (fs_2.length : Int), 0 < fs_2.length] ⟨⟨(by omega), (by omega)⟩, (by omega), ⟨hc4, ⟨.inl rfl, (by simp [taggedO, taggedL, tagged, tagU8])⟩, trivial⟩, (inR_i64 (by omega) (by omega)), ⟨(by omega), (by omega)⟩, (by omega), trivial⟩ ?_
      refine xe_then ?_
      refine x_seq ?_
      refine x_seq ?_
      refine x_weak [] (T := [(4, .ref 7001 0), (5, .arr 9502), (6, .arr 13)]) (O := [(13, tASymbol (fs_2.set 0 (Symbol.mk ((at_ fs_2 0).Label) (Box.mk (((at_ fs_2 0).Box).X1) ((((at_ fs_2 0).Box).Y1) + v_4) (((at_ fs_2 0).Box).X2) (((at_ fs_2 0).Box).Y2))))), (7001, bxl00Src s'_4), (9502, tASymbol fs_2)]) rfl (⟨.inl rfl, .inl rfl, .inl rfl, trivial⟩) (⟨.inr ⟨rfl, (by first | rfl | (simp; done) | (simp; omega) | omega), fun i_ hi_ => .inl (upd_enc (enc := cSymbol) rfl i_ hi_)⟩, .inl rfl, .inl rfl, trivial⟩) ?_
      obtain ⟨v_5, s'_5, hx5_0, hx5_1, hx5_2, hc5⟩ := one_ok s'_4 6 (by first | assumption | (simp only [okSrc] at *; simp_all; done)) (by omega)
      rcases Bool.eq_false_or_eq_true v_5 with h3 | h3
      ·subst h3
       refine x_r [(1, .lend [(7001, bxl00Src s'_4, bxl00Src s'_5)] [] [(true, .any), (true, .any)] true (Bv true))] [5, 6, 33] [13, 9502] [.arr 9502, .arr 13, Bv true] [some (tASymbol (fs_2.set 0 (Symbol.mk ((at_ fs_2 0).Label) (Box.mk (((at_ fs_2 0).Box).X1) ((((at_ fs_2 0).Box).Y1) + v_4) (((at_ fs_2 0).Box).X2) (((at_ fs_2 0).Box).Y2))))), some (tASymbol fs_2)] [CallOK Tryz.prog 38 [.ref 7001 0, I 6] (lookO [(7001, bxl00Src s'_4)]) true (Bv true) (lookO [(7001, bxl00Src s'_5)]) ∧ (((bxl00Src s'_4 : Ob) = bxl00Src s'_4 ∨ obLe noOb true (bxl00Src s'_4) (bxl00Src s'_4)) ∧ taggedO false (bxl00Src s'_4)) ∧ True] ⟨⟨hc5, ⟨.inl rfl, (by simp [taggedO, taggedL, tagged, tagU8])⟩, trivial⟩, trivial⟩ ?_
       refine xe_then ?_
       refine x_true rfl ?_
       refine x_r [(2, .new 36), (3, .new 37)] [5, 6] [37, 9502] [.arr 9502, .arr 37] [some (.arr 5 (((fs_2.set 0 (Symbol.mk ((at_ fs_2 0).Label) (Box.mk (((at_ fs_2 0).Box).X1) ((((at_ fs_2 0).Box).Y1) + v_4) (((at_ fs_2 0).Box).X2) (((at_ fs_2 0).Box).Y2)))).length) + 1) (catF ((fs_2.set 0 (Symbol.mk ((at_ fs_2 0).Label) (Box.mk (((at_ fs_2 0).Box).X1) ((((at_ fs_2 0).Box).Y1) + v_4) (((at_ fs_2 0).Box).X2) (((at_ fs_2 0).Box).Y2)))).length) (fSymbol (fs_2.set 0 (Symbol.mk ((at_ fs_2 0).Label) (Box.mk (((at_ fs_2 0).Box).X1) ((((at_ fs_2 0).Box).Y1) + v_4) (((at_ fs_2 0).Box).X2) (((at_ fs_2 0).Box).Y2))))) (litF [Sv (⟨#[97]⟩ : ByteArray), I 0, I 0, I 0, I 0] 5))), some (tASymbol fs_2)] [(((fs_2.set 0 (Symbol.mk ((at_ fs_2 0).Label) (Box.mk (((at_ fs_2 0).Box).X1) ((((at_ fs_2 0).Box).Y1) + v_4) (((at_ fs_2 0).Box).X2) (((at_ fs_2 0).Box).Y2)))).length) + 1) * 48 ≤ 140737488355328] ⟨(by (try simp only [List.length_set, List.length_append, List.length_nil]); omega), trivial⟩ ?_
       refine xe_then ?_
       refine x_seq ?_
       refine x_weak [] (T := [(5, .arr 9502), (6, .arr 37)]) (O := [(37, tASymbol ((fs_2.set 0 (Symbol.mk ((at_ fs_2 0).Label) (Box.mk (((at_ fs_2 0).Box).X1) ((((at_ fs_2 0).Box).Y1) + v_4) (((at_ fs_2 0).Box).X2) (((at_ fs_2 0).Box).Y2)))) ++ [(Symbol.mk (⟨#[97]⟩ : ByteArray) (Box.mk 0 0 0 0))])), (9502, tASymbol fs_2)]) rfl (⟨.inl rfl, .inl rfl, trivial⟩) (⟨.inr ⟨rfl, (by first | rfl | (simp; done) | (simp; omega) | omega), fun i_ hi_ => .inl (cat_snoc (enc := cSymbol) (xs := (fs_2.set 0 (Symbol.mk ((at_ fs_2 0).Label) (Box.mk (((at_ fs_2 0).Box).X1) ((((at_ fs_2 0).Box).Y1) + v_4) (((at_ fs_2 0).Box).X2) (((at_ fs_2 0).Box).Y2))))) rfl i_ hi_)⟩, .inl rfl, trivial⟩) ?_
       refine x_r [] [2, 3] [37, 9502] [.arr 9502, .arr 37] [some (tASymbol ((fs_2.set 0 (Symbol.mk ((at_ fs_2 0).Label) (Box.mk (((at_ fs_2 0).Box).X1) ((((at_ fs_2 0).Box).Y1) + v_4) (((at_ fs_2 0).Box).X2) (((at_ fs_2 0).Box).Y2)))) ++ [(Symbol.mk (⟨#[97]⟩ : ByteArray) (Box.mk 0 0 0 0))])), some (tASymbol fs_2)] [] trivial ?_
       refine xe_then ?_
       refine x_ret ?_
       refine xe_end (fs_2, ((fs_2.set 0 (Symbol.mk ((at_ fs_2 0).Label) (Box.mk (((at_ fs_2 0).Box).X1) ((((at_ fs_2 0).Box).Y1) + v_4) (((at_ fs_2 0).Box).X2) (((at_ fs_2 0).Box).Y2)))) ++ [(Symbol.mk (⟨#[97]⟩ : ByteArray) (Box.mk 0 0 0 0))])) trivial (trivial) (.tup [.arr 9502, .arr 37]) (by kernel_rfl) (.inr ⟨⟨(fun _ => rfl), rfl, rfl, fun i _ => .inl rfl⟩, ⟨⟨(fun _ => rfl), rfl, rfl, fun i _ => .inl rfl⟩, rfl⟩⟩) (fun _ => rfl) (fun _ => (by simp [tagged, taggedL, tagSymbol]))
      subst h3
      refine x_r [(1, .lend [(7001, bxl00Src s'_4, bxl00Src s'_5)] [] [(true, .any), (true, .any)] true (Bv false))] [5, 6, 33] [13, 9502] [.arr 9502, .arr 13, Bv false] [some (tASymbol (fs_2.set 0 (Symbol.mk ((at_ fs_2 0).Label) (Box.mk (((at_ fs_2 0).Box).X1) ((((at_ fs_2 0).Box).Y1) + v_4) (((at_ fs_2 0).Box).X2) (((at_ fs_2 0).Box).Y2))))), some (tASymbol fs_2)] [CallOK Tryz.prog 38 [.ref 7001 0, I 6] (lookO [(7001, bxl00Src s'_4)]) true (Bv false) (lookO [(7001, bxl00Src s'_5)]) ∧ (((bxl00Src s'_4 : Ob) = bxl00Src s'_4 ∨ obLe noOb true (bxl00Src s'_4) (bxl00Src s'_4)) ∧ taggedO false (bxl00Src s'_4)) ∧ True] ⟨⟨hc5, ⟨.inl rfl, (by simp [taggedO, taggedL, tagged, tagU8])⟩, trivial⟩, trivial⟩ ?_
      refine xe_then ?_
      refine x_false rfl ?_
      refine x_skip ?_
      refine xe_then ?_
      refine xR [] [2, 3] [13, 9502] [.arr 9502, .arr 13] [some (tASymbol (fs_2.set 0 (Symbol.mk ((at_ fs_2 0).Label) (Box.mk (((at_ fs_2 0).Box).X1) ((((at_ fs_2 0).Box).Y1) + v_4) (((at_ fs_2 0).Box).X2) (((at_ fs_2 0).Box).Y2))))), some (tASymbol fs_2)] [] trivial ?_
      refine x_ret ?_
      refine xe_end (fs_2, (fs_2.set 0 (Symbol.mk ((at_ fs_2 0).Label) (Box.mk (((at_ fs_2 0).Box).X1) ((((at_ fs_2 0).Box).Y1) + v_4) (((at_ fs_2 0).Box).X2) (((at_ fs_2 0).Box).Y2))))) trivial (trivial) (.tup [.arr 9502, .arr 13]) (by kernel_rfl) (.inr ⟨⟨(fun _ => rfl), rfl, rfl, fun i _ => .inl rfl⟩, ⟨⟨(fun _ => rfl), rfl, rfl, fun i _ => .inl rfl⟩, rfl⟩⟩) (fun _ => rfl) (fun _ => (by simp [tagged, taggedL, tagSymbol]))
     subst h2
     refine x_r [(2, .dec true), (5, .lend [(7001, bxl00Src s'_2, bxl00Src s'_3)] [] [(true, .any), (true, .any)] true (Bv false))] [4, 5, 6, 20] [13, 7001, 9502] [.ref 7001 0, .arr 9502, .arr 13, Bv false] [some (tASymbol fs_2), some (bxl00Src s'_3), some (tASymbol fs_2)] [0 < (fs_2.length : Int), CallOK Tryz.prog 38 [.ref 7001 0, I 2] (lookO [(7001, bxl00Src s'_2)]) true (Bv false) (lookO [(7001, bxl00Src s'_3)]) ∧ (((bxl00Src s'_2 : Ob) = bxl00Src s'_2 ∨ obLe noOb true (bxl00Src s'_2) (bxl00Src s'_2)) ∧ taggedO false (bxl00Src s'_2)) ∧ True] ⟨h1, ⟨hc3, ⟨.inl rfl, (by simp [taggedO, taggedL, tagged, tagU8])⟩, trivial⟩, trivial⟩ ?_
     refine xe_then ?_
     refine x_false rfl ?_
     refine x_skip ?_
     refine xe_then ?_
     refine x_seq ?_
     refine x_seq ?_
     obtain ⟨v_6, s'_6, hx6_0, hx6_1, hx6_2, hc6⟩ := one_ok s'_3 6 (by first | assumption | (simp only [okSrc] at *; simp_all; done)) (by omega)
     rcases Bool.eq_false_or_eq_true v_6 with h4 | h4
     ·subst h4
      refine x_r [(1, .lend [(7001, bxl00Src s'_3, bxl00Src s'_6)] [] [(true, .any), (true, .any)] true (Bv true))] [5, 6, 33] [13, 9502] [.arr 9502, .arr 13, Bv true] [some (tASymbol fs_2), some (tASymbol fs_2)] [CallOK Tryz.prog 38 [.ref 7001 0, I 6] (lookO [(7001, bxl00Src s'_3)]) true (Bv true) (lookO [(7001, bxl00Src s'_6)]) ∧ (((bxl00Src s'_3 : Ob) = bxl00Src s'_3 ∨ obLe noOb true (bxl00Src s'_3) (bxl00Src s'_3)) ∧ taggedO false (bxl00Src s'_3)) ∧ True] ⟨⟨hc6, ⟨.inl rfl, (by simp [taggedO, taggedL, tagged, tagU8])⟩, trivial⟩, trivial⟩ ?_
      refine xe_then ?_
      refine x_true rfl ?_
      refine x_r [(2, .new 36), (3, .new 37)] [5, 6] [37, 9502] [.arr 9502, .arr 37] [some (.arr 5 (fs_2.length + 1) (catF fs_2.length (fSymbol fs_2) (litF [Sv (⟨#[97]⟩ : ByteArray), I 0, I 0, I 0, I 0] 5))), some (tASymbol fs_2)] [(fs_2.length + 1) * 48 ≤ 140737488355328] ⟨(by (try simp only [List.length_set, List.length_append, List.length_nil]); omega), trivial⟩ ?_
      refine xe_then ?_
      refine x_seq ?_
      refine x_weak [] (T := [(5, .arr 9502), (6, .arr 37)]) (O := [(37, tASymbol (fs_2 ++ [(Symbol.mk (⟨#[97]⟩ : ByteArray) (Box.mk 0 0 0 0))])), (9502, tASymbol fs_2)]) rfl (⟨.inl rfl, .inl rfl, trivial⟩) (⟨.inr ⟨rfl, (by first | rfl | (simp; done) | (simp; omega) | omega), fun i_ hi_ => .inl (cat_snoc (enc := cSymbol) (xs := fs_2) rfl i_ hi_)⟩, .inl rfl, trivial⟩) ?_
      refine x_r [] [2, 3] [37, 9502] [.arr 9502, .arr 37] [some (tASymbol (fs_2 ++ [(Symbol.mk (⟨#[97]⟩ : ByteArray) (Box.mk 0 0 0 0))])), some (tASymbol fs_2)] [] trivial ?_
      refine xe_then ?_
      refine x_ret ?_
      refine xe_end (fs_2, (fs_2 ++ [(Symbol.mk (⟨#[97]⟩ : ByteArray) (Box.mk 0 0 0 0))])) trivial (trivial) (.tup [.arr 9502, .arr 37]) (by kernel_rfl) (.inr ⟨⟨(fun _ => rfl), rfl, rfl, fun i _ => .inl rfl⟩, ⟨⟨(fun _ => rfl), rfl, rfl, fun i _ => .inl rfl⟩, rfl⟩⟩) (fun _ => rfl) (fun _ => (by simp [tagged, taggedL, tagSymbol]))
     subst h4
     refine x_r [(1, .lend [(7001, bxl00Src s'_3, bxl00Src s'_6)] [] [(true, .any), (true, .any)] true (Bv false))] [5, 6, 33] [13, 9502] [.arr 9502, .arr 13, Bv false] [some (tASymbol fs_2), some (tASymbol fs_2)] [CallOK Tryz.prog 38 [.ref 7001 0, I 6] (lookO [(7001, bxl00Src s'_3)]) true (Bv false) (lookO [(7001, bxl00Src s'_6)]) ∧ (((bxl00Src s'_3 : Ob) = bxl00Src s'_3 ∨ obLe noOb true (bxl00Src s'_3) (bxl00Src s'_3)) ∧ taggedO false (bxl00Src s'_3)) ∧ True] ⟨⟨hc6, ⟨.inl rfl, (by simp [taggedO, taggedL, tagged, tagU8])⟩, trivial⟩, trivial⟩ ?_
     refine xe_then ?_
     refine x_false rfl ?_
     refine x_skip ?_
     refine xe_then ?_
     refine xR [] [2, 3] [13, 9502] [.arr 9502, .arr 13] [some (tASymbol fs_2), some (tASymbol fs_2)] [] trivial ?_
     refine x_ret ?_
     refine xe_end (fs_2, fs_2) trivial (trivial) (.tup [.arr 9502, .arr 13]) (by kernel_rfl) (.inr ⟨⟨(fun _ => rfl), rfl, rfl, fun i _ => .inl rfl⟩, ⟨⟨(fun _ => rfl), rfl, rfl, fun i _ => .inl rfl⟩, rfl⟩⟩) (fun _ => rfl) (fun _ => (by simp [tagged, taggedL, tagSymbol]))
    refine x_r [(2, .dec false)] [4, 5, 6, 20] [13, 7001, 9502] [.ref 7001 0, .arr 9502, .arr 13, Bv false] [some (tASymbol fs_2), some (bxl00Src s'_2), some (tASymbol fs_2)] [¬ (0 < (fs_2.length : Int))] ⟨h1, trivial⟩ ?_
    refine xe_then ?_
    refine x_false rfl ?_
    refine x_skip ?_
    refine xe_then ?_
    refine x_seq ?_
    refine x_seq ?_
    obtain ⟨v_7, s'_7, hx7_0, hx7_1, hx7_2, hc7⟩ := one_ok s'_2 6 (by first | assumption | (simp only [okSrc] at *; simp_all; done)) (by omega)
    rcases Bool.eq_false_or_eq_true v_7 with h5 | h5
    ·subst h5
     refine x_r [(1, .lend [(7001, bxl00Src s'_2, bxl00Src s'_7)] [] [(true, .any), (true, .any)] true (Bv true))] [5, 6, 33] [13, 9502] [.arr 9502, .arr 13, Bv true] [some (tASymbol fs_2), some (tASymbol fs_2)] [CallOK Tryz.prog 38 [.ref 7001 0, I 6] (lookO [(7001, bxl00Src s'_2)]) true (Bv true) (lookO [(7001, bxl00Src s'_7)]) ∧ (((bxl00Src s'_2 : Ob) = bxl00Src s'_2 ∨ obLe noOb true (bxl00Src s'_2) (bxl00Src s'_2)) ∧ taggedO false (bxl00Src s'_2)) ∧ True] ⟨⟨hc7, ⟨.inl rfl, (by simp [taggedO, taggedL, tagged, tagU8])⟩, trivial⟩, trivial⟩ ?_
     refine xe_then ?_
     refine x_true rfl ?_
     refine x_r [(2, .new 36), (3, .new 37)] [5, 6] [37, 9502] [.arr 9502, .arr 37] [some (.arr 5 (fs_2.length + 1) (catF fs_2.length (fSymbol fs_2) (litF [Sv (⟨#[97]⟩ : ByteArray), I 0, I 0, I 0, I 0] 5))), some (tASymbol fs_2)] [(fs_2.length + 1) * 48 ≤ 140737488355328] ⟨(by (try simp only [List.length_set, List.length_append, List.length_nil]); omega), trivial⟩ ?_
     refine xe_then ?_
     refine x_seq ?_
     refine x_weak [] (T := [(5, .arr 9502), (6, .arr 37)]) (O := [(37, tASymbol (fs_2 ++ [(Symbol.mk (⟨#[97]⟩ : ByteArray) (Box.mk 0 0 0 0))])), (9502, tASymbol fs_2)]) rfl (⟨.inl rfl, .inl rfl, trivial⟩) (⟨.inr ⟨rfl, (by first | rfl | (simp; done) | (simp; omega) | omega), fun i_ hi_ => .inl (cat_snoc (enc := cSymbol) (xs := fs_2) rfl i_ hi_)⟩, .inl rfl, trivial⟩) ?_
     refine x_r [] [2, 3] [37, 9502] [.arr 9502, .arr 37] [some (tASymbol (fs_2 ++ [(Symbol.mk (⟨#[97]⟩ : ByteArray) (Box.mk 0 0 0 0))])), some (tASymbol fs_2)] [] trivial ?_
     refine xe_then ?_
     refine x_ret ?_
     refine xe_end (fs_2, (fs_2 ++ [(Symbol.mk (⟨#[97]⟩ : ByteArray) (Box.mk 0 0 0 0))])) trivial (trivial) (.tup [.arr 9502, .arr 37]) (by kernel_rfl) (.inr ⟨⟨(fun _ => rfl), rfl, rfl, fun i _ => .inl rfl⟩, ⟨⟨(fun _ => rfl), rfl, rfl, fun i _ => .inl rfl⟩, rfl⟩⟩) (fun _ => rfl) (fun _ => (by simp [tagged, taggedL, tagSymbol]))
    subst h5
    refine x_r [(1, .lend [(7001, bxl00Src s'_2, bxl00Src s'_7)] [] [(true, .any), (true, .any)] true (Bv false))] [5, 6, 33] [13, 9502] [.arr 9502, .arr 13, Bv false] [some (tASymbol fs_2), some (tASymbol fs_2)] [CallOK Tryz.prog 38 [.ref 7001 0, I 6] (lookO [(7001, bxl00Src s'_2)]) true (Bv false) (lookO [(7001, bxl00Src s'_7)]) ∧ (((bxl00Src s'_2 : Ob) = bxl00Src s'_2 ∨ obLe noOb true (bxl00Src s'_2) (bxl00Src s'_2)) ∧ taggedO false (bxl00Src s'_2)) ∧ True] ⟨⟨hc7, ⟨.inl rfl, (by simp [taggedO, taggedL, tagged, tagU8])⟩, trivial⟩, trivial⟩ ?_
    refine xe_then ?_
    refine x_false rfl ?_
    refine x_skip ?_
    refine xe_then ?_
    refine xR [] [2, 3] [13, 9502] [.arr 9502, .arr 13] [some (tASymbol fs_2), some (tASymbol fs_2)] [] trivial ?_
    refine x_ret ?_
    refine xe_end (fs_2, fs_2) trivial (trivial) (.tup [.arr 9502, .arr 13]) (by kernel_rfl) (.inr ⟨⟨(fun _ => rfl), rfl, rfl, fun i _ => .inl rfl⟩, ⟨⟨(fun _ => rfl), rfl, rfl, fun i _ => .inl rfl⟩, rfl⟩⟩) (fun _ => rfl) (fun _ => (by simp [tagged, taggedL, tagSymbol]))
  obtain ⟨⟨a, b⟩, _, hc⟩ := hh
  exact ⟨a, b, hc⟩



-- spec.DrawRelationName
theorem DrawRelationName_ok (code : List Int) (hc : (∀ j, j < code.length → 0 ≤ at_ code j ∧ at_ code j ≤ 255) ∧ code.length ≤ 4611686018427387904) : ∃ (n : Int), (-1 ≤ n ∧ n ≤ 8) ∧ Con Tryz.prog 13 [slU8 false code] true (I n) := by
  have hh : ∃ r : Int, ((-1 ≤ r ∧ r ≤ 8) ∧ (True)) ∧ CallOK Tryz.prog 13 [slU8 false code] (lookO []) true (I r) (lookO []) := by
    refine fn_okX (Φ := fun r : Int => (-1 ≤ r ∧ r ≤ 8) ∧ (True)) [] (fun r => []) (fn := Tryz.f13) (nt := 9) Tryz.func13 rfl rfl (args := [slU8 false code]) rfl (allcons (.inl ⟨rfl, tagU8 false _⟩) allnil) (res := fun r => I r) ?_
    refine xR [] [0] [] [slU8 false code] [] [] trivial ?_
    refine x_seq ?_
    obtain ⟨s'_1, hx1_0, hc1⟩ := l00From_ok code
    have hsrc : okSrc s'_1 := ⟨by rw [hx1_0.1]; exact hc.1, by rw [hx1_0.2]; decide, by rw [hx1_0.1]; exact hc.2⟩
    have hat0 := hx1_0.2
    refine x_r [(1, .lend [] [(7001, bxl00Src s'_1)] [(true, .any)] false (.ref 7001 0))] [3] [7001] [.ref 7001 0] [some (bxl00Src s'_1)] [CallOK Tryz.prog 26 [slU8 false code] (lookO []) false (.ref 7001 0) (lookO [(7001, bxl00Src s'_1)]) ∧ True] ⟨⟨hc1, trivial⟩, trivial⟩ ?_
    refine xe_then ?_
    refine x_seq ?_
    obtain ⟨v_2, s'_2, hx2_0, hx2_1, hx2_2, hx2_3, hc2⟩ := pick_ok s'_1 10 (by first | assumption | (simp only [okSrc] at *; simp_all; done)) (by omega)
    refine x_r [(1, .lend [(7001, bxl00Src s'_1, bxl00Src s'_2)] [] [(true, .any), (true, .any)] true (I v_2))] [2] [] [I (v_2 - 1)] [] [CallOK Tryz.prog 42 [.ref 7001 0, I 10] (lookO [(7001, bxl00Src s'_1)]) true (I v_2) (lookO [(7001, bxl00Src s'_2)]) ∧ (((bxl00Src s'_1 : Ob) = bxl00Src s'_1 ∨ obLe noOb true (bxl00Src s'_1) (bxl00Src s'_1)) ∧ taggedO false (bxl00Src s'_1)) ∧ True, inR .i64 (v_2 - 1)] ⟨⟨hc2, ⟨.inl rfl, (by simp [taggedO, taggedL, tagged, tagU8])⟩, trivial⟩, (inR_i64 (by omega) (by omega)), trivial⟩ ?_
    refine xe_then ?_
    refine x_ret ?_
    refine xe_end (v_2 - 1) (show (-1 ≤ (v_2 - 1) ∧ (v_2 - 1) ≤ 8) ∧ (True) from ⟨(by first | omega | rfl | assumption | (dsimp only; first | omega | rfl | assumption) | (simp only [*]; done) | (simp_all; done)), trivial⟩) (trivial) (I (v_2 - 1)) (by kernel_rfl) (.inl rfl) (fun _ => rfl) (fun _ => trivial)
  obtain ⟨n, ⟨hh0, _⟩, hc⟩ := hh
  exact ⟨n, hh0, hc⟩



-- impl.relationNames
theorem relationNames_ok : ∃ (v : List ByteArray), (v = relNs) ∧ Con Tryz.prog 44 [] true (slS true v) := by
  have hh : ∃ r : (List ByteArray), ((r = relNs) ∧ (True)) ∧ CallOK Tryz.prog 44 [] (lookO []) true (slS true r) (lookO []) := by
    refine fn_okX (Φ := fun r : (List ByteArray) => (r = relNs) ∧ (True)) [] (fun r => []) (fn := Tryz.f44) (nt := 2) Tryz.func44 rfl rfl (args := []) rfl allnil (res := fun r => slS true r) ?_
    refine xR [] [] [] [] [] [] trivial ?_
    refine xR [(0, .new 1)] [0] [1] [.arr 1] [some (.arr 1 7 (litF [Sv (⟨#[110, 111, 110, 101]⟩ : ByteArray), Sv (⟨#[114, 105, 103, 104, 116]⟩ : ByteArray), Sv (⟨#[97, 98, 111, 118, 101]⟩ : ByteArray), Sv (⟨#[98, 101, 108, 111, 119]⟩ : ByteArray), Sv (⟨#[117, 112, 112, 101, 114]⟩ : ByteArray), Sv (⟨#[108, 111, 119, 101, 114]⟩ : ByteArray), Sv (⟨#[105, 110, 115, 105, 100, 101]⟩ : ByteArray)] 1))] [] trivial ?_
    refine x_ret ?_
    refine xe_end ([(⟨#[110, 111, 110, 101]⟩ : ByteArray), (⟨#[114, 105, 103, 104, 116]⟩ : ByteArray), (⟨#[97, 98, 111, 118, 101]⟩ : ByteArray), (⟨#[98, 101, 108, 111, 119]⟩ : ByteArray), (⟨#[117, 112, 112, 101, 114]⟩ : ByteArray), (⟨#[108, 111, 119, 101, 114]⟩ : ByteArray), (⟨#[105, 110, 115, 105, 100, 101]⟩ : ByteArray)]) (show (([(⟨#[110, 111, 110, 101]⟩ : ByteArray), (⟨#[114, 105, 103, 104, 116]⟩ : ByteArray), (⟨#[97, 98, 111, 118, 101]⟩ : ByteArray), (⟨#[98, 101, 108, 111, 119]⟩ : ByteArray), (⟨#[117, 112, 112, 101, 114]⟩ : ByteArray), (⟨#[108, 111, 119, 101, 114]⟩ : ByteArray), (⟨#[105, 110, 115, 105, 100, 101]⟩ : ByteArray)]) = relNs) ∧ (True) from ⟨(by rfl), trivial⟩) (trivial) (.arr 1) (by kernel_rfl) (.inr ⟨(fun _ => rfl), rfl, (by first | rfl | (simp; done) | (simp; omega) | omega), fun i_ hi_ => .inl (match i_, hi_ with | 0, _ => rfl | 1, _ => rfl | 2, _ => rfl | 3, _ => rfl | 4, _ => rfl | 5, _ => rfl | 6, _ => rfl | (i + 7), h => absurd h (by simp))⟩) (fun _ => rfl) (fun _ => (tagS true _))
  obtain ⟨v, ⟨hh0, _⟩, hc⟩ := hh
  exact ⟨v, hh0, hc⟩



-- impl.RelationName
theorem implRelationName_ok (relation : Int) : ∃ (v : ByteArray), (v = relNm relation) ∧ Con Tryz.prog 14 [I relation] true (Sv v) := by
  have hh : ∃ r : ByteArray, ((r = relNm relation) ∧ (True)) ∧ CallOK Tryz.prog 14 [I relation] (lookO []) true (Sv r) (lookO []) := by
    refine fn_okX (Φ := fun r : ByteArray => (r = relNm relation) ∧ (True)) [] (fun r => []) (fn := Tryz.f14) (nt := 10) Tryz.func14 rfl rfl (args := [I relation]) rfl (allcons (.inl ⟨rfl, trivial⟩) allnil) (res := fun r => Sv r) ?_
    refine xR [] [0] [] [I relation] [] [] trivial ?_
    refine x_seq ?_
    refine x_seq ?_
    rcases Bool.eq_false_or_eq_true (inB relation 0 6) with h1 | h1
    ·have hin := h1
     have hib := inB_iff.1 hin
     have hst : relNm relation = at_ relNs relation.toNat := if_pos hin
     refine x_r [(1, .call [(true, .any), (true, .any), (true, .any)] true (Bv true))] [0, 5] [] [I relation, Bv false] [] [Con Tryz.prog 43 [I relation, I 0, I 6] true (Bv true) ∧ True] ⟨⟨(con_bool h1 (within_ok relation 0 6)), trivial⟩, trivial⟩ ?_
     refine xe_then ?_
     refine x_false rfl ?_
     refine x_skip ?_
     refine xe_then ?_
     refine x_seq ?_
     obtain ⟨v_1, hx1_0, hc1⟩ := relationNames_ok
     have hnv := hx1_0
     have hnl : v_1.length = 7 := by rw [hnv]; rfl
     refine x_r [(0, .call [] true (slS true v_1))] [2] [] [Sv (at_ v_1 relation.toNat)] [] [Con Tryz.prog 44 [] true (slS true v_1) ∧ True, (0 : Int) ≤ relation ∧ relation < (v_1.length : Int)] ⟨⟨hc1, trivial⟩, ⟨(by omega), (by omega)⟩, trivial⟩ ?_
     refine xe_then ?_
     refine x_ret ?_
     refine xe_end (at_ v_1 relation.toNat) (show ((at_ v_1 relation.toNat) = relNm relation) ∧ (True) from ⟨(by first | (rw [hst]; done) | (rw [hst, hnv]; done)), trivial⟩) (trivial) (Sv (at_ v_1 relation.toNat)) (by kernel_rfl) (.inl rfl) (fun _ => rfl) (fun _ => trivial)
    have hst : relNm relation = ⟨#[]⟩ := by unfold relNm; rw [h1]; rfl
    refine x_r [(1, .call [(true, .any), (true, .any), (true, .any)] true (Bv false))] [0, 5] [] [I relation, Bv true] [] [Con Tryz.prog 43 [I relation, I 0, I 6] true (Bv false) ∧ True] ⟨⟨(con_bool h1 (within_ok relation 0 6)), trivial⟩, trivial⟩ ?_
    refine xe_then ?_
    refine x_true rfl ?_
    refine xR [] [2] [] [Sv (⟨#[]⟩ : ByteArray)] [] [] trivial ?_
    refine x_ret ?_
    refine xe_ret_then ?_
    refine xe_end (⟨#[]⟩ : ByteArray) (show ((⟨#[]⟩ : ByteArray) = relNm relation) ∧ (True) from ⟨(by first | (rw [hst]; done) | (rw [hst, hnv]; done)), trivial⟩) (trivial) (Sv (⟨#[]⟩ : ByteArray)) (by kernel_rfl) (.inl rfl) (fun _ => rfl) (fun _ => trivial)
  obtain ⟨v, ⟨hh0, _⟩, hc⟩ := hh
  exact ⟨v, hh0, hc⟩



-- slices.Index[[]string,string]
theorem indexS_ok (s : List ByteArray) (v : ByteArray) : Con Tryz.prog 45 [slS false s, Sv v] true (I (fndS s v)) := by
  refine fn_ok (fn := Tryz.f45) (nt := 19) Tryz.func45 rfl rfl rfl rfl (by simp [taggedL, tagged, tagS]) fun B hB => ?_
  refine aw_lens (x := slS false s) 0 rfl (fun len_s => ?_)
  simp [LenOK, LenL, cS, fS, slS] at len_s
  refine aR [] [0, 1] [] [slS false s, Sv v] [] [] hB trivial ?_
  refine aw_seq ?_
  refine aR [] [0, 1, 7, 8] [] [slS false s, Sv v, I (s.length : Int), I 0] [] [] hB trivial ?_
  refine aw_block ?_
  refine aw_loop (fun gn gσ => ∃ (t8 : Int), gn = ((s.length : Int) - t8).toNat ∧ (0 ≤ t8 ∧ t8 ≤ (s.length : Int)) ∧ (∀ j : Nat, (j : Int) < t8 → ¬ at_ s j = v) ∧ gσ = mkS [(0, slS false s), (1, Sv v), (7, I (s.length : Int)), (8, I t8)] []) (((s.length : Int) - 0).toNat) ⟨0, rfl, (by omega), (by intro j hj; omega), rfl⟩ (fun gn gσ hI => ?_)
  obtain ⟨t8, rfl, hi0, hne, rfl⟩ := hI
  refine aw_seq ?_
  by_cases h1 : t8 < (s.length : Int)
  ·have hi : t8.toNat < s.length := by omega
   refine aw_r [(0, .dec true)] [0, 1, 7, 8, 9] [] [slS false s, Sv v, I (s.length : Int), I t8, Bv true] [] [t8 < (s.length : Int)] hB ⟨h1, trivial⟩ ?_
   refine ae_then ?_
   refine aw_seq ?_
   refine aw_true rfl ?_
   refine aw_skip ?_
   refine ae_then ?_
   refine aw_seq ?_
   refine aw_block ?_
   refine aR [] [0, 1, 5, 7, 8] [] [slS false s, Sv v, I t8, I (s.length : Int), I t8] [] [] hB trivial ?_
   refine aw_seq ?_
   by_cases h2 : v = (at_ s t8.toNat)
   ·have hfin : fndS s v = t8.toNat := firstN_hit hi (decide_eq_true (by first | exact h2 | exact Eq.symm h2)) (fun j hj => decide_eq_false (hne j (by omega)))
    refine aw_r [(5, .dec true)] [0, 1, 5, 7, 8, 16] [] [slS false s, Sv v, I t8, I (s.length : Int), I t8, Bv true] [] [(0 : Int) ≤ t8 ∧ t8 < (s.length : Int), v = (at_ s t8.toNat)] hB ⟨⟨(by omega), (by omega)⟩, h2, trivial⟩ ?_
    refine ae_then ?_
    refine aw_true rfl ?_
    refine aR [] [4] [] [I t8] [] [] hB trivial ?_
    refine aw_ret ?_
    refine ae_ret_block (ae_ret_then (ae_ret_then (ae_ret_block (ae_ret_then ?_))))
    refine ae_ret hB (I t8) (by kernel_rfl) (.inl (by refine congrArg I ?_; first | (rw [hfin]; done) | (rw [hfin]; omega))) rfl (fun _ => trivial)
   refine aw_r [(5, .dec false)] [0, 1, 5, 7, 8, 16] [] [slS false s, Sv v, I t8, I (s.length : Int), I t8, Bv false] [] [(0 : Int) ≤ t8 ∧ t8 < (s.length : Int), ¬ (v = (at_ s t8.toNat))] hB ⟨⟨(by omega), (by omega)⟩, h2, trivial⟩ ?_
   refine ae_then ?_
   refine aw_false rfl ?_
   refine aw_skip ?_
   refine ae_block 1 ?_
   refine ae_then ?_
   refine aw_r [] [0, 1, 7, 8] [] [slS false s, Sv v, I (s.length : Int), I (t8 + 1)] [] [inR .i64 (t8 + 1)] hB ⟨(inR_i64 (by omega) (by omega)), trivial⟩ ?_
   exact ae_again _ (by omega) ⟨(t8 + 1), rfl, (by omega), (by intro j hj; by_cases ej : j = t8.toNat; (subst ej; first | assumption | exact fun q_ => absurd q_.symm (by assumption)); exact hne j (by omega)), rfl⟩
  have hfin : fndS s v = -1 := firstN_none (fun j hj => decide_eq_false (hne j (by omega)))
  refine aw_r [(0, .dec false)] [0, 1, 7, 8, 9] [] [slS false s, Sv v, I (s.length : Int), I t8, Bv false] [] [¬ (t8 < (s.length : Int))] hB ⟨h1, trivial⟩ ?_
  refine ae_then ?_
  refine aw_seq ?_
  refine aw_false rfl ?_
  refine aw_exit ?_
  refine ae_exit_then ?_
  refine ae_exit_then ?_
  refine ae_exit_same ?_
  refine ae_then ?_
  refine aR [] [4] [] [I (-1)] [] [] hB trivial ?_
  refine aw_ret ?_
  refine ae_ret hB (I (-1)) (by kernel_rfl) (.inl (by refine congrArg I ?_; first | (rw [hfin]; done) | (rw [hfin]; omega))) rfl (fun _ => trivial)



-- impl.RelationNamed
theorem implRelationNamed_ok (name : ByteArray) : ∃ (k : Int) (c : Int), (k = (relNd name).1) ∧ (c = (relNd name).2) ∧ Con Tryz.prog 15 [Sv name] true (.tup [I k, I c]) := by
  have hh : ∃ r : Int × Int, ((r.1 = (relNd name).1) ∧ (r.2 = (relNd name).2) ∧ (True)) ∧ CallOK Tryz.prog 15 [Sv name] (lookO []) true (.tup [I r.1, I r.2]) (lookO []) := by
    refine fn_okX (Φ := fun r : Int × Int => (r.1 = (relNd name).1) ∧ (r.2 = (relNd name).2) ∧ (True)) [] (fun r => []) (fn := Tryz.f15) (nt := 11) Tryz.func15 rfl rfl (args := [Sv name]) rfl (allcons (.inl ⟨rfl, trivial⟩) allnil) (res := fun r => .tup [I r.1, I r.2]) ?_
    refine xR [] [0] [] [Sv name] [] [] trivial ?_
    refine x_seq ?_
    obtain ⟨v_1, hx1_0, hc1⟩ := relationNames_ok
    have hnv := hx1_0
    have hnl : v_1.length = 7 := by rw [hnv]; rfl
    refine x_r [(0, .call [] true (slS true v_1)), (2, .call [(false, slS false v_1), (true, .any)] true (I (fndS v_1 name)))] [4] [] [I (fndS v_1 name)] [] [Con Tryz.prog 44 [] true (slS true v_1) ∧ True, Con Tryz.prog 45 [slS false v_1, Sv name] true (I (fndS v_1 name)) ∧ ((false = true → true = true) ∧ 1 = 1 ∧ v_1.length = v_1.length ∧ ∀ i_, i_ < v_1.length → (fS v_1) i_ = (fS v_1) i_ ∨ (AV.idsL ((fS v_1) i_) = [] ∧ leL (fun _ => none) false ((fS v_1) i_) ((fS v_1) i_))) ∧ True] ⟨⟨hc1, trivial⟩, ⟨(indexS_ok v_1 name), ⟨(fun h => by cases h), rfl, rfl, fun i _ => .inl rfl⟩, trivial⟩, trivial⟩ ?_
    refine xe_then ?_
    refine x_seq ?_
    refine x_seq ?_
    by_cases h1 : (fndS v_1 name) < 0
    ·have hst : relNd name = (0, 3) := if_pos (by rw [← hnv]; exact h1)
     refine x_r [(1, .dec true)] [4, 9] [] [I (fndS v_1 name), Bv true] [] [(fndS v_1 name) < 0] ⟨h1, trivial⟩ ?_
     refine xe_then ?_
     refine x_true rfl ?_
     refine xR [] [2, 3] [] [I 0, I 3] [] [] trivial ?_
     refine x_ret ?_
     refine xe_ret_then ?_
     refine xe_end (0, 3) (show (0 = (relNd name).1) ∧ (3 = (relNd name).2) ∧ (True) from ⟨(by first | (rw [hst]; done) | (rw [hst, hnv]; done)), (by first | (rw [hst]; done) | (rw [hst, hnv]; done)), trivial⟩) (trivial) (.tup [I 0, I 3]) (by kernel_rfl) (.inl rfl) (fun _ => rfl) (fun _ => (by simp [tagged, taggedL]))
    have hst : relNd name = (fndS relNs name, 0) := if_neg (by rw [← hnv]; exact h1)
    refine x_r [(1, .dec false)] [4, 9] [] [I (fndS v_1 name), Bv false] [] [¬ ((fndS v_1 name) < 0)] ⟨h1, trivial⟩ ?_
    refine xe_then ?_
    refine x_false rfl ?_
    refine x_skip ?_
    refine xe_then ?_
    refine xR [] [2, 3] [] [I (fndS v_1 name), I 0] [] [] trivial ?_
    refine x_ret ?_
    refine xe_end ((fndS v_1 name), 0) (show ((fndS v_1 name) = (relNd name).1) ∧ (0 = (relNd name).2) ∧ (True) from ⟨(by first | (rw [hst]; done) | (rw [hst, hnv]; done)), (by first | (rw [hst]; done) | (rw [hst, hnv]; done)), trivial⟩) (trivial) (.tup [I (fndS v_1 name), I 0]) (by kernel_rfl) (.inl rfl) (fun _ => rfl) (fun _ => (by simp [tagged, taggedL]))
  obtain ⟨⟨k, c⟩, ⟨hh0, hh1, _⟩, hc⟩ := hh
  exact ⟨k, c, hh0, hh1, hc⟩



-- spec.l20Names
theorem l20Names_ok : ∃ (v : List ByteArray), (v = relNs) ∧ Con Tryz.prog 47 [] true (slS true v) := by
  have hh : ∃ r : (List ByteArray), ((r = relNs) ∧ (True)) ∧ CallOK Tryz.prog 47 [] (lookO []) true (slS true r) (lookO []) := by
    refine fn_okX (Φ := fun r : (List ByteArray) => (r = relNs) ∧ (True)) [] (fun r => []) (fn := Tryz.f47) (nt := 2) Tryz.func47 rfl rfl (args := []) rfl allnil (res := fun r => slS true r) ?_
    refine xR [] [] [] [] [] [] trivial ?_
    refine xR [(0, .new 1)] [0] [1] [.arr 1] [some (.arr 1 7 (litF [Sv (⟨#[110, 111, 110, 101]⟩ : ByteArray), Sv (⟨#[114, 105, 103, 104, 116]⟩ : ByteArray), Sv (⟨#[97, 98, 111, 118, 101]⟩ : ByteArray), Sv (⟨#[98, 101, 108, 111, 119]⟩ : ByteArray), Sv (⟨#[117, 112, 112, 101, 114]⟩ : ByteArray), Sv (⟨#[108, 111, 119, 101, 114]⟩ : ByteArray), Sv (⟨#[105, 110, 115, 105, 100, 101]⟩ : ByteArray)] 1))] [] trivial ?_
    refine x_ret ?_
    refine xe_end ([(⟨#[110, 111, 110, 101]⟩ : ByteArray), (⟨#[114, 105, 103, 104, 116]⟩ : ByteArray), (⟨#[97, 98, 111, 118, 101]⟩ : ByteArray), (⟨#[98, 101, 108, 111, 119]⟩ : ByteArray), (⟨#[117, 112, 112, 101, 114]⟩ : ByteArray), (⟨#[108, 111, 119, 101, 114]⟩ : ByteArray), (⟨#[105, 110, 115, 105, 100, 101]⟩ : ByteArray)]) (show (([(⟨#[110, 111, 110, 101]⟩ : ByteArray), (⟨#[114, 105, 103, 104, 116]⟩ : ByteArray), (⟨#[97, 98, 111, 118, 101]⟩ : ByteArray), (⟨#[98, 101, 108, 111, 119]⟩ : ByteArray), (⟨#[117, 112, 112, 101, 114]⟩ : ByteArray), (⟨#[108, 111, 119, 101, 114]⟩ : ByteArray), (⟨#[105, 110, 115, 105, 100, 101]⟩ : ByteArray)]) = relNs) ∧ (True) from ⟨(by rfl), trivial⟩) (trivial) (.arr 1) (by kernel_rfl) (.inr ⟨(fun _ => rfl), rfl, (by first | rfl | (simp; done) | (simp; omega) | omega), fun i_ hi_ => .inl (match i_, hi_ with | 0, _ => rfl | 1, _ => rfl | 2, _ => rfl | 3, _ => rfl | 4, _ => rfl | 5, _ => rfl | 6, _ => rfl | (i + 7), h => absurd h (by simp))⟩) (fun _ => rfl) (fun _ => (tagS true _))
  obtain ⟨v, ⟨hh0, _⟩, hc⟩ := hh
  exact ⟨v, hh0, hc⟩



-- spec.DrawRelationNamed
theorem DrawRelationNamed_ok (code : List Int) (hc : (∀ j, j < code.length → 0 ≤ at_ code j ∧ at_ code j ≤ 255) ∧ code.length ≤ 4611686018427387904) : ∃ (v : ByteArray), (v.size ≤ 100) ∧ Con Tryz.prog 16 [slU8 false code] true (Sv v) := by
  have hh : ∃ r : ByteArray, ((r.size ≤ 100) ∧ (True)) ∧ CallOK Tryz.prog 16 [slU8 false code] (lookO []) true (Sv r) (lookO []) := by
    refine fn_okX (Φ := fun r : ByteArray => (r.size ≤ 100) ∧ (True)) [] (fun r => []) (fn := Tryz.f16) (nt := 11) Tryz.func16 rfl rfl (args := [slU8 false code]) rfl (allcons (.inl ⟨rfl, tagU8 false _⟩) allnil) (res := fun r => Sv r) ?_
    refine xR [] [0] [] [slU8 false code] [] [] trivial ?_
    refine x_seq ?_
    obtain ⟨s'_1, hx1_0, hc1⟩ := l00From_ok code
    have hsrc : okSrc s'_1 := ⟨by rw [hx1_0.1]; exact hc.1, by rw [hx1_0.2]; decide, by rw [hx1_0.1]; exact hc.2⟩
    have hat0 := hx1_0.2
    refine x_r [(1, .lend [] [(7001, bxl00Src s'_1)] [(true, .any)] false (.ref 7001 0))] [3] [7001] [.ref 7001 0] [some (bxl00Src s'_1)] [CallOK Tryz.prog 26 [slU8 false code] (lookO []) false (.ref 7001 0) (lookO [(7001, bxl00Src s'_1)]) ∧ True] ⟨⟨hc1, trivial⟩, trivial⟩ ?_
    refine xe_then ?_
    refine x_seq ?_
    obtain ⟨v_2, hx2_0, hc2⟩ := l20Names_ok
    obtain ⟨v_3, s'_3, hx3_0, hx3_1, hx3_2, hx3_3, hx3_4, hc3⟩ := text_ok s'_1 v_2 (by first | assumption | (simp only [okSrc] at *; simp_all; done)) (by omega) (by rw [hx2_0]; decide)
    obtain ⟨v_4, s'_4, hx4_0, hx4_1, hx4_2, hx4_3, hc4⟩ := l01Spoil_ok s'_3 v_3 (by first | assumption | (simp only [okSrc] at *; simp_all; done)) (by omega) (by omega)
    refine x_r [(2, .call [] true (slS true v_2)), (3, .lend [(7001, bxl00Src s'_1, bxl00Src s'_3)] [] [(true, .any), (false, slS false v_2)] true (Sv v_3)), (4, .lend [(7001, bxl00Src s'_3, bxl00Src s'_4)] [] [(true, .any), (true, .any)] true (Sv v_4))] [2] [] [Sv v_4] [] [Con Tryz.prog 47 [] true (slS true v_2) ∧ True, CallOK Tryz.prog 46 [.ref 7001 0, slS false v_2] (lookO [(7001, bxl00Src s'_1)]) true (Sv v_3) (lookO [(7001, bxl00Src s'_3)]) ∧ ((false = true → true = true) ∧ 1 = 1 ∧ v_2.length = v_2.length ∧ ∀ i_, i_ < v_2.length → (fS v_2) i_ = (fS v_2) i_ ∨ (AV.idsL ((fS v_2) i_) = [] ∧ leL (fun _ => none) false ((fS v_2) i_) ((fS v_2) i_))) ∧ (((bxl00Src s'_1 : Ob) = bxl00Src s'_1 ∨ obLe noOb true (bxl00Src s'_1) (bxl00Src s'_1)) ∧ taggedO false (bxl00Src s'_1)) ∧ True, CallOK Tryz.prog 39 [.ref 7001 0, Sv v_3] (lookO [(7001, bxl00Src s'_3)]) true (Sv v_4) (lookO [(7001, bxl00Src s'_4)]) ∧ (((bxl00Src s'_3 : Ob) = bxl00Src s'_3 ∨ obLe noOb true (bxl00Src s'_3) (bxl00Src s'_3)) ∧ taggedO false (bxl00Src s'_3)) ∧ True] ⟨⟨hc2, trivial⟩, ⟨hc3, ⟨(fun h => by cases h), rfl, rfl, fun i _ => .inl rfl⟩, ⟨.inl rfl, (by simp [taggedO, taggedL, tagged, tagU8])⟩, trivial⟩, ⟨hc4, ⟨.inl rfl, (by simp [taggedO, taggedL, tagged, tagU8])⟩, trivial⟩, trivial⟩ ?_
    refine xe_then ?_
    refine x_ret ?_
    refine xe_end v_4 (show (v_4.size ≤ 100) ∧ (True) from ⟨(by omega), trivial⟩) (trivial) (Sv v_4) (by kernel_rfl) (.inl rfl) (fun _ => rfl) (fun _ => trivial)
  obtain ⟨v, ⟨hh0, _⟩, hc⟩ := hh
  exact ⟨v, hh0, hc⟩



-- spec.RelationNamed
theorem specRelationNamed_ok (name : ByteArray) : ∃ (k : Int) (c : Int), (k = (relNd name).1) ∧ (c = (relNd name).2) ∧ Con Tryz.prog 17 [Sv name] true (.tup [I k, I c]) := by
  have hh : ∃ r : Int × Int, ((r.1 = (relNd name).1) ∧ (r.2 = (relNd name).2) ∧ (True)) ∧ CallOK Tryz.prog 17 [Sv name] (lookO []) true (.tup [I r.1, I r.2]) (lookO []) := by
    refine fn_okX (Φ := fun r : Int × Int => (r.1 = (relNd name).1) ∧ (r.2 = (relNd name).2) ∧ (True)) [] (fun r => []) (fn := Tryz.f17) (nt := 20) Tryz.func17 rfl rfl (args := [Sv name]) rfl (allcons (.inl ⟨rfl, trivial⟩) allnil) (res := fun r => .tup [I r.1, I r.2]) ?_
    refine xR [] [0] [] [Sv name] [] [] trivial ?_
    refine x_seq ?_
    obtain ⟨v_1, hx1_0, hc1⟩ := l20Names_ok
    have hnv := hx1_0
    have hnl : v_1.length = 7 := by rw [hnv]; rfl
    refine x_r [(0, .call [] true (slS true v_1))] [0, 4] [] [Sv name, slS true v_1] [] [Con Tryz.prog 47 [] true (slS true v_1) ∧ True] ⟨⟨hc1, trivial⟩, trivial⟩ ?_
    refine xe_then ?_
    refine x_seq ?_
    refine xR [] [0, 4, 5] [] [Sv name, slS true v_1, I 0] [] [] trivial ?_
    refine x_block ?_
    refine x_loop (X := Int) (fun x => mkS [(0, Sv name), (4, slS true v_1), (5, I x)] []) (fun x => (0 ≤ x ∧ x ≤ (v_1.length : Int)) ∧ (∀ j : Nat, (j : Int) < x → ¬ at_ v_1 j = name) ∧ True) (fun x => ((v_1.length : Int) - x).toNat) 0 rfl (show (0 ≤ (0 : Int) ∧ (0 : Int) ≤ (v_1.length : Int)) ∧ (∀ j : Nat, (j : Int) < (0 : Int) → ¬ at_ v_1 j = name) ∧ True from ⟨(by omega), (by intro j hj; omega), trivial⟩) (fun x hI => ?_)
    obtain ⟨i, hxx⟩ : ∃ i : Int, i = x := ⟨x, rfl⟩
    subst hxx
    obtain ⟨hi0, hne, _⟩ : (0 ≤ i ∧ i ≤ (v_1.length : Int)) ∧ (∀ j : Nat, (j : Int) < i → ¬ at_ v_1 j = name) ∧ True := hI
    show XW _ _ _ _ (mkS [(0, Sv name), (4, slS true v_1), (5, I i)] []) _ _
    refine x_seq ?_
    refine x_seq ?_
    by_cases h1 : i < (v_1.length : Int)
    ·have hi : i.toNat < v_1.length := by omega
     refine x_r [(3, .dec true)] [0, 4, 5, 10] [] [Sv name, slS true v_1, I i, Bv true] [] [i < (v_1.length : Int)] ⟨h1, trivial⟩ ?_
     refine xe_then ?_
     refine x_true rfl ?_
     refine x_skip ?_
     refine xe_then ?_
     refine x_seq ?_
     refine x_block ?_
     refine x_seq ?_
     by_cases h2 : (at_ v_1 i.toNat) = name
     ·have hfin : fndS v_1 name = i.toNat := firstN_hit hi (decide_eq_true h2) (fun j hj => decide_eq_false (hne j (by omega)))
      have hst : relNd name = (i, 0) := by unfold relNd; rw [← hnv, hfin, if_neg (by omega)]; congr 1; omega
      refine x_r [(5, .dec true)] [0, 4, 5, 18] [] [Sv name, slS true v_1, I i, Bv true] [] [(0 : Int) ≤ i ∧ i < (v_1.length : Int), (at_ v_1 i.toNat) = name] ⟨⟨(by omega), (by omega)⟩, h2, trivial⟩ ?_
      refine xe_then ?_
      refine x_true rfl ?_
      refine xR [] [2, 3] [] [I i, I 0] [] [] trivial ?_
      refine x_ret ?_
      refine xe_ret_block (xe_ret_then (xe_loop_ret (xe_ret_block (xe_ret_then ?_))))
      refine xe_end (i, 0) (show (i = (relNd name).1) ∧ (0 = (relNd name).2) ∧ (True) from ⟨(by (rw [hst])), (by (rw [hst])), trivial⟩) (trivial) (.tup [I i, I 0]) (by kernel_rfl) (.inl rfl) (fun _ => rfl) (fun _ => (by simp [tagged, taggedL]))
     refine x_r [(5, .dec false)] [0, 4, 5, 18] [] [Sv name, slS true v_1, I i, Bv false] [] [(0 : Int) ≤ i ∧ i < (v_1.length : Int), ¬ ((at_ v_1 i.toNat) = name)] ⟨⟨(by omega), (by omega)⟩, h2, trivial⟩ ?_
     refine xe_then ?_
     refine x_false rfl ?_
     refine x_skip ?_
     refine xe_block 1 ?_
     refine xe_then ?_
     refine x_r [] [0, 4, 5] [] [Sv name, slS true v_1, I (i + 1)] [] [inR .i64 (i + 1)] ⟨(inR_i64 (by omega) (by omega)), trivial⟩ ?_
     exact xe_again (i + 1) rfl (show (0 ≤ (i + 1) ∧ (i + 1) ≤ (v_1.length : Int)) ∧ (∀ j : Nat, (j : Int) < (i + 1) → ¬ at_ v_1 j = name) ∧ True from ⟨(by omega), (by intro j hj; by_cases ej : j = i.toNat; (subst ej; assumption); exact hne j (by omega)), trivial⟩) (by first | (show (((v_1.length : Int) - (i + 1)).toNat : Nat) < ((v_1.length : Int) - i).toNat; omega) | (dsimp only; omega))
    have hfin : fndS v_1 name = -1 := firstN_none (fun j hj => decide_eq_false (hne j (by omega)))
    have hst : relNd name = (0, 3) := if_pos (by rw [← hnv, hfin]; decide)
    refine x_r [(3, .dec false)] [0, 4, 5, 10] [] [Sv name, slS true v_1, I i, Bv false] [] [¬ (i < (v_1.length : Int))] ⟨h1, trivial⟩ ?_
    refine xe_then ?_
    refine x_false rfl ?_
    refine x_exit ?_
    refine xe_exit_then ?_
    refine xe_loop_exit ?_
    refine xe_exit_same ?_
    refine xe_then ?_
    refine xR [] [2, 3] [] [I 0, I 3] [] [] trivial ?_
    refine x_ret ?_
    refine xe_end (0, 3) (show (0 = (relNd name).1) ∧ (3 = (relNd name).2) ∧ (True) from ⟨(by (rw [hst])), (by (rw [hst])), trivial⟩) (trivial) (.tup [I 0, I 3]) (by kernel_rfl) (.inl rfl) (fun _ => rfl) (fun _ => (by simp [tagged, taggedL]))
  obtain ⟨⟨k, c⟩, ⟨hh0, hh1, _⟩, hc⟩ := hh
  exact ⟨k, c, hh0, hh1, hc⟩



-- laws.f6ints
theorem f6ints_ok (a : List Int) (b : List Int) : Con Tryz.prog 48 [slI false a, slI false b] true (Bv (sameL a b)) := by
  refine fn_ok (fn := Tryz.f48) (nt := 26) Tryz.func48 rfl rfl rfl rfl (by simp [taggedL, tagged, tagI]) fun B hB => ?_
  refine aw_lens (x := slI false a) 0 rfl (fun len_a => ?_)
  simp [LenOK, LenL, cI, fI, slI] at len_a
  refine aw_lens (x := slI false b) 1 rfl (fun len_b => ?_)
  simp [LenOK, LenL, cI, fI, slI] at len_b
  refine aR [] [0, 1] [] [slI false a, slI false b] [] [] hB trivial ?_
  refine aw_seq ?_
  refine aw_seq ?_
  by_cases h1 : (a.length : Int) = (b.length : Int)
  ·have hlen : a.length = b.length := by omega
   refine aw_r [(4, .dec false)] [0, 1, 10] [] [slI false a, slI false b, Bv false] [] [¬ ((a.length : Int) ≠ (b.length : Int))] hB ⟨(fun hq => hq h1), trivial⟩ ?_
   refine ae_then ?_
   refine aw_false rfl ?_
   refine aw_skip ?_
   refine ae_then ?_
   refine aw_seq ?_
   refine aR [] [0, 1, 5] [] [slI false a, slI false b, I 0] [] [] hB trivial ?_
   refine aw_block ?_
   refine aw_loop (fun gn gσ => ∃ (i : Int), gn = ((a.length : Int) - i).toNat ∧ (0 ≤ i ∧ i ≤ (a.length : Int)) ∧ (∀ j : Nat, (j : Int) < i → decide (at_ a j = at_ b j) = true) ∧ gσ = mkS [(0, slI false a), (1, slI false b), (5, I i)] []) (((a.length : Int) - 0).toNat) ⟨0, rfl, (by omega), (by intro j hj; omega), rfl⟩ (fun gn gσ hI => ?_)
   obtain ⟨i, rfl, hi0, hall0, rfl⟩ := hI
   refine aw_seq ?_
   refine aw_seq ?_
   by_cases h2 : i < (a.length : Int)
   ·have hi : i.toNat < a.length := by omega
    refine aw_r [(3, .dec true)] [0, 1, 5, 14] [] [slI false a, slI false b, I i, Bv true] [] [i < (a.length : Int)] hB ⟨h2, trivial⟩ ?_
    refine ae_then ?_
    refine aw_true rfl ?_
    refine aw_skip ?_
    refine ae_then ?_
    refine aw_seq ?_
    refine aw_block ?_
    refine aw_seq ?_
    by_cases h3 : (at_ a i.toNat) = (at_ b i.toNat)
    ·have hok : decide (at_ a i.toNat = at_ b i.toNat) = true := decide_eq_true h3
     refine aw_r [(8, .dec false)] [0, 1, 5, 25] [] [slI false a, slI false b, I i, Bv false] [] [(0 : Int) ≤ i ∧ i < (a.length : Int), (0 : Int) ≤ i ∧ i < (b.length : Int), ¬ ((at_ a i.toNat) ≠ (at_ b i.toNat))] hB ⟨⟨(by omega), (by omega)⟩, ⟨(by omega), (by omega)⟩, (fun hq => hq h3), trivial⟩ ?_
     refine ae_then ?_
     refine aw_false rfl ?_
     refine aw_skip ?_
     refine ae_block 1 ?_
     refine ae_then ?_
     refine aw_r [] [0, 1, 5] [] [slI false a, slI false b, I (i + 1)] [] [inR .i64 (i + 1)] hB ⟨(inR_i64 (by omega) (by omega)), trivial⟩ ?_
     exact ae_again _ (by omega) ⟨(i + 1), rfl, (by omega), (by intro j hj; by_cases ej : j = i.toNat; (subst ej; first | assumption | exact hok); exact hall0 j (by omega)), rfl⟩
    have hall : allN a.length (fun j => decide (at_ a j = at_ b j)) = false := allN_not hi (decide_eq_false h3)
    refine aw_r [(8, .dec true)] [0, 1, 5, 25] [] [slI false a, slI false b, I i, Bv true] [] [(0 : Int) ≤ i ∧ i < (a.length : Int), (0 : Int) ≤ i ∧ i < (b.length : Int), (at_ a i.toNat) ≠ (at_ b i.toNat)] hB ⟨⟨(by omega), (by omega)⟩, ⟨(by omega), (by omega)⟩, h3, trivial⟩ ?_
    refine ae_then ?_
    refine aw_true rfl ?_
    refine aR [] [4] [] [Bv false] [] [] hB trivial ?_
    refine aw_ret ?_
    refine ae_ret_block (ae_ret_then (ae_ret_then (ae_ret_block (ae_ret_then ?_))))
    refine ae_ret hB (Bv false) (by kernel_rfl) (.inl (by first | (simp [sameL, hlen]; done) | (unfold sameL; rw [hall]; simp [hlen]))) rfl (fun _ => trivial)
   have hall : allN a.length (fun j => decide (at_ a j = at_ b j)) = true := allN_at (fun j hj => hall0 j (by omega))
   refine aw_r [(3, .dec false)] [0, 1, 5, 14] [] [slI false a, slI false b, I i, Bv false] [] [¬ (i < (a.length : Int))] hB ⟨h2, trivial⟩ ?_
   refine ae_then ?_
   refine aw_false rfl ?_
   refine aw_exit ?_
   refine ae_exit_then ?_
   refine ae_exit_then ?_
   refine ae_exit_same ?_
   refine ae_then ?_
   refine aR [] [4] [] [Bv true] [] [] hB trivial ?_
   refine aw_ret ?_
   refine ae_ret hB (Bv true) (by kernel_rfl) (.inl (by first | (simp [sameL, hlen]; done) | (unfold sameL; rw [hall]; simp [hlen]))) rfl (fun _ => trivial)
  have hlen : ¬ a.length = b.length := by omega
  refine aw_r [(4, .dec true)] [0, 1, 10] [] [slI false a, slI false b, Bv true] [] [(a.length : Int) ≠ (b.length : Int)] hB ⟨h1, trivial⟩ ?_
  refine ae_then ?_
  refine aw_true rfl ?_
  refine aR [] [4] [] [Bv false] [] [] hB trivial ?_
  refine aw_ret ?_
  refine ae_ret_then ?_
  refine ae_ret hB (Bv false) (by kernel_rfl) (.inl (by first | (simp [sameL, hlen]; done) | (unfold sameL; rw [hall]; simp [hlen]))) rfl (fun _ => trivial)



-- laws.f6lists
theorem f6lists_ok (a : List (List Int)) (b : List (List Int)) : Con Tryz.prog 18 [slLI false a, slLI false b] true (Bv (sameLL a b)) := by
  refine fn_ok (fn := Tryz.f18) (nt := 27) Tryz.func18 rfl rfl rfl rfl (by simp [taggedL, tagged, tagLI]) fun B hB => ?_
  refine aw_lens (x := slLI false a) 0 rfl (fun len_a => ?_)
  simp [LenOK, LenL, cI, cLI, fI, fLI, slI, slLI] at len_a
  refine aw_lens (x := slLI false b) 1 rfl (fun len_b => ?_)
  simp [LenOK, LenL, cI, cLI, fI, fLI, slI, slLI] at len_b
  refine aR [] [0, 1] [] [slLI false a, slLI false b] [] [] hB trivial ?_
  refine aw_seq ?_
  refine aw_seq ?_
  by_cases h1 : (a.length : Int) = (b.length : Int)
  ·have hlen :  a.length = b.length := by omega
   refine aw_r [(4, .dec false)] [0, 1, 10] [] [slLI false a, slLI false b, Bv false] [] [¬ ((a.length : Int) ≠ (b.length : Int))] hB ⟨(fun hq => hq h1), trivial⟩ ?_
   refine ae_then ?_
   refine aw_false rfl ?_
   refine aw_skip ?_
   refine ae_then ?_
   refine aw_seq ?_
   refine aR [] [0, 1, 5] [] [slLI false a, slLI false b, I 0] [] [] hB trivial ?_
   refine aw_block ?_
   refine aw_loop (fun gn gσ => ∃ (i : Int), gn = ((a.length : Int) - i).toNat ∧ (0 ≤ i ∧ i ≤ (a.length : Int)) ∧ (∀ j : Nat, (j : Int) < i → sameL (at_ a j) (at_ b j) = true) ∧ gσ = mkS [(0, slLI false a), (1, slLI false b), (5, I i)] []) (((a.length : Int) - 0).toNat) ⟨0, rfl, (by omega), (by intro j hj; omega), rfl⟩ (fun gn gσ hI => ?_)
   obtain ⟨i, rfl, hi0, hall0, rfl⟩ := hI
   refine aw_seq ?_
   refine aw_seq ?_
   by_cases h2 : i < (a.length : Int)
   ·have hi : i.toNat < a.length := by omega
    have hi2 : i.toNat < b.length := by omega
    refine aw_r [(3, .dec true)] [0, 1, 5, 14] [] [slLI false a, slLI false b, I i, Bv true] [] [i < (a.length : Int)] hB ⟨h2, trivial⟩ ?_
    refine ae_then ?_
    refine aw_true rfl ?_
    refine aw_skip ?_
    refine ae_then ?_
    refine aw_seq ?_
    refine aw_block ?_
    refine aw_seq ?_
    rcases Bool.eq_false_or_eq_true (sameL (at_ a i.toNat) (at_ b i.toNat)) with h3 | h3
    ·refine aw_r [(8, .call [(true, .any), (true, .any)] true (Bv true))] [0, 1, 5, 26] [] [slLI false a, slLI false b, I i, Bv false] [] [(0 : Int) ≤ i ∧ i < (a.length : Int), (0 : Int) ≤ i ∧ i < (b.length : Int), Con Tryz.prog 48 [slI false (at_ a i.toNat), slI false (at_ b i.toNat)] true (Bv true) ∧ True] hB ⟨⟨(by omega), (by omega)⟩, ⟨(by omega), (by omega)⟩, ⟨(con_bool h3 (f6ints_ok (at_ a i.toNat) (at_ b i.toNat))), trivial⟩, trivial⟩ ?_
     refine ae_then ?_
     refine aw_false rfl ?_
     refine aw_skip ?_
     refine ae_block 1 ?_
     refine ae_then ?_
     refine aw_r [] [0, 1, 5] [] [slLI false a, slLI false b, I (i + 1)] [] [inR .i64 (i + 1)] hB ⟨(inR_i64 (by omega) (by omega)), trivial⟩ ?_
     exact ae_again _ (by omega) ⟨(i + 1), rfl, (by omega), (by intro j hj; by_cases ej : j = i.toNat; (subst ej; first | assumption | exact hok); exact hall0 j (by omega)), rfl⟩
    have hall : allN a.length (fun j => sameL (at_ a j) (at_ b j)) = false := allN_not hi h3
    refine aw_r [(8, .call [(true, .any), (true, .any)] true (Bv false))] [0, 1, 5, 26] [] [slLI false a, slLI false b, I i, Bv true] [] [(0 : Int) ≤ i ∧ i < (a.length : Int), (0 : Int) ≤ i ∧ i < (b.length : Int), Con Tryz.prog 48 [slI false (at_ a i.toNat), slI false (at_ b i.toNat)] true (Bv false) ∧ True] hB ⟨⟨(by omega), (by omega)⟩, ⟨(by omega), (by omega)⟩, ⟨(con_bool h3 (f6ints_ok (at_ a i.toNat) (at_ b i.toNat))), trivial⟩, trivial⟩ ?_
    refine ae_then ?_
    refine aw_true rfl ?_
    refine aR [] [4] [] [Bv false] [] [] hB trivial ?_
    refine aw_ret ?_
    refine ae_ret_block (ae_ret_then (ae_ret_then (ae_ret_block (ae_ret_then ?_))))
    refine ae_ret hB (Bv false) (by kernel_rfl) (.inl (by refine congrArg Bv ?_; unfold sameLL; first | (rw [decide_eq_false hlen]; rfl) | (rw [decide_eq_true hlen, hall]; rfl))) rfl (fun _ => trivial)
   have hall : allN a.length (fun j => sameL (at_ a j) (at_ b j)) = true := allN_at (fun j hj => hall0 j (by omega))
   refine aw_r [(3, .dec false)] [0, 1, 5, 14] [] [slLI false a, slLI false b, I i, Bv false] [] [¬ (i < (a.length : Int))] hB ⟨h2, trivial⟩ ?_
   refine ae_then ?_
   refine aw_false rfl ?_
   refine aw_exit ?_
   refine ae_exit_then ?_
   refine ae_exit_then ?_
   refine ae_exit_same ?_
   refine ae_then ?_
   refine aR [] [4] [] [Bv true] [] [] hB trivial ?_
   refine aw_ret ?_
   refine ae_ret hB (Bv true) (by kernel_rfl) (.inl (by refine congrArg Bv ?_; unfold sameLL; first | (rw [decide_eq_false hlen]; rfl) | (rw [decide_eq_true hlen, hall]; rfl))) rfl (fun _ => trivial)
  have hlen : ¬ a.length = b.length := by omega
  refine aw_r [(4, .dec true)] [0, 1, 10] [] [slLI false a, slLI false b, Bv true] [] [(a.length : Int) ≠ (b.length : Int)] hB ⟨h1, trivial⟩ ?_
  refine ae_then ?_
  refine aw_true rfl ?_
  refine aR [] [4] [] [Bv false] [] [] hB trivial ?_
  refine aw_ret ?_
  refine ae_ret_then ?_
  refine ae_ret hB (Bv false) (by kernel_rfl) (.inl (by refine congrArg Bv ?_; unfold sameLL; first | (rw [decide_eq_false hlen]; rfl) | (rw [decide_eq_true hlen, hall]; rfl))) rfl (fun _ => trivial)



-- spec.SymbolsText
theorem specSymbolsText_ok (list : List Symbol) (ok : ∀ y ∈ list, y.Label.size ≤ 9223372036854775807) : Con Tryz.prog 19 [slSymbol false list] true (Sv (syTx list)) := by
  refine fn_ok (fn := Tryz.f19) (nt := 8) Tryz.func19 rfl rfl rfl rfl (by simp [taggedL, tagged, tagSymbol]) fun B hB => ?_
  refine aw_lens (x := slSymbol false list) 0 rfl (fun len_list => ?_)
  simp [LenOK, LenL, cSymbol, fSymbol, slSymbol] at len_list
  refine aR [] [0] [] [slSymbol false list] [] [] hB trivial ?_
  refine aw_seq ?_
  refine aw_seq ?_
  rcases Bool.eq_false_or_eq_true (okSyms list) with h1 | h1
  ·have hok := h1
   have hoI := okSyms_I hok
   refine aw_r [(1, .call [(true, .any)] true (Bv true))] [0, 5] [] [slSymbol false list, Bv false] [] [Con Tryz.prog 28 [slSymbol false list] true (Bv true) ∧ True] hB ⟨⟨(con_bool h1 (l20Ok_ok list ok)), trivial⟩, trivial⟩ ?_
   refine ae_then ?_
   refine aw_false rfl ?_
   refine aw_skip ?_
   refine ae_then ?_
   refine aR [(1, .call [(true, .any)] true (Sv (linesX (list.map syLn) list.length)))] [2] [] [Sv (linesX (list.map syLn) list.length)] [] [Con Tryz.prog 36 [slSymbol false list] true (Sv (linesX (list.map syLn) list.length)) ∧ True] hB ⟨⟨(l20Text_ok list hoI.2 (by omega)), trivial⟩, trivial⟩ ?_
   refine aw_ret ?_
   refine ae_ret hB (Sv (linesX (list.map syLn) list.length)) (by kernel_rfl) (.inl (by first | (rw [syTx, if_pos hok]; done) | (rw [syTx, if_neg (by simp [*])]; done))) rfl (fun _ => trivial)
  refine aw_r [(1, .call [(true, .any)] true (Bv false))] [0, 5] [] [slSymbol false list, Bv true] [] [Con Tryz.prog 28 [slSymbol false list] true (Bv false) ∧ True] hB ⟨⟨(con_bool h1 (l20Ok_ok list ok)), trivial⟩, trivial⟩ ?_
  refine ae_then ?_
  refine aw_true rfl ?_
  refine aR [] [2] [] [Sv (⟨#[]⟩ : ByteArray)] [] [] hB trivial ?_
  refine aw_ret ?_
  refine ae_ret_then ?_
  refine ae_ret hB (Sv (⟨#[]⟩ : ByteArray)) (by kernel_rfl) (.inl (by first | (rw [syTx, if_pos hok]; done) | (rw [syTx, if_neg (by simp [*])]; done))) rfl (fun _ => trivial)



-- spec.SameSymbols
theorem specSameSymbols_ok (a : List Symbol) (b : List Symbol) : Con Tryz.prog 20 [slSymbol false a, slSymbol false b] true (Bv (sameL a b)) := by
  refine fn_ok (fn := Tryz.f20) (nt := 26) Tryz.func20 rfl rfl rfl rfl (by simp [taggedL, tagged, tagSymbol]) fun B hB => ?_
  refine aw_lens (x := slSymbol false a) 0 rfl (fun len_a => ?_)
  simp [LenOK, LenL, cSymbol, fSymbol, slSymbol] at len_a
  refine aw_lens (x := slSymbol false b) 1 rfl (fun len_b => ?_)
  simp [LenOK, LenL, cSymbol, fSymbol, slSymbol] at len_b
  refine aR [] [0, 1] [] [slSymbol false a, slSymbol false b] [] [] hB trivial ?_
  refine aw_seq ?_
  refine aw_seq ?_
  by_cases h1 : (a.length : Int) = (b.length : Int)
  ·have hlen :  a.length = b.length := by omega
   refine aw_r [(4, .dec false)] [0, 1, 10] [] [slSymbol false a, slSymbol false b, Bv false] [] [¬ ((a.length : Int) ≠ (b.length : Int))] hB ⟨(fun hq => hq h1), trivial⟩ ?_
   refine ae_then ?_
   refine aw_false rfl ?_
   refine aw_skip ?_
   refine ae_then ?_
   refine aw_seq ?_
   refine aR [] [0, 1, 5] [] [slSymbol false a, slSymbol false b, I 0] [] [] hB trivial ?_
   refine aw_block ?_
   refine aw_loop (fun gn gσ => ∃ (i : Int), gn = ((a.length : Int) - i).toNat ∧ (0 ≤ i ∧ i ≤ (a.length : Int)) ∧ (∀ j : Nat, (j : Int) < i → decide (at_ a j = at_ b j) = true) ∧ gσ = mkS [(0, slSymbol false a), (1, slSymbol false b), (5, I i)] []) (((a.length : Int) - 0).toNat) ⟨0, rfl, (by omega), (by intro j hj; omega), rfl⟩ (fun gn gσ hI => ?_)
   obtain ⟨i, rfl, hi0, hall0, rfl⟩ := hI
   refine aw_seq ?_
   refine aw_seq ?_
   by_cases h2 : i < (a.length : Int)
   ·have hi : i.toNat < a.length := by omega
    have hi2 : i.toNat < b.length := by omega
    refine aw_r [(3, .dec true)] [0, 1, 5, 14] [] [slSymbol false a, slSymbol false b, I i, Bv true] [] [i < (a.length : Int)] hB ⟨h2, trivial⟩ ?_
    refine ae_then ?_
    refine aw_true rfl ?_
    refine aw_skip ?_
    refine ae_then ?_
    refine aw_seq ?_
    refine aw_block ?_
    refine aw_seq ?_
    by_cases h3 : ((at_ a i.toNat).Label) = ((at_ b i.toNat).Label) ∧ ((((at_ a i.toNat).Box).X1) = (((at_ b i.toNat).Box).X1) ∧ (((at_ a i.toNat).Box).Y1) = (((at_ b i.toNat).Box).Y1) ∧ (((at_ a i.toNat).Box).X2) = (((at_ b i.toNat).Box).X2) ∧ (((at_ a i.toNat).Box).Y2) = (((at_ b i.toNat).Box).Y2) ∧ True) ∧ True
    ·have hok : decide (at_ a i.toNat = at_ b i.toNat) = true := decide_eq_true (sym_ext ⟨h3.1, h3.2.1.1, h3.2.1.2.1, h3.2.1.2.2.1, h3.2.1.2.2.2.1⟩)
     refine aw_r [(8, .dec false)] [0, 1, 5, 25] [] [slSymbol false a, slSymbol false b, I i, Bv false] [] [(0 : Int) ≤ i ∧ i < (a.length : Int), (0 : Int) ≤ i ∧ i < (b.length : Int), ¬ (¬ (((at_ a i.toNat).Label) = ((at_ b i.toNat).Label) ∧ ((((at_ a i.toNat).Box).X1) = (((at_ b i.toNat).Box).X1) ∧ (((at_ a i.toNat).Box).Y1) = (((at_ b i.toNat).Box).Y1) ∧ (((at_ a i.toNat).Box).X2) = (((at_ b i.toNat).Box).X2) ∧ (((at_ a i.toNat).Box).Y2) = (((at_ b i.toNat).Box).Y2) ∧ True) ∧ True))] hB ⟨⟨(by omega), (by omega)⟩, ⟨(by omega), (by omega)⟩, (fun hq => hq h3), trivial⟩ ?_
     refine ae_then ?_
     refine aw_false rfl ?_
     refine aw_skip ?_
     refine ae_block 1 ?_
     refine ae_then ?_
     refine aw_r [] [0, 1, 5] [] [slSymbol false a, slSymbol false b, I (i + 1)] [] [inR .i64 (i + 1)] hB ⟨(inR_i64 (by omega) (by omega)), trivial⟩ ?_
     exact ae_again _ (by omega) ⟨(i + 1), rfl, (by omega), (by intro j hj; by_cases ej : j = i.toNat; (subst ej; first | assumption | exact hok); exact hall0 j (by omega)), rfl⟩
    have hall : allN a.length (fun j => decide (at_ a j = at_ b j)) = false := allN_not hi (decide_eq_false (fun e => h3 (by rw [e]; simp)))
    refine aw_r [(8, .dec true)] [0, 1, 5, 25] [] [slSymbol false a, slSymbol false b, I i, Bv true] [] [(0 : Int) ≤ i ∧ i < (a.length : Int), (0 : Int) ≤ i ∧ i < (b.length : Int), ¬ (((at_ a i.toNat).Label) = ((at_ b i.toNat).Label) ∧ ((((at_ a i.toNat).Box).X1) = (((at_ b i.toNat).Box).X1) ∧ (((at_ a i.toNat).Box).Y1) = (((at_ b i.toNat).Box).Y1) ∧ (((at_ a i.toNat).Box).X2) = (((at_ b i.toNat).Box).X2) ∧ (((at_ a i.toNat).Box).Y2) = (((at_ b i.toNat).Box).Y2) ∧ True) ∧ True)] hB ⟨⟨(by omega), (by omega)⟩, ⟨(by omega), (by omega)⟩, h3, trivial⟩ ?_
    refine ae_then ?_
    refine aw_true rfl ?_
    refine aR [] [4] [] [Bv false] [] [] hB trivial ?_
    refine aw_ret ?_
    refine ae_ret_block (ae_ret_then (ae_ret_then (ae_ret_block (ae_ret_then ?_))))
    refine ae_ret hB (Bv false) (by kernel_rfl) (.inl (by first | (simp [sameL, hlen]; done) | (unfold sameL; rw [hall]; simp [hlen]))) rfl (fun _ => trivial)
   have hall : allN a.length (fun j => decide (at_ a j = at_ b j)) = true := allN_at (fun j hj => hall0 j (by omega))
   refine aw_r [(3, .dec false)] [0, 1, 5, 14] [] [slSymbol false a, slSymbol false b, I i, Bv false] [] [¬ (i < (a.length : Int))] hB ⟨h2, trivial⟩ ?_
   refine ae_then ?_
   refine aw_false rfl ?_
   refine aw_exit ?_
   refine ae_exit_then ?_
   refine ae_exit_then ?_
   refine ae_exit_same ?_
   refine ae_then ?_
   refine aR [] [4] [] [Bv true] [] [] hB trivial ?_
   refine aw_ret ?_
   refine ae_ret hB (Bv true) (by kernel_rfl) (.inl (by first | (simp [sameL, hlen]; done) | (unfold sameL; rw [hall]; simp [hlen]))) rfl (fun _ => trivial)
  have hlen : ¬ a.length = b.length := by omega
  refine aw_r [(4, .dec true)] [0, 1, 10] [] [slSymbol false a, slSymbol false b, Bv true] [] [(a.length : Int) ≠ (b.length : Int)] hB ⟨h1, trivial⟩ ?_
  refine ae_then ?_
  refine aw_true rfl ?_
  refine aR [] [4] [] [Bv false] [] [] hB trivial ?_
  refine aw_ret ?_
  refine ae_ret_then ?_
  refine ae_ret hB (Bv false) (by kernel_rfl) (.inl (by first | (simp [sameL, hlen]; done) | (unfold sameL; rw [hall]; simp [hlen]))) rfl (fun _ => trivial)



-- impl.Symbol]
theorem equalSy_ok (a : List Symbol) (b : List Symbol) : Con Tryz.prog 49 [slSymbol false a, slSymbol false b] true (Bv (sameL a b)) := by
  refine fn_ok (fn := Tryz.f49) (nt := 26) Tryz.func49 rfl rfl rfl rfl (by simp [taggedL, tagged, tagSymbol]) fun B hB => ?_
  refine aw_lens (x := slSymbol false a) 0 rfl (fun len_a => ?_)
  simp [LenOK, LenL, cSymbol, fSymbol, slSymbol] at len_a
  refine aw_lens (x := slSymbol false b) 1 rfl (fun len_b => ?_)
  simp [LenOK, LenL, cSymbol, fSymbol, slSymbol] at len_b
  refine aR [] [0, 1] [] [slSymbol false a, slSymbol false b] [] [] hB trivial ?_
  refine aw_seq ?_
  refine aw_seq ?_
  by_cases h1 : (a.length : Int) = (b.length : Int)
  ·have hlen :  a.length = b.length := by omega
   refine aw_r [(4, .dec false)] [0, 1, 10] [] [slSymbol false a, slSymbol false b, Bv false] [] [¬ ((a.length : Int) ≠ (b.length : Int))] hB ⟨(fun hq => hq h1), trivial⟩ ?_
   refine ae_then ?_
   refine aw_false rfl ?_
   refine aw_skip ?_
   refine ae_then ?_
   refine aw_seq ?_
   refine aR [] [0, 1, 12, 13] [] [slSymbol false a, slSymbol false b, I (a.length : Int), I 0] [] [] hB trivial ?_
   refine aw_block ?_
   refine aw_loop (fun gn gσ => ∃ (t13 : Int), gn = ((a.length : Int) - t13).toNat ∧ (0 ≤ t13 ∧ t13 ≤ (a.length : Int)) ∧ (∀ j : Nat, (j : Int) < t13 → decide (at_ a j = at_ b j) = true) ∧ gσ = mkS [(0, slSymbol false a), (1, slSymbol false b), (12, I (a.length : Int)), (13, I t13)] []) (((a.length : Int) - 0).toNat) ⟨0, rfl, (by omega), (by intro j hj; omega), rfl⟩ (fun gn gσ hI => ?_)
   obtain ⟨t13, rfl, hi0, hall0, rfl⟩ := hI
   refine aw_seq ?_
   by_cases h2 : t13 < (a.length : Int)
   ·have hi : t13.toNat < a.length := by omega
    have hi2 : t13.toNat < b.length := by omega
    refine aw_r [(0, .dec true)] [0, 1, 12, 13, 14] [] [slSymbol false a, slSymbol false b, I (a.length : Int), I t13, Bv true] [] [t13 < (a.length : Int)] hB ⟨h2, trivial⟩ ?_
    refine ae_then ?_
    refine aw_seq ?_
    refine aw_true rfl ?_
    refine aw_skip ?_
    refine ae_then ?_
    refine aw_seq ?_
    refine aw_block ?_
    refine aR [] [0, 1, 5, 12, 13] [] [slSymbol false a, slSymbol false b, I t13, I (a.length : Int), I t13] [] [] hB trivial ?_
    refine aw_seq ?_
    by_cases h3 : ((at_ a t13.toNat).Label) = ((at_ b t13.toNat).Label) ∧ ((((at_ a t13.toNat).Box).X1) = (((at_ b t13.toNat).Box).X1) ∧ (((at_ a t13.toNat).Box).Y1) = (((at_ b t13.toNat).Box).Y1) ∧ (((at_ a t13.toNat).Box).X2) = (((at_ b t13.toNat).Box).X2) ∧ (((at_ a t13.toNat).Box).Y2) = (((at_ b t13.toNat).Box).Y2) ∧ True) ∧ True
    ·have hok : decide (at_ a t13.toNat = at_ b t13.toNat) = true := decide_eq_true (sym_ext ⟨h3.1, h3.2.1.1, h3.2.1.2.1, h3.2.1.2.2.1, h3.2.1.2.2.2.1⟩)
     refine aw_r [(8, .dec false)] [0, 1, 12, 13, 24] [] [slSymbol false a, slSymbol false b, I (a.length : Int), I t13, Bv false] [] [(0 : Int) ≤ t13 ∧ t13 < (a.length : Int), (0 : Int) ≤ t13 ∧ t13 < (b.length : Int), ¬ (¬ (((at_ a t13.toNat).Label) = ((at_ b t13.toNat).Label) ∧ ((((at_ a t13.toNat).Box).X1) = (((at_ b t13.toNat).Box).X1) ∧ (((at_ a t13.toNat).Box).Y1) = (((at_ b t13.toNat).Box).Y1) ∧ (((at_ a t13.toNat).Box).X2) = (((at_ b t13.toNat).Box).X2) ∧ (((at_ a t13.toNat).Box).Y2) = (((at_ b t13.toNat).Box).Y2) ∧ True) ∧ True))] hB ⟨⟨(by omega), (by omega)⟩, ⟨(by omega), (by omega)⟩, (fun hq => hq h3), trivial⟩ ?_
     refine ae_then ?_
     refine aw_false rfl ?_
     refine aw_skip ?_
     refine ae_block 1 ?_
     refine ae_then ?_
     refine aw_r [] [0, 1, 12, 13] [] [slSymbol false a, slSymbol false b, I (a.length : Int), I (t13 + 1)] [] [inR .i64 (t13 + 1)] hB ⟨(inR_i64 (by omega) (by omega)), trivial⟩ ?_
     exact ae_again _ (by omega) ⟨(t13 + 1), rfl, (by omega), (by intro j hj; by_cases ej : j = t13.toNat; (subst ej; first | assumption | exact hok); exact hall0 j (by omega)), rfl⟩
    have hall : allN a.length (fun j => decide (at_ a j = at_ b j)) = false := allN_not hi (decide_eq_false (fun e => h3 (by rw [e]; simp)))
    refine aw_r [(8, .dec true)] [0, 1, 12, 13, 24] [] [slSymbol false a, slSymbol false b, I (a.length : Int), I t13, Bv true] [] [(0 : Int) ≤ t13 ∧ t13 < (a.length : Int), (0 : Int) ≤ t13 ∧ t13 < (b.length : Int), ¬ (((at_ a t13.toNat).Label) = ((at_ b t13.toNat).Label) ∧ ((((at_ a t13.toNat).Box).X1) = (((at_ b t13.toNat).Box).X1) ∧ (((at_ a t13.toNat).Box).Y1) = (((at_ b t13.toNat).Box).Y1) ∧ (((at_ a t13.toNat).Box).X2) = (((at_ b t13.toNat).Box).X2) ∧ (((at_ a t13.toNat).Box).Y2) = (((at_ b t13.toNat).Box).Y2) ∧ True) ∧ True)] hB ⟨⟨(by omega), (by omega)⟩, ⟨(by omega), (by omega)⟩, h3, trivial⟩ ?_
    refine ae_then ?_
    refine aw_true rfl ?_
    refine aR [] [4] [] [Bv false] [] [] hB trivial ?_
    refine aw_ret ?_
    refine ae_ret_block (ae_ret_then (ae_ret_then (ae_ret_block (ae_ret_then ?_))))
    refine ae_ret hB (Bv false) (by kernel_rfl) (.inl (by first | (simp [sameL, hlen]; done) | (unfold sameL; rw [hall]; simp [hlen]))) rfl (fun _ => trivial)
   have hall : allN a.length (fun j => decide (at_ a j = at_ b j)) = true := allN_at (fun j hj => hall0 j (by omega))
   refine aw_r [(0, .dec false)] [0, 1, 12, 13, 14] [] [slSymbol false a, slSymbol false b, I (a.length : Int), I t13, Bv false] [] [¬ (t13 < (a.length : Int))] hB ⟨h2, trivial⟩ ?_
   refine ae_then ?_
   refine aw_seq ?_
   refine aw_false rfl ?_
   refine aw_exit ?_
   refine ae_exit_then ?_
   refine ae_exit_then ?_
   refine ae_exit_same ?_
   refine ae_then ?_
   refine aR [] [4] [] [Bv true] [] [] hB trivial ?_
   refine aw_ret ?_
   refine ae_ret hB (Bv true) (by kernel_rfl) (.inl (by first | (simp [sameL, hlen]; done) | (unfold sameL; rw [hall]; simp [hlen]))) rfl (fun _ => trivial)
  have hlen : ¬ a.length = b.length := by omega
  refine aw_r [(4, .dec true)] [0, 1, 10] [] [slSymbol false a, slSymbol false b, Bv true] [] [(a.length : Int) ≠ (b.length : Int)] hB ⟨h1, trivial⟩ ?_
  refine ae_then ?_
  refine aw_true rfl ?_
  refine aR [] [4] [] [Bv false] [] [] hB trivial ?_
  refine aw_ret ?_
  refine ae_ret_then ?_
  refine ae_ret hB (Bv false) (by kernel_rfl) (.inl (by first | (simp [sameL, hlen]; done) | (unfold sameL; rw [hall]; simp [hlen]))) rfl (fun _ => trivial)



-- impl.SameSymbols
theorem implSameSymbols_ok (a : List Symbol) (b : List Symbol) : Con Tryz.prog 21 [slSymbol false a, slSymbol false b] true (Bv (sameL a b)) := by
  refine fn_ok (fn := Tryz.f21) (nt := 8) Tryz.func21 rfl rfl rfl rfl (by simp [taggedL, tagged, tagSymbol]) fun B hB => ?_
  refine aw_lens (x := slSymbol false a) 0 rfl (fun len_a => ?_)
  simp [LenOK, LenL, cSymbol, fSymbol, slSymbol] at len_a
  refine aw_lens (x := slSymbol false b) 1 rfl (fun len_b => ?_)
  simp [LenOK, LenL, cSymbol, fSymbol, slSymbol] at len_b
  refine aR [] [0, 1] [] [slSymbol false a, slSymbol false b] [] [] hB trivial ?_
  refine aR [(2, .call [(true, .any), (true, .any)] true (Bv (sameL a b)))] [4] [] [Bv (sameL a b)] [] [Con Tryz.prog 49 [slSymbol false a, slSymbol false b] true (Bv (sameL a b)) ∧ True] hB ⟨⟨(equalSy_ok a b), trivial⟩, trivial⟩ ?_
  refine aw_ret ?_
  refine ae_ret hB (Bv (sameL a b)) (by kernel_rfl) (.inl rfl) rfl (fun _ => trivial)



-- spec.RelationName
theorem specRelationName_ok (relation : Int) : ∃ (v : ByteArray), (v = relNm relation) ∧ Con Tryz.prog 22 [I relation] true (Sv v) := by
  have hh : ∃ r : ByteArray, ((r = relNm relation) ∧ (True)) ∧ CallOK Tryz.prog 22 [I relation] (lookO []) true (Sv r) (lookO []) := by
    refine fn_okX (Φ := fun r : ByteArray => (r = relNm relation) ∧ (True)) [] (fun r => []) (fn := Tryz.f22) (nt := 10) Tryz.func22 rfl rfl (args := [I relation]) rfl (allcons (.inl ⟨rfl, trivial⟩) allnil) (res := fun r => Sv r) ?_
    refine xR [] [0] [] [I relation] [] [] trivial ?_
    refine x_seq ?_
    refine x_seq ?_
    rcases Bool.eq_false_or_eq_true (inB relation 0 6) with h1 | h1
    ·have hin := h1
     have hib := inB_iff.1 hin
     have hst : relNm relation = at_ relNs relation.toNat := if_pos hin
     refine x_r [(1, .call [(true, .any), (true, .any), (true, .any)] true (Bv true))] [0, 5] [] [I relation, Bv false] [] [Con Tryz.prog 50 [I relation, I 0, I 6] true (Bv true) ∧ True] ⟨⟨(con_bool h1 (l00In_ok relation 0 6)), trivial⟩, trivial⟩ ?_
     refine xe_then ?_
     refine x_false rfl ?_
     refine x_skip ?_
     refine xe_then ?_
     refine x_seq ?_
     obtain ⟨v_1, hx1_0, hc1⟩ := l20Names_ok
     have hnv := hx1_0
     have hnl : v_1.length = 7 := by rw [hnv]; rfl
     refine x_r [(0, .call [] true (slS true v_1))] [2] [] [Sv (at_ v_1 relation.toNat)] [] [Con Tryz.prog 47 [] true (slS true v_1) ∧ True, (0 : Int) ≤ relation ∧ relation < (v_1.length : Int)] ⟨⟨hc1, trivial⟩, ⟨(by omega), (by omega)⟩, trivial⟩ ?_
     refine xe_then ?_
     refine x_ret ?_
     refine xe_end (at_ v_1 relation.toNat) (show ((at_ v_1 relation.toNat) = relNm relation) ∧ (True) from ⟨(by first | (rw [hst]; done) | (rw [hst, hnv]; done)), trivial⟩) (trivial) (Sv (at_ v_1 relation.toNat)) (by kernel_rfl) (.inl rfl) (fun _ => rfl) (fun _ => trivial)
    have hst : relNm relation = ⟨#[]⟩ := by unfold relNm; rw [h1]; rfl
    refine x_r [(1, .call [(true, .any), (true, .any), (true, .any)] true (Bv false))] [0, 5] [] [I relation, Bv true] [] [Con Tryz.prog 50 [I relation, I 0, I 6] true (Bv false) ∧ True] ⟨⟨(con_bool h1 (l00In_ok relation 0 6)), trivial⟩, trivial⟩ ?_
    refine xe_then ?_
    refine x_true rfl ?_
    refine xR [] [2] [] [Sv (⟨#[]⟩ : ByteArray)] [] [] trivial ?_
    refine x_ret ?_
    refine xe_ret_then ?_
    refine xe_end (⟨#[]⟩ : ByteArray) (show ((⟨#[]⟩ : ByteArray) = relNm relation) ∧ (True) from ⟨(by first | (rw [hst]; done) | (rw [hst, hnv]; done)), trivial⟩) (trivial) (Sv (⟨#[]⟩ : ByteArray)) (by kernel_rfl) (.inl rfl) (fun _ => rfl) (fun _ => trivial)
  obtain ⟨v, ⟨hh0, _⟩, hc⟩ := hh
  exact ⟨v, hh0, hc⟩



-- impl.RelationOf
theorem RelationOf_ok (a : Box) (b : Box) (ha : okBx a = true) (hb : okBx b = true) : Con Tryz.prog 24 [agBox a, agBox b] true (.tup [I (relI a b), I 0]) := by
  refine fn_ok (fn := Tryz.f24) (nt := 17) Tryz.func24 rfl rfl rfl rfl (by simp [taggedL, tagged]) fun B hB => ?_
  refine aR [(0, .new 2), (1, .new 3)] [2, 3] [2, 3] [.ref 2 0, .ref 3 0] [some (bxBox a), some (bxBox b)] [] hB trivial ?_
  refine aw_seq ?_
  refine aR [(1, .call [(true, .any)] true (Bv true)), (5, .call [(true, .any)] true (Bv true))] [2, 3, 13] [2, 3] [.ref 2 0, .ref 3 0, Bv false] [some (bxBox a), some (bxBox b)] [Con Tryz.prog 54 [agBox a] true (Bv true) ∧ True, Con Tryz.prog 54 [agBox b] true (Bv true) ∧ True] hB ⟨⟨(con_bool ha (ValidBox_ok a)), trivial⟩, ⟨(con_bool hb (ValidBox_ok b)), trivial⟩, trivial⟩ ?_
  refine aw_false rfl ?_
  refine aw_skip ?_
  refine ae_then ?_
  refine aR [(2, .call [(true, .any), (true, .any)] true (I (relI a b)))] [4, 5] [] [I (relI a b), I 0] [] [Con Tryz.prog 27 [agBox a, agBox b] true (I (relI a b)) ∧ True] hB ⟨⟨(relation_ok a b ha hb), trivial⟩, trivial⟩ ?_
  refine aw_ret ?_
  refine ae_ret hB (.tup [I (relI a b), I 0]) (by kernel_rfl) (.inl rfl) rfl (fun _ => (by simp [tagged, taggedL]))



theorem jn5 {l : ByteArray} (h : n5 l = true) : syLn (rdSy l) = l := by
  simp only [n5, w5, Bool.and_eq_true, decide_eq_true_eq] at h
  obtain ⟨h5, h1, h2, h3, h4⟩ := h
  have hj := jn_splC 32 l.size l (Nat.le_refl _)
  have e : splB ⟨#[32]⟩ l = [at_ (splB ⟨#[32]⟩ l) 0, at_ (splB ⟨#[32]⟩ l) 1, at_ (splB ⟨#[32]⟩ l) 2, at_ (splB ⟨#[32]⟩ l) 3, at_ (splB ⟨#[32]⟩ l) 4] := by
    match hq : splB ⟨#[32]⟩ l, h5 with
    | [a, b, c, d, e], _ => rfl
  show jnB ⟨#[32]⟩ [at_ (splB ⟨#[32]⟩ l) 0, decB (dcN _), decB (dcN _), decB (dcN _), decB (dcN _)] = l
  rw [dcB_dec h1, dcB_dec h2, dcB_dec h3, dcB_dec h4, ← e]
  exact hj
theorem labS_noB {l : ByteArray} (hl : okLabel l = true) : noB 32 l ∧ noB 10 l := by
  simp only [okLabel, Bool.and_eq_true, decide_eq_true_eq] at hl
  obtain ⟨c, rfl⟩ := one_byte hl.1
  have e : bAt ⟨#[c]⟩ 0 = (c.toNat : Int) := rfl
  rw [e] at hl
  have h2 := hl.2
  simp only [labB, decide_eq_true_eq] at h2
  constructor <;> · unfold noB; intro q; simp at q; subst q; revert h2; decide
theorem words_sy {s : Symbol} (h : okSy s = true) : splB ⟨#[32]⟩ (syLn s) = [s.Label, decB s.Box.X1, decB s.Box.Y1, decB s.Box.X2, decB s.Box.Y2] := by
  simp only [okSy, Bool.and_eq_true] at h
  refine spl_join (c := 32) (by simp) fun y hy => ?_
  simp only [List.mem_cons, List.not_mem_nil, or_false] at hy
  rcases hy with rfl | rfl | rfl | rfl | rfl
  · exact (labS_noB h.1).1
  all_goals exact decB_noB (by decide) _
theorem sy_back {s : Symbol} (h : okSy s = true) : rdSy (syLn s) = s ∧ n5 (syLn s) = true ∧ noB 10 (syLn s) := by
  have hw := words_sy h
  simp only [okSy, Bool.and_eq_true] at h
  have hb := okBx_iff.1 h.2
  have b1 : -1000000000000000000 < s.Box.X1 ∧ s.Box.X1 < 1000000000000000000 := by omega
  have b2 : -1000000000000000000 < s.Box.Y1 ∧ s.Box.Y1 < 1000000000000000000 := by omega
  have b3 : -1000000000000000000 < s.Box.X2 ∧ s.Box.X2 < 1000000000000000000 := by omega
  have b4 : -1000000000000000000 < s.Box.Y2 ∧ s.Box.Y2 < 1000000000000000000 := by omega
  refine ⟨?_, ?_, ?_⟩
  · unfold rdSy
    rw [hw]
    show (⟨s.Label, ⟨dcN (decB s.Box.X1), dcN (decB s.Box.Y1), dcN (decB s.Box.X2), dcN (decB s.Box.Y2)⟩⟩ : Symbol) = s
    rw [dcN_num b1, dcN_num b2, dcN_num b3, dcN_num b4]
  · unfold n5 w5
    rw [hw]
    show (decide (5 = 5) && (dcB (decB s.Box.X1) && (dcB (decB s.Box.Y1) && (dcB (decB s.Box.X2) && dcB (decB s.Box.Y2))))) = true
    rw [dcB_num b1, dcB_num b2, dcB_num b3, dcB_num b4]; rfl
  · unfold syLn
    refine noB_join (by simp [noB]) fun y hy => ?_
    simp only [List.mem_cons, List.not_mem_nil, or_false] at hy
    rcases hy with rfl | rfl | rfl | rfl | rfl
    · exact (labS_noB h.1).2
    all_goals exact decB_noB (by decide) _
theorem okSy_mem {xs : List Symbol} (h : okSyms xs = true) : ∀ s ∈ xs, okSy s = true := fun s hs => by
  obtain ⟨j, hj, e⟩ := List.getElem_of_mem hs
  have := (okSyms_iff.1 h).2 j hj
  rw [at_eq hj, e] at this
  unfold okSy; rw [this.1, this.2]; rfl
theorem sy_lines {xs : List Symbol} (h : okSyms xs = true) : lnR (syTx xs) = (xs.map syLn, true) := by
  have e : syTx xs = linesX (xs.map syLn) (xs.map syLn).length := by rw [List.length_map]; exact if_pos h
  rw [e]
  by_cases hx : xs = []
  · subst hx; exact if_pos rfl
  · have hne : xs.map syLn ≠ [] := by simpa using hx
    obtain ⟨k, hk, e2⟩ := linesX_all hne
    unfold lnR
    rw [if_neg (by rw [hk]; exact linesX_ne), if_pos (suf_lines hne), e2, trsB_app]
    congr 1
    refine spl_join (c := 10) hne fun y hy => ?_
    obtain ⟨s, hs, rfl⟩ := List.mem_map.1 hy
    exact (sy_back (okSy_mem h s hs)).2.2
theorem sy_map {xs : List Symbol} (h : okSyms xs = true) : (xs.map syLn).map rdSy = xs := by
  rw [List.map_map]
  conv => rhs; rw [← List.map_id xs]
  exact List.map_congr_left fun s hs => (sy_back (okSy_mem h s hs)).1
theorem n5_w5 {l : ByteArray} (h : n5 l = true) : w5 l = true := by simp only [n5, Bool.and_eq_true] at h; exact h.1
theorem si_tx {xs : List Symbol} (h : okSyms xs = true) : siR (syTx xs) = (xs, true) := by
  have h1 := sy_lines h
  have e : (lnR (syTx xs)).1.map rdSy = xs := by rw [h1]; exact sy_map h
  rw [si_yes ⟨by rw [h1], fun i hi => ?_, by rw [e]; exact h, by rw [e]⟩, e]
  rw [h1] at hi ⊢
  obtain ⟨s, hs, q⟩ := List.mem_map.1 (at_mem (xs := xs.map syLn) hi)
  show w5 (at_ (xs.map syLn) i) = true
  rw [← q]
  exact n5_w5 (sy_back (okSy_mem h s hs)).2.1
theorem sy_eq (s : ByteArray) : siR s = ssR s := by
  rcases lines_cases s with ⟨hl, hr⟩ | ⟨hl, hr⟩
  · have e : (lnR s).1 = (splB ⟨#[10]⟩ s).take ((splB ⟨#[10]⟩ s).length - 1) := by rw [hr]
    have hlen : (lnR s).1.length = (splB ⟨#[10]⟩ s).length - 1 := by rw [e, List.length_take]; omega
    by_cases hc : ssC (splB ⟨#[10]⟩ s)
    · have hn : ∀ i, i < (lnR s).1.length → n5 (at_ (lnR s).1 i) = true := fun i hi => by
        rw [e, at_takeT' _ (by omega)]
        exact hc.2.1 i (by omega)
      rw [ss_yes hc, si_yes ⟨by rw [hr], fun i hi => n5_w5 (hn i hi), by rw [e]; exact hc.2.2, ?_⟩, e]
      have hok : okSyms ((lnR s).1.map rdSy) = true := by rw [e]; exact hc.2.2
      have e2 : syTx ((lnR s).1.map rdSy) = linesX (((lnR s).1.map rdSy).map syLn) (((lnR s).1.map rdSy).map syLn).length := by rw [List.length_map]; exact if_pos hok
      have e3 : ((lnR s).1.map rdSy).map syLn = (lnR s).1 := by
        rw [List.map_map]
        conv => rhs; rw [← List.map_id (lnR s).1]
        refine List.map_congr_left fun l hl2 => ?_
        obtain ⟨j, hj, q⟩ := List.getElem_of_mem hl2
        have := hn j hj
        rw [at_eq hj, q] at this
        exact jn5 this
      rw [e2, e3]
      exact linesX_T (by rw [hr])
    · rw [ss_no hc]
      refine si_no fun q => hc ?_
      have hsp := sy_lines q.2.2.1
      rw [q.2.2.2] at hsp
      have hT : (lnR s).1 = ((lnR s).1.map rdSy).map syLn := congrArg Prod.fst hsp
      refine ⟨hl, fun i hi => ?_, by rw [← e]; exact q.2.2.1⟩
      rw [← at_takeT' (splB ⟨#[10]⟩ s) hi, ← e]
      have hi2 : i < ((lnR s).1.map rdSy).length := by rw [List.length_map]; omega
      rw [hT, at_mapB hi2]
      exact (sy_back (okSy_mem q.2.2.1 _ (at_mem hi2))).2.1
  · rw [ss_no fun q => hl q.1]
    exact si_no fun q => by have := q.1; rw [hr] at this; exact Bool.false_ne_true this
theorem relT_at {xs : List Symbol} {i j : Nat} (hi : i < xs.length) (hj : j < xs.length) : at_ (at_ (relT xs) i) j = relI (at_ xs i).Box (at_ xs j).Box := by
  unfold relT
  rw [at_mapB hi, at_mapB hj]
theorem relT_len (xs : List Symbol) : (relT xs).length = xs.length := List.length_map _
theorem relT_row {xs : List Symbol} {i : Nat} (hi : i < xs.length) : (at_ (relT xs) i).length = xs.length := by
  unfold relT; rw [at_mapB hi, List.length_map]
theorem relR_c (xs : List Symbol) : (relR xs).2 = 0 ↔ okSyms xs = true := by
  unfold relR
  cases okSyms xs <;> simp


-- laws.FnSymbolTexts
theorem fnSymbolTexts_con (code : List Int) (ok_code : ∀ y ∈ code, inR .u8 y) : Con Tryz.prog 3 [slU8 false code] true (Bv true) := by
  refine fn_ok (fn := Tryz.f3) (nt := 219) Tryz.func3 rfl rfl rfl rfl (by simp [taggedL, tagged, tagU8]) fun B hB => ?_
  refine aw_lens (x := slU8 false code) 0 rfl (fun len_code => ?_)
  simp [LenOK, LenL, cU8, fU8, slU8] at len_code
  refine aR [] [0] [] [slU8 false code] [] [] hB trivial ?_
  refine aw_seq ?_
  refine aw_seq ?_
  rcases Bool.eq_false_or_eq_true (decide (4096 < (code.length : Int))) with h1 | h1
  ·refine aw_r [(1, .call [(true, .any)] true (Bv true))] [0, 32] [] [slU8 false code, Bv true] [] [Con Tryz.prog 4 [slU8 false code] true (Bv true) ∧ True] hB ⟨⟨(con_bool h1 (f6big_ok code)), trivial⟩, trivial⟩ ?_
   refine ae_then ?_
   refine aw_true rfl ?_
   refine aR [] [2] [] [Bv true] [] [] hB trivial ?_
   refine aw_ret ?_
   refine ae_ret_then ?_
   refine ae_ret hB (Bv true) (by kernel_rfl) (.inl rfl) rfl (fun _ => trivial)
  have hc : (∀ j, j < code.length → 0 ≤ at_ code j ∧ at_ code j ≤ 255) ∧ code.length ≤ 4611686018427387904 := ⟨fun j hj => ok_code _ (at_mem hj), by first | omega | (simp at h1; omega)⟩
  refine aw_r [(1, .call [(true, .any)] true (Bv false))] [0, 32] [] [slU8 false code, Bv false] [] [Con Tryz.prog 4 [slU8 false code] true (Bv false) ∧ True] hB ⟨⟨(con_bool h1 (f6big_ok code)), trivial⟩, trivial⟩ ?_
  refine ae_then ?_
  refine aw_false rfl ?_
  refine aw_skip ?_
  refine ae_then ?_
  refine aw_seq ?_
  obtain ⟨v_1, hx1_0, hx1_1, hc1⟩ := DrawRelationTable_ok code (by assumption)
  have hI := hx1_1
  have hlz := syI_lab hI
  refine aw_r [(1, .call [(true, .any)] true (slSymbol true v_1))] [0, 3] [] [slU8 false code, slSymbol true v_1] [] [Con Tryz.prog 5 [slU8 false code] true (slSymbol true v_1) ∧ True] hB ⟨⟨hc1, trivial⟩, trivial⟩ ?_
  refine ae_then ?_
  refine aw_seq ?_
  obtain ⟨v_2, c_2, hx2_0, hx2_1, hc2⟩ := implRelationTable_ok v_1 hlz
  have hv_0 : v_2 = (relR v_1).1 := hx2_0
  have hc_0 : c_2 = (relR v_1).2 := hx2_1
  refine aw_r [(1, .call [(false, slSymbol false v_1)] true (.tup [slLI true v_2, I c_2]))] [0, 3, 4, 5] [] [slU8 false code, slSymbol true v_1, slLI true v_2, I c_2] [] [Con Tryz.prog 6 [slSymbol false v_1] true (.tup [slLI true v_2, I c_2]) ∧ ((false = true → true = true) ∧ 5 = 5 ∧ v_1.length = v_1.length ∧ ∀ i_, i_ < v_1.length → (fSymbol v_1) i_ = (fSymbol v_1) i_ ∨ (AV.idsL ((fSymbol v_1) i_) = [] ∧ leL (fun _ => none) false ((fSymbol v_1) i_) ((fSymbol v_1) i_))) ∧ True] hB ⟨⟨hc2, ⟨(fun h => by cases h), rfl, rfl, fun i _ => .inl rfl⟩, trivial⟩, trivial⟩ ?_
  refine ae_then ?_
  refine aw_seq ?_
  obtain ⟨v_3, c_3, hx3_0, hx3_1, hc3⟩ := specRelationTable_ok v_1 hlz
  have hv_2 : v_3 = (relR v_1).1 := hx3_0
  have hc_2 : c_3 = (relR v_1).2 := hx3_1
  refine aw_r [(1, .call [(false, slSymbol false v_1)] true (.tup [slLI true v_3, I c_3]))] [0, 3, 4, 5, 6, 7] [] [slU8 false code, slSymbol true v_1, slLI true v_2, I c_2, slLI true v_3, I c_3] [] [Con Tryz.prog 7 [slSymbol false v_1] true (.tup [slLI true v_3, I c_3]) ∧ ((false = true → true = true) ∧ 5 = 5 ∧ v_1.length = v_1.length ∧ ∀ i_, i_ < v_1.length → (fSymbol v_1) i_ = (fSymbol v_1) i_ ∨ (AV.idsL ((fSymbol v_1) i_) = [] ∧ leL (fun _ => none) false ((fSymbol v_1) i_) ((fSymbol v_1) i_))) ∧ True] hB ⟨⟨hc3, ⟨(fun h => by cases h), rfl, rfl, fun i _ => .inl rfl⟩, trivial⟩, trivial⟩ ?_
  refine ae_then ?_
  refine aR [(1, .call [(false, slSymbol false v_1)] true (Sv (syTx v_1)))] [0, 3, 4, 5, 6, 7, 8] [] [slU8 false code, slSymbol true v_1, slLI true v_2, I c_2, slLI true v_3, I c_3, Sv (syTx v_1)] [] [Con Tryz.prog 8 [slSymbol false v_1] true (Sv (syTx v_1)) ∧ ((false = true → true = true) ∧ 5 = 5 ∧ v_1.length = v_1.length ∧ ∀ i_, i_ < v_1.length → (fSymbol v_1) i_ = (fSymbol v_1) i_ ∨ (AV.idsL ((fSymbol v_1) i_) = [] ∧ leL (fun _ => none) false ((fSymbol v_1) i_) ((fSymbol v_1) i_))) ∧ True] hB ⟨⟨(implSymbolsText_ok v_1 hlz), ⟨(fun h => by cases h), rfl, rfl, fun i _ => .inl rfl⟩, trivial⟩, trivial⟩ ?_
  refine aw_seq ?_
  obtain ⟨v_4, c_4, hx4_0, hx4_1, hc4⟩ := implReadSymbols_ok (syTx v_1) (by first | omega | exact Nat.le_trans (syTx_size _) (by decide))
  have hv_4 : v_4 = (siR (syTx v_1)).1 := hx4_0
  have hc_4 : c_4 = (siR (syTx v_1)).2 := hx4_1
  refine aw_r [(1, .call [(true, .any)] true (.tup [slSymbol true v_4, Bv c_4]))] [0, 3, 4, 5, 6, 7, 8, 9, 10] [] [slU8 false code, slSymbol true v_1, slLI true v_2, I c_2, slLI true v_3, I c_3, Sv (syTx v_1), slSymbol true v_4, Bv c_4] [] [Con Tryz.prog 9 [Sv (syTx v_1)] true (.tup [slSymbol true v_4, Bv c_4]) ∧ True] hB ⟨⟨hc4, trivial⟩, trivial⟩ ?_
  refine ae_then ?_
  refine aw_seq ?_
  obtain ⟨v_5, hx5_0, hc5⟩ := DrawReadSymbols_ok code (by assumption)
  have huz := hx5_0
  refine aw_r [(1, .call [(true, .any)] true (Sv v_5))] [0, 3, 4, 5, 6, 7, 8, 9, 10, 11] [] [slU8 false code, slSymbol true v_1, slLI true v_2, I c_2, slLI true v_3, I c_3, Sv (syTx v_1), slSymbol true v_4, Bv c_4, Sv v_5] [] [Con Tryz.prog 10 [slU8 false code] true (Sv v_5) ∧ True] hB ⟨⟨hc5, trivial⟩, trivial⟩ ?_
  refine ae_then ?_
  refine aw_seq ?_
  obtain ⟨v_6, c_6, hx6_0, hx6_1, hc6⟩ := implReadSymbols_ok v_5 (by first | omega | exact Nat.le_trans (syTx_size _) (by decide))
  have hv_6 : v_6 = (siR v_5).1 := hx6_0
  have hc_6 : c_6 = (siR v_5).2 := hx6_1
  refine aw_r [(1, .call [(true, .any)] true (.tup [slSymbol true v_6, Bv c_6]))] [0, 3, 4, 5, 6, 7, 8, 9, 10, 11, 12, 13] [] [slU8 false code, slSymbol true v_1, slLI true v_2, I c_2, slLI true v_3, I c_3, Sv (syTx v_1), slSymbol true v_4, Bv c_4, Sv v_5, slSymbol true v_6, Bv c_6] [] [Con Tryz.prog 9 [Sv v_5] true (.tup [slSymbol true v_6, Bv c_6]) ∧ True] hB ⟨⟨hc6, trivial⟩, trivial⟩ ?_
  refine ae_then ?_
  refine aw_seq ?_
  obtain ⟨v_7, c_7, hx7_0, hx7_1, hc7⟩ := specReadSymbols_ok v_5 (by first | omega | exact Nat.le_trans (syTx_size _) (by decide))
  have hv_8 : v_7 = (siR v_5).1 := by rw [hx7_0, sy_eq]
  have hc_8 : c_7 = (siR v_5).2 := by rw [hx7_1, sy_eq]
  refine aw_r [(1, .call [(true, .any)] true (.tup [slSymbol true v_7, Bv c_7]))] [0, 3, 4, 5, 6, 7, 8, 9, 10, 12, 13, 14, 15] [] [slU8 false code, slSymbol true v_1, slLI true v_2, I c_2, slLI true v_3, I c_3, Sv (syTx v_1), slSymbol true v_4, Bv c_4, slSymbol true v_6, Bv c_6, slSymbol true v_7, Bv c_7] [] [Con Tryz.prog 11 [Sv v_5] true (.tup [slSymbol true v_7, Bv c_7]) ∧ True] hB ⟨⟨hc7, trivial⟩, trivial⟩ ?_
  refine ae_then ?_
  refine aw_seq ?_
  obtain ⟨a_8, b_8, hc8⟩ := DrawSameSymbols_ok code (by assumption)
  refine aw_r [(1, .call [(true, .any)] true (.tup [slSymbol true a_8, slSymbol true b_8]))] [0, 3, 4, 5, 6, 7, 8, 9, 10, 12, 13, 14, 15, 16, 17] [] [slU8 false code, slSymbol true v_1, slLI true v_2, I c_2, slLI true v_3, I c_3, Sv (syTx v_1), slSymbol true v_4, Bv c_4, slSymbol true v_6, Bv c_6, slSymbol true v_7, Bv c_7, slSymbol true a_8, slSymbol true b_8] [] [Con Tryz.prog 12 [slU8 false code] true (.tup [slSymbol true a_8, slSymbol true b_8]) ∧ True] hB ⟨⟨hc8, trivial⟩, trivial⟩ ?_
  refine ae_then ?_
  refine aw_seq ?_
  obtain ⟨n_9, hx9_0, hc9⟩ := DrawRelationName_ok code (by assumption)
  have hnm := relNm_facts n_9
  refine aw_r [(1, .call [(true, .any)] true (I n_9))] [0, 3, 4, 5, 6, 7, 8, 9, 10, 12, 13, 14, 15, 16, 17, 18] [] [slU8 false code, slSymbol true v_1, slLI true v_2, I c_2, slLI true v_3, I c_3, Sv (syTx v_1), slSymbol true v_4, Bv c_4, slSymbol true v_6, Bv c_6, slSymbol true v_7, Bv c_7, slSymbol true a_8, slSymbol true b_8, I n_9] [] [Con Tryz.prog 13 [slU8 false code] true (I n_9) ∧ True] hB ⟨⟨hc9, trivial⟩, trivial⟩ ?_
  refine ae_then ?_
  refine aw_seq ?_
  obtain ⟨v_10, hx10_0, hc10⟩ := implRelationName_ok n_9
  have hv_10 : v_10 = relNm n_9 := hx10_0
  refine aw_r [(1, .call [(true, .any)] true (Sv v_10))] [0, 3, 4, 5, 6, 7, 8, 9, 10, 12, 13, 14, 15, 16, 17, 18, 19] [] [slU8 false code, slSymbol true v_1, slLI true v_2, I c_2, slLI true v_3, I c_3, Sv (syTx v_1), slSymbol true v_4, Bv c_4, slSymbol true v_6, Bv c_6, slSymbol true v_7, Bv c_7, slSymbol true a_8, slSymbol true b_8, I n_9, Sv v_10] [] [Con Tryz.prog 14 [I n_9] true (Sv v_10) ∧ True] hB ⟨⟨hc10, trivial⟩, trivial⟩ ?_
  refine ae_then ?_
  refine aw_seq ?_
  obtain ⟨k_11, c_11, hx11_0, hx11_1, hc11⟩ := implRelationNamed_ok v_10
  have hv_11 : k_11 = (relNd v_10).1 := hx11_0
  have hc_11 : c_11 = (relNd v_10).2 := hx11_1
  refine aw_r [(1, .call [(true, .any)] true (.tup [I k_11, I c_11]))] [0, 3, 4, 5, 6, 7, 8, 9, 10, 12, 13, 14, 15, 16, 17, 18, 19, 20, 21] [] [slU8 false code, slSymbol true v_1, slLI true v_2, I c_2, slLI true v_3, I c_3, Sv (syTx v_1), slSymbol true v_4, Bv c_4, slSymbol true v_6, Bv c_6, slSymbol true v_7, Bv c_7, slSymbol true a_8, slSymbol true b_8, I n_9, Sv v_10, I k_11, I c_11] [] [Con Tryz.prog 15 [Sv v_10] true (.tup [I k_11, I c_11]) ∧ True] hB ⟨⟨hc11, trivial⟩, trivial⟩ ?_
  refine ae_then ?_
  refine aw_seq ?_
  obtain ⟨v_12, hx12_0, hc12⟩ := DrawRelationNamed_ok code (by assumption)
  refine aw_r [(1, .call [(true, .any)] true (Sv v_12))] [3, 4, 5, 6, 7, 8, 9, 10, 12, 13, 14, 15, 16, 17, 18, 19, 20, 21, 22] [] [slSymbol true v_1, slLI true v_2, I c_2, slLI true v_3, I c_3, Sv (syTx v_1), slSymbol true v_4, Bv c_4, slSymbol true v_6, Bv c_6, slSymbol true v_7, Bv c_7, slSymbol true a_8, slSymbol true b_8, I n_9, Sv v_10, I k_11, I c_11, Sv v_12] [] [Con Tryz.prog 16 [slU8 false code] true (Sv v_12) ∧ True] hB ⟨⟨hc12, trivial⟩, trivial⟩ ?_
  refine ae_then ?_
  refine aw_seq ?_
  obtain ⟨k_13, c_13, hx13_0, hx13_1, hc13⟩ := implRelationNamed_ok v_12
  have hv_13 : k_13 = (relNd v_12).1 := hx13_0
  have hc_13 : c_13 = (relNd v_12).2 := hx13_1
  refine aw_r [(1, .call [(true, .any)] true (.tup [I k_13, I c_13]))] [3, 4, 5, 6, 7, 8, 9, 10, 12, 13, 14, 15, 16, 17, 18, 19, 20, 21, 22, 23, 24] [] [slSymbol true v_1, slLI true v_2, I c_2, slLI true v_3, I c_3, Sv (syTx v_1), slSymbol true v_4, Bv c_4, slSymbol true v_6, Bv c_6, slSymbol true v_7, Bv c_7, slSymbol true a_8, slSymbol true b_8, I n_9, Sv v_10, I k_11, I c_11, Sv v_12, I k_13, I c_13] [] [Con Tryz.prog 15 [Sv v_12] true (.tup [I k_13, I c_13]) ∧ True] hB ⟨⟨hc13, trivial⟩, trivial⟩ ?_
  refine ae_then ?_
  refine aw_seq ?_
  obtain ⟨k_14, c_14, hx14_0, hx14_1, hc14⟩ := specRelationNamed_ok v_12
  have hv_15 : k_14 = (relNd v_12).1 := hx14_0
  have hc_15 : c_14 = (relNd v_12).2 := hx14_1
  refine aw_r [(1, .call [(true, .any)] true (.tup [I k_14, I c_14]))] [3, 4, 5, 6, 7, 8, 9, 10, 12, 13, 14, 15, 16, 17, 18, 19, 20, 21, 23, 24, 25, 26] [] [slSymbol true v_1, slLI true v_2, I c_2, slLI true v_3, I c_3, Sv (syTx v_1), slSymbol true v_4, Bv c_4, slSymbol true v_6, Bv c_6, slSymbol true v_7, Bv c_7, slSymbol true a_8, slSymbol true b_8, I n_9, Sv v_10, I k_11, I c_11, I k_13, I c_13, I k_14, I c_14] [] [Con Tryz.prog 17 [Sv v_12] true (.tup [I k_14, I c_14]) ∧ True] hB ⟨⟨hc14, trivial⟩, trivial⟩ ?_
  refine ae_then ?_
  refine aw_cut (fun gσ => (True) ∧ gσ = mkS [(3, slSymbol true v_1), (4, slLI true v_2), (5, I c_2), (7, I c_3), (9, slSymbol true v_4), (10, Bv c_4), (18, I n_9), (19, Sv v_10), (20, I k_11), (21, I c_11)] []) ?_ (fun gσ hI => ?_)
  ·refine aw_seq ?_
   rcases Bool.eq_false_or_eq_true (sameL a_8 b_8) with h2 | h2
   ·obtain ⟨v_15, hx15_0, hc15⟩ := specRelationName_ok n_9
    have hv_17 : v_15 = relNm n_9 := hx15_0
    refine aw_r [(2, .dec false), (6, .call [(false, slLI false v_2), (false, slLI false v_3)] true (Bv true)), (12, .call [(false, slSymbol false v_1)] true (Sv (syTx v_1))), (13, .dec false), (18, .dec false), (23, .call [(false, slSymbol false v_6), (false, slSymbol false v_7)] true (Bv true)), (29, .call [(false, slSymbol false a_8), (false, slSymbol false b_8)] true (Bv true)), (32, .call [(false, slSymbol false a_8), (false, slSymbol false b_8)] true (Bv true)), (38, .call [(true, .any)] true (Sv v_15)), (39, .dec false), (44, .dec false), (49, .dec false)] [3, 4, 5, 7, 9, 10, 18, 19, 20, 21, 140] [] [slSymbol true v_1, slLI true v_2, I c_2, I c_3, slSymbol true v_4, Bv c_4, I n_9, Sv v_10, I k_11, I c_11, Bv false] [] [¬ (c_2 ≠ c_3), Con Tryz.prog 18 [slLI false v_2, slLI false v_3] true (Bv true) ∧ ((false = true → true = true) ∧ 1 = 1 ∧ v_2.length = v_2.length ∧ ∀ i_, i_ < v_2.length → (fLI true v_2) i_ = (fLI false v_2) i_ ∨ (AV.idsL ((fLI false v_2) i_) = [] ∧ leL (fun _ => none) false ((fLI true v_2) i_) ((fLI false v_2) i_))) ∧ ((false = true → true = true) ∧ 1 = 1 ∧ v_3.length = v_3.length ∧ ∀ i_, i_ < v_3.length → (fLI true v_3) i_ = (fLI false v_3) i_ ∨ (AV.idsL ((fLI false v_3) i_) = [] ∧ leL (fun _ => none) false ((fLI true v_3) i_) ((fLI false v_3) i_))) ∧ True, Con Tryz.prog 19 [slSymbol false v_1] true (Sv (syTx v_1)) ∧ ((false = true → true = true) ∧ 5 = 5 ∧ v_1.length = v_1.length ∧ ∀ i_, i_ < v_1.length → (fSymbol v_1) i_ = (fSymbol v_1) i_ ∨ (AV.idsL ((fSymbol v_1) i_) = [] ∧ leL (fun _ => none) false ((fSymbol v_1) i_) ((fSymbol v_1) i_))) ∧ True, ¬ ((syTx v_1) ≠ (syTx v_1)), ¬ (c_6 ≠ c_7), Con Tryz.prog 20 [slSymbol false v_6, slSymbol false v_7] true (Bv true) ∧ ((false = true → true = true) ∧ 5 = 5 ∧ v_6.length = v_6.length ∧ ∀ i_, i_ < v_6.length → (fSymbol v_6) i_ = (fSymbol v_6) i_ ∨ (AV.idsL ((fSymbol v_6) i_) = [] ∧ leL (fun _ => none) false ((fSymbol v_6) i_) ((fSymbol v_6) i_))) ∧ ((false = true → true = true) ∧ 5 = 5 ∧ v_7.length = v_7.length ∧ ∀ i_, i_ < v_7.length → (fSymbol v_7) i_ = (fSymbol v_7) i_ ∨ (AV.idsL ((fSymbol v_7) i_) = [] ∧ leL (fun _ => none) false ((fSymbol v_7) i_) ((fSymbol v_7) i_))) ∧ True, Con Tryz.prog 21 [slSymbol false a_8, slSymbol false b_8] true (Bv true) ∧ ((false = true → true = true) ∧ 5 = 5 ∧ a_8.length = a_8.length ∧ ∀ i_, i_ < a_8.length → (fSymbol a_8) i_ = (fSymbol a_8) i_ ∨ (AV.idsL ((fSymbol a_8) i_) = [] ∧ leL (fun _ => none) false ((fSymbol a_8) i_) ((fSymbol a_8) i_))) ∧ ((false = true → true = true) ∧ 5 = 5 ∧ b_8.length = b_8.length ∧ ∀ i_, i_ < b_8.length → (fSymbol b_8) i_ = (fSymbol b_8) i_ ∨ (AV.idsL ((fSymbol b_8) i_) = [] ∧ leL (fun _ => none) false ((fSymbol b_8) i_) ((fSymbol b_8) i_))) ∧ True, Con Tryz.prog 20 [slSymbol false a_8, slSymbol false b_8] true (Bv true) ∧ ((false = true → true = true) ∧ 5 = 5 ∧ a_8.length = a_8.length ∧ ∀ i_, i_ < a_8.length → (fSymbol a_8) i_ = (fSymbol a_8) i_ ∨ (AV.idsL ((fSymbol a_8) i_) = [] ∧ leL (fun _ => none) false ((fSymbol a_8) i_) ((fSymbol a_8) i_))) ∧ ((false = true → true = true) ∧ 5 = 5 ∧ b_8.length = b_8.length ∧ ∀ i_, i_ < b_8.length → (fSymbol b_8) i_ = (fSymbol b_8) i_ ∨ (AV.idsL ((fSymbol b_8) i_) = [] ∧ leL (fun _ => none) false ((fSymbol b_8) i_) ((fSymbol b_8) i_))) ∧ True, Con Tryz.prog 22 [I n_9] true (Sv v_15) ∧ True, ¬ (v_10 ≠ v_15), ¬ (c_13 ≠ c_14), ¬ (k_13 ≠ k_14)] hB ⟨(fun hq => hq (hc_0.trans hc_2.symm)), ⟨(con_bool (by rw [hv_0, hv_2]; exact sameLL_refl _) (f6lists_ok v_2 v_3)), ⟨(fun h => by cases h), rfl, rfl, fun i _ => .inr ⟨idsLI _ _, leLI _ _ _⟩⟩, ⟨(fun h => by cases h), rfl, rfl, fun i _ => .inr ⟨idsLI _ _, leLI _ _ _⟩⟩, trivial⟩, ⟨(specSymbolsText_ok v_1 hlz), ⟨(fun h => by cases h), rfl, rfl, fun i _ => .inl rfl⟩, trivial⟩, (fun hq => hq rfl), (fun hq => hq (hc_6.trans hc_8.symm)), ⟨(con_bool (by rw [hv_6, hv_8]; exact sameL_refl _) (specSameSymbols_ok v_6 v_7)), ⟨(fun h => by cases h), rfl, rfl, fun i _ => .inl rfl⟩, ⟨(fun h => by cases h), rfl, rfl, fun i _ => .inl rfl⟩, trivial⟩, ⟨(con_bool h2 (implSameSymbols_ok a_8 b_8)), ⟨(fun h => by cases h), rfl, rfl, fun i _ => .inl rfl⟩, ⟨(fun h => by cases h), rfl, rfl, fun i _ => .inl rfl⟩, trivial⟩, ⟨(con_bool h2 (specSameSymbols_ok a_8 b_8)), ⟨(fun h => by cases h), rfl, rfl, fun i _ => .inl rfl⟩, ⟨(fun h => by cases h), rfl, rfl, fun i _ => .inl rfl⟩, trivial⟩, ⟨hc15, trivial⟩, (fun hq => hq (hv_10.trans hv_17.symm)), (fun hq => hq (hc_13.trans hc_15.symm)), (fun hq => hq (hv_13.trans hv_15.symm)), trivial⟩ ?_
    refine ae_then ?_
    refine aw_false rfl ?_
    refine aw_skip ?_
    refine ae_weak hB [] (T := [(3, slSymbol true v_1), (4, slLI true v_2), (5, I c_2), (7, I c_3), (9, slSymbol true v_4), (10, Bv c_4), (18, I n_9), (19, Sv v_10), (20, I k_11), (21, I c_11)]) (O := []) rfl (⟨.inl rfl, .inl rfl, .inl rfl, .inl rfl, .inl rfl, .inl rfl, .inl rfl, .inl rfl, .inl rfl, .inl rfl, trivial⟩) (trivial) (ae_cut ⟨(by trivial), rfl⟩)
   obtain ⟨v_16, hx16_0, hc16⟩ := specRelationName_ok n_9
   have hv_18 : v_16 = relNm n_9 := hx16_0
   refine aw_r [(2, .dec false), (6, .call [(false, slLI false v_2), (false, slLI false v_3)] true (Bv true)), (12, .call [(false, slSymbol false v_1)] true (Sv (syTx v_1))), (13, .dec false), (18, .dec false), (23, .call [(false, slSymbol false v_6), (false, slSymbol false v_7)] true (Bv true)), (29, .call [(false, slSymbol false a_8), (false, slSymbol false b_8)] true (Bv false)), (32, .call [(false, slSymbol false a_8), (false, slSymbol false b_8)] true (Bv false)), (38, .call [(true, .any)] true (Sv v_16)), (39, .dec false), (44, .dec false), (49, .dec false)] [3, 4, 5, 7, 9, 10, 18, 19, 20, 21, 140] [] [slSymbol true v_1, slLI true v_2, I c_2, I c_3, slSymbol true v_4, Bv c_4, I n_9, Sv v_10, I k_11, I c_11, Bv false] [] [¬ (c_2 ≠ c_3), Con Tryz.prog 18 [slLI false v_2, slLI false v_3] true (Bv true) ∧ ((false = true → true = true) ∧ 1 = 1 ∧ v_2.length = v_2.length ∧ ∀ i_, i_ < v_2.length → (fLI true v_2) i_ = (fLI false v_2) i_ ∨ (AV.idsL ((fLI false v_2) i_) = [] ∧ leL (fun _ => none) false ((fLI true v_2) i_) ((fLI false v_2) i_))) ∧ ((false = true → true = true) ∧ 1 = 1 ∧ v_3.length = v_3.length ∧ ∀ i_, i_ < v_3.length → (fLI true v_3) i_ = (fLI false v_3) i_ ∨ (AV.idsL ((fLI false v_3) i_) = [] ∧ leL (fun _ => none) false ((fLI true v_3) i_) ((fLI false v_3) i_))) ∧ True, Con Tryz.prog 19 [slSymbol false v_1] true (Sv (syTx v_1)) ∧ ((false = true → true = true) ∧ 5 = 5 ∧ v_1.length = v_1.length ∧ ∀ i_, i_ < v_1.length → (fSymbol v_1) i_ = (fSymbol v_1) i_ ∨ (AV.idsL ((fSymbol v_1) i_) = [] ∧ leL (fun _ => none) false ((fSymbol v_1) i_) ((fSymbol v_1) i_))) ∧ True, ¬ ((syTx v_1) ≠ (syTx v_1)), ¬ (c_6 ≠ c_7), Con Tryz.prog 20 [slSymbol false v_6, slSymbol false v_7] true (Bv true) ∧ ((false = true → true = true) ∧ 5 = 5 ∧ v_6.length = v_6.length ∧ ∀ i_, i_ < v_6.length → (fSymbol v_6) i_ = (fSymbol v_6) i_ ∨ (AV.idsL ((fSymbol v_6) i_) = [] ∧ leL (fun _ => none) false ((fSymbol v_6) i_) ((fSymbol v_6) i_))) ∧ ((false = true → true = true) ∧ 5 = 5 ∧ v_7.length = v_7.length ∧ ∀ i_, i_ < v_7.length → (fSymbol v_7) i_ = (fSymbol v_7) i_ ∨ (AV.idsL ((fSymbol v_7) i_) = [] ∧ leL (fun _ => none) false ((fSymbol v_7) i_) ((fSymbol v_7) i_))) ∧ True, Con Tryz.prog 21 [slSymbol false a_8, slSymbol false b_8] true (Bv false) ∧ ((false = true → true = true) ∧ 5 = 5 ∧ a_8.length = a_8.length ∧ ∀ i_, i_ < a_8.length → (fSymbol a_8) i_ = (fSymbol a_8) i_ ∨ (AV.idsL ((fSymbol a_8) i_) = [] ∧ leL (fun _ => none) false ((fSymbol a_8) i_) ((fSymbol a_8) i_))) ∧ ((false = true → true = true) ∧ 5 = 5 ∧ b_8.length = b_8.length ∧ ∀ i_, i_ < b_8.length → (fSymbol b_8) i_ = (fSymbol b_8) i_ ∨ (AV.idsL ((fSymbol b_8) i_) = [] ∧ leL (fun _ => none) false ((fSymbol b_8) i_) ((fSymbol b_8) i_))) ∧ True, Con Tryz.prog 20 [slSymbol false a_8, slSymbol false b_8] true (Bv false) ∧ ((false = true → true = true) ∧ 5 = 5 ∧ a_8.length = a_8.length ∧ ∀ i_, i_ < a_8.length → (fSymbol a_8) i_ = (fSymbol a_8) i_ ∨ (AV.idsL ((fSymbol a_8) i_) = [] ∧ leL (fun _ => none) false ((fSymbol a_8) i_) ((fSymbol a_8) i_))) ∧ ((false = true → true = true) ∧ 5 = 5 ∧ b_8.length = b_8.length ∧ ∀ i_, i_ < b_8.length → (fSymbol b_8) i_ = (fSymbol b_8) i_ ∨ (AV.idsL ((fSymbol b_8) i_) = [] ∧ leL (fun _ => none) false ((fSymbol b_8) i_) ((fSymbol b_8) i_))) ∧ True, Con Tryz.prog 22 [I n_9] true (Sv v_16) ∧ True, ¬ (v_10 ≠ v_16), ¬ (c_13 ≠ c_14), ¬ (k_13 ≠ k_14)] hB ⟨(fun hq => hq (hc_0.trans hc_2.symm)), ⟨(con_bool (by rw [hv_0, hv_2]; exact sameLL_refl _) (f6lists_ok v_2 v_3)), ⟨(fun h => by cases h), rfl, rfl, fun i _ => .inr ⟨idsLI _ _, leLI _ _ _⟩⟩, ⟨(fun h => by cases h), rfl, rfl, fun i _ => .inr ⟨idsLI _ _, leLI _ _ _⟩⟩, trivial⟩, ⟨(specSymbolsText_ok v_1 hlz), ⟨(fun h => by cases h), rfl, rfl, fun i _ => .inl rfl⟩, trivial⟩, (fun hq => hq rfl), (fun hq => hq (hc_6.trans hc_8.symm)), ⟨(con_bool (by rw [hv_6, hv_8]; exact sameL_refl _) (specSameSymbols_ok v_6 v_7)), ⟨(fun h => by cases h), rfl, rfl, fun i _ => .inl rfl⟩, ⟨(fun h => by cases h), rfl, rfl, fun i _ => .inl rfl⟩, trivial⟩, ⟨(con_bool h2 (implSameSymbols_ok a_8 b_8)), ⟨(fun h => by cases h), rfl, rfl, fun i _ => .inl rfl⟩, ⟨(fun h => by cases h), rfl, rfl, fun i _ => .inl rfl⟩, trivial⟩, ⟨(con_bool h2 (specSameSymbols_ok a_8 b_8)), ⟨(fun h => by cases h), rfl, rfl, fun i _ => .inl rfl⟩, ⟨(fun h => by cases h), rfl, rfl, fun i _ => .inl rfl⟩, trivial⟩, ⟨hc16, trivial⟩, (fun hq => hq (hv_10.trans hv_18.symm)), (fun hq => hq (hc_13.trans hc_15.symm)), (fun hq => hq (hv_13.trans hv_15.symm)), trivial⟩ ?_
   refine ae_then ?_
   refine aw_false rfl ?_
   refine aw_skip ?_
   refine ae_weak hB [] (T := [(3, slSymbol true v_1), (4, slLI true v_2), (5, I c_2), (7, I c_3), (9, slSymbol true v_4), (10, Bv c_4), (18, I n_9), (19, Sv v_10), (20, I k_11), (21, I c_11)]) (O := []) rfl (⟨.inl rfl, .inl rfl, .inl rfl, .inl rfl, .inl rfl, .inl rfl, .inl rfl, .inl rfl, .inl rfl, .inl rfl, trivial⟩) (trivial) (ae_cut ⟨(by trivial), rfl⟩)
  obtain ⟨htq_, rfl⟩ := hI
  refine aw_cut (fun gσ => (True) ∧ gσ = mkS [(3, slSymbol true v_1), (4, slLI true v_2), (5, I c_2)] []) ?_ (fun gσ hI => ?_)
  ·refine aw_seq ?_
   by_cases h3 : v_10 = (⟨#[]⟩ : ByteArray)
   ·have hnn : relNd (relNm n_9) = (0, 3) := by rcases hnm with q | q; (exact absurd (hv_10.symm.trans h3) q.2.1); exact q.2.2
    by_cases h4 : c_2 = 0
    ·have hok : okSyms v_1 = true := (relR_c v_1).1 (by rw [← hc_0]; exact h4)
     have htb : v_2 = relT v_1 := by rw [hv_0, rel_yes hok]
     have hoi := okSyms_iff.1 hok
     have hrt := si_tx hok
     obtain rfl : c_4 = true := (by rw [hc_4, hrt])
     refine aw_r [(1, .dec false), (3, .dec false), (7, .dec false), (16, .dec true), (23, .call [(false, slSymbol false v_4), (false, slSymbol false v_1)] true (Bv true)), (30, .call [(false, slSymbol false v_1)] true (Bv true)), (32, .dec true)] [3, 4, 5, 175] [] [slSymbol true v_1, slLI true v_2, I c_2, Bv false] [] [¬ (v_10 ≠ (⟨#[]⟩ : ByteArray)), ¬ (c_11 = 0), ¬ (c_11 = 0), c_2 = 0, Con Tryz.prog 20 [slSymbol false v_4, slSymbol false v_1] true (Bv true) ∧ ((false = true → true = true) ∧ 5 = 5 ∧ v_4.length = v_4.length ∧ ∀ i_, i_ < v_4.length → (fSymbol v_4) i_ = (fSymbol v_4) i_ ∨ (AV.idsL ((fSymbol v_4) i_) = [] ∧ leL (fun _ => none) false ((fSymbol v_4) i_) ((fSymbol v_4) i_))) ∧ ((false = true → true = true) ∧ 5 = 5 ∧ v_1.length = v_1.length ∧ ∀ i_, i_ < v_1.length → (fSymbol v_1) i_ = (fSymbol v_1) i_ ∨ (AV.idsL ((fSymbol v_1) i_) = [] ∧ leL (fun _ => none) false ((fSymbol v_1) i_) ((fSymbol v_1) i_))) ∧ True, Con Tryz.prog 23 [slSymbol false v_1] true (Bv true) ∧ ((false = true → true = true) ∧ 5 = 5 ∧ v_1.length = v_1.length ∧ ∀ i_, i_ < v_1.length → (fSymbol v_1) i_ = (fSymbol v_1) i_ ∨ (AV.idsL ((fSymbol v_1) i_) = [] ∧ leL (fun _ => none) false ((fSymbol v_1) i_) ((fSymbol v_1) i_))) ∧ True, c_3 = 0] hB ⟨(fun hq => hq h3), (by rw [hc_11, hv_10, hnn]; first | done | decide), (by rw [hc_11, hv_10, hnn]; first | done | decide), h4, ⟨(con_bool (by rw [hv_4, hrt]; exact sameL_refl _) (specSameSymbols_ok v_4 v_1)), ⟨(fun h => by cases h), rfl, rfl, fun i _ => .inl rfl⟩, ⟨(fun h => by cases h), rfl, rfl, fun i _ => .inl rfl⟩, trivial⟩, ⟨(con_bool hok (ValidSymbols_ok v_1 hlz)), ⟨(fun h => by cases h), rfl, rfl, fun i _ => .inl rfl⟩, trivial⟩, (by rw [hc_2]; exact (relR_c v_1).2 hok), trivial⟩ ?_
     refine ae_then ?_
     refine aw_false rfl ?_
     refine aw_skip ?_
     refine ae_weak hB [] (T := [(3, slSymbol true v_1), (4, slLI true v_2), (5, I c_2)]) (O := []) rfl (⟨.inl rfl, .inl rfl, .inl rfl, trivial⟩) (trivial) (ae_cut ⟨(by trivial), rfl⟩)
    have hno : okSyms v_1 = false := Bool.eq_false_iff.2 fun q => h4 (by rw [hc_0]; exact (relR_c v_1).2 q)
    refine aw_r [(1, .dec false), (3, .dec false), (7, .dec false), (16, .dec false), (30, .call [(false, slSymbol false v_1)] true (Bv false)), (32, .dec false)] [3, 4, 5, 175] [] [slSymbol true v_1, slLI true v_2, I c_2, Bv false] [] [¬ (v_10 ≠ (⟨#[]⟩ : ByteArray)), ¬ (c_11 = 0), ¬ (c_11 = 0), ¬ (c_2 = 0), Con Tryz.prog 23 [slSymbol false v_1] true (Bv false) ∧ ((false = true → true = true) ∧ 5 = 5 ∧ v_1.length = v_1.length ∧ ∀ i_, i_ < v_1.length → (fSymbol v_1) i_ = (fSymbol v_1) i_ ∨ (AV.idsL ((fSymbol v_1) i_) = [] ∧ leL (fun _ => none) false ((fSymbol v_1) i_) ((fSymbol v_1) i_))) ∧ True, ¬ (c_3 = 0)] hB ⟨(fun hq => hq h3), (by rw [hc_11, hv_10, hnn]; first | done | decide), (by rw [hc_11, hv_10, hnn]; first | done | decide), h4, ⟨(con_bool (by rw [hno]; first | done | decide) (ValidSymbols_ok v_1 hlz)), ⟨(fun h => by cases h), rfl, rfl, fun i _ => .inl rfl⟩, trivial⟩, (fun q => by have q2 := (relR_c v_1).1 (hc_2.symm.trans q); rw [hno] at q2; cases q2), trivial⟩ ?_
    refine ae_then ?_
    refine aw_false rfl ?_
    refine aw_skip ?_
    refine ae_weak hB [] (T := [(3, slSymbol true v_1), (4, slLI true v_2), (5, I c_2)]) (O := []) rfl (⟨.inl rfl, .inl rfl, .inl rfl, trivial⟩) (trivial) (ae_cut ⟨(by trivial), rfl⟩)
   have hnn : relNd (relNm n_9) = (n_9, 0) := by rcases hnm with q | q; (exact q.2.2); exact absurd (hv_10.trans q.2.1) h3
   by_cases h5 : c_2 = 0
   ·have hok : okSyms v_1 = true := (relR_c v_1).1 (by rw [← hc_0]; exact h5)
    have htb : v_2 = relT v_1 := by rw [hv_0, rel_yes hok]
    have hoi := okSyms_iff.1 hok
    have hrt := si_tx hok
    obtain rfl : c_4 = true := (by rw [hc_4, hrt])
    refine aw_r [(1, .dec true), (3, .dec true), (7, .dec true), (11, .dec false), (16, .dec true), (23, .call [(false, slSymbol false v_4), (false, slSymbol false v_1)] true (Bv true)), (30, .call [(false, slSymbol false v_1)] true (Bv true)), (32, .dec true)] [3, 4, 5, 175] [] [slSymbol true v_1, slLI true v_2, I c_2, Bv false] [] [v_10 ≠ (⟨#[]⟩ : ByteArray), c_11 = 0, c_11 = 0, ¬ (k_11 ≠ n_9), c_2 = 0, Con Tryz.prog 20 [slSymbol false v_4, slSymbol false v_1] true (Bv true) ∧ ((false = true → true = true) ∧ 5 = 5 ∧ v_4.length = v_4.length ∧ ∀ i_, i_ < v_4.length → (fSymbol v_4) i_ = (fSymbol v_4) i_ ∨ (AV.idsL ((fSymbol v_4) i_) = [] ∧ leL (fun _ => none) false ((fSymbol v_4) i_) ((fSymbol v_4) i_))) ∧ ((false = true → true = true) ∧ 5 = 5 ∧ v_1.length = v_1.length ∧ ∀ i_, i_ < v_1.length → (fSymbol v_1) i_ = (fSymbol v_1) i_ ∨ (AV.idsL ((fSymbol v_1) i_) = [] ∧ leL (fun _ => none) false ((fSymbol v_1) i_) ((fSymbol v_1) i_))) ∧ True, Con Tryz.prog 23 [slSymbol false v_1] true (Bv true) ∧ ((false = true → true = true) ∧ 5 = 5 ∧ v_1.length = v_1.length ∧ ∀ i_, i_ < v_1.length → (fSymbol v_1) i_ = (fSymbol v_1) i_ ∨ (AV.idsL ((fSymbol v_1) i_) = [] ∧ leL (fun _ => none) false ((fSymbol v_1) i_) ((fSymbol v_1) i_))) ∧ True, c_3 = 0] hB ⟨h3, (by rw [hc_11, hv_10, hnn]), (by rw [hc_11, hv_10, hnn]), (fun hq => hq (by rw [hv_11, hv_10, hnn])), h5, ⟨(con_bool (by rw [hv_4, hrt]; exact sameL_refl _) (specSameSymbols_ok v_4 v_1)), ⟨(fun h => by cases h), rfl, rfl, fun i _ => .inl rfl⟩, ⟨(fun h => by cases h), rfl, rfl, fun i _ => .inl rfl⟩, trivial⟩, ⟨(con_bool hok (ValidSymbols_ok v_1 hlz)), ⟨(fun h => by cases h), rfl, rfl, fun i _ => .inl rfl⟩, trivial⟩, (by rw [hc_2]; exact (relR_c v_1).2 hok), trivial⟩ ?_
    refine ae_then ?_
    refine aw_false rfl ?_
    refine aw_skip ?_
    refine ae_weak hB [] (T := [(3, slSymbol true v_1), (4, slLI true v_2), (5, I c_2)]) (O := []) rfl (⟨.inl rfl, .inl rfl, .inl rfl, trivial⟩) (trivial) (ae_cut ⟨(by trivial), rfl⟩)
   have hno : okSyms v_1 = false := Bool.eq_false_iff.2 fun q => h5 (by rw [hc_0]; exact (relR_c v_1).2 q)
   refine aw_r [(1, .dec true), (3, .dec true), (7, .dec true), (11, .dec false), (16, .dec false), (30, .call [(false, slSymbol false v_1)] true (Bv false)), (32, .dec false)] [3, 4, 5, 175] [] [slSymbol true v_1, slLI true v_2, I c_2, Bv false] [] [v_10 ≠ (⟨#[]⟩ : ByteArray), c_11 = 0, c_11 = 0, ¬ (k_11 ≠ n_9), ¬ (c_2 = 0), Con Tryz.prog 23 [slSymbol false v_1] true (Bv false) ∧ ((false = true → true = true) ∧ 5 = 5 ∧ v_1.length = v_1.length ∧ ∀ i_, i_ < v_1.length → (fSymbol v_1) i_ = (fSymbol v_1) i_ ∨ (AV.idsL ((fSymbol v_1) i_) = [] ∧ leL (fun _ => none) false ((fSymbol v_1) i_) ((fSymbol v_1) i_))) ∧ True, ¬ (c_3 = 0)] hB ⟨h3, (by rw [hc_11, hv_10, hnn]), (by rw [hc_11, hv_10, hnn]), (fun hq => hq (by rw [hv_11, hv_10, hnn])), h5, ⟨(con_bool (by rw [hno]; first | done | decide) (ValidSymbols_ok v_1 hlz)), ⟨(fun h => by cases h), rfl, rfl, fun i _ => .inl rfl⟩, trivial⟩, (fun q => by have q2 := (relR_c v_1).1 (hc_2.symm.trans q); rw [hno] at q2; cases q2), trivial⟩ ?_
   refine ae_then ?_
   refine aw_false rfl ?_
   refine aw_skip ?_
   refine ae_weak hB [] (T := [(3, slSymbol true v_1), (4, slLI true v_2), (5, I c_2)]) (O := []) rfl (⟨.inl rfl, .inl rfl, .inl rfl, trivial⟩) (trivial) (ae_cut ⟨(by trivial), rfl⟩)
  obtain ⟨htr_, rfl⟩ := hI
  refine aw_seq ?_
  refine aR [] [3, 4, 5, 27] [] [slSymbol true v_1, slLI true v_2, I c_2, I 0] [] [] hB trivial ?_
  refine aw_block ?_
  refine aw_loop (fun gn gσ => ∃ (i : Int), gn = ((v_1.length : Int) - i).toNat ∧ (0 ≤ i ∧ i ≤ (v_1.length : Int)) ∧ gσ = mkS [(3, slSymbol true v_1), (4, slLI true v_2), (5, I c_2), (27, I i)] []) (((v_1.length : Int) - 0).toNat) ⟨0, rfl, (by omega), rfl⟩ (fun gn gσ hI => ?_)
  obtain ⟨i, rfl, hi0, rfl⟩ := hI
  refine aw_seq ?_
  refine aw_seq ?_
  by_cases h6 : c_2 = 0
  ·have hok : okSyms v_1 = true := (relR_c v_1).1 (by rw [← hc_0]; exact h6)
   have htb : v_2 = relT v_1 := by rw [hv_0, rel_yes hok]
   have hoi := okSyms_iff.1 hok
   have hrt := si_tx hok
   by_cases h7 : i < (v_1.length : Int)
   ·have hi : i.toNat < v_1.length := by omega
    have hbi := (hoi.2 _ hi).2
    have htl : v_2.length = v_1.length := by rw [htb, relT_len]
    have htr : (at_ v_2 i.toNat).length = v_1.length := by rw [htb, relT_row hi]
    refine aw_r [(1, .dec true), (6, .dec true)] [3, 4, 5, 27, 183] [] [slSymbol true v_1, slLI true v_2, I c_2, I i, Bv true] [] [c_2 = 0, i < (v_1.length : Int)] hB ⟨h6, h7, trivial⟩ ?_
    refine ae_then ?_
    refine aw_true rfl ?_
    refine aw_skip ?_
    refine ae_then ?_
    refine aw_cut (fun gσ => (True) ∧ gσ = mkS [(3, slSymbol true v_1), (4, slLI true v_2), (5, I c_2), (27, I i)] []) ?_ (fun gσ hI => ?_)
    ·refine aw_block ?_
     refine aR [] [3, 4, 5, 27, 28] [] [slSymbol true v_1, slLI true v_2, I c_2, I i, I 0] [] [] hB trivial ?_
     refine aw_block ?_
     refine aw_loop (fun gn gσ => ∃ (j : Int), gn = ((v_1.length : Int) - j).toNat ∧ (0 ≤ j ∧ j ≤ (v_1.length : Int)) ∧ gσ = mkS [(3, slSymbol true v_1), (4, slLI true v_2), (5, I c_2), (27, I i), (28, I j)] []) (((v_1.length : Int) - 0).toNat) ⟨0, rfl, (by omega), rfl⟩ (fun gn gσ hI => ?_)
     obtain ⟨j, rfl, hj0, rfl⟩ := hI
     refine aw_seq ?_
     refine aw_seq ?_
     by_cases h8 : j < (v_1.length : Int)
     ·have hj : j.toNat < v_1.length := by omega
      have hbj := (hoi.2 _ hj).2
      refine aw_r [(3, .dec true)] [3, 4, 5, 27, 28, 189] [] [slSymbol true v_1, slLI true v_2, I c_2, I i, I j, Bv true] [] [j < (v_1.length : Int)] hB ⟨h8, trivial⟩ ?_
      refine ae_then ?_
      refine aw_true rfl ?_
      refine aw_skip ?_
      refine ae_then ?_
      refine aw_seq ?_
      refine aw_block ?_
      refine aR [(10, .call [(true, .any), (true, .any)] true (.tup [I (relI ((at_ v_1 i.toNat).Box) ((at_ v_1 j.toNat).Box)), I 0]))] [3, 4, 5, 27, 28, 29, 30] [] [slSymbol true v_1, slLI true v_2, I c_2, I i, I j, I (relI ((at_ v_1 i.toNat).Box) ((at_ v_1 j.toNat).Box)), I 0] [] [(0 : Int) ≤ i ∧ i < (v_1.length : Int), (0 : Int) ≤ j ∧ j < (v_1.length : Int), Con Tryz.prog 24 [agBox ((at_ v_1 i.toNat).Box), agBox ((at_ v_1 j.toNat).Box)] true (.tup [I (relI ((at_ v_1 i.toNat).Box) ((at_ v_1 j.toNat).Box)), I 0]) ∧ True] hB ⟨⟨(by omega), (by omega)⟩, ⟨(by omega), (by omega)⟩, ⟨(RelationOf_ok ((at_ v_1 i.toNat).Box) ((at_ v_1 j.toNat).Box) hbi hbj), trivial⟩, trivial⟩ ?_
      refine aR [(1, .dec false), (11, .dec false)] [3, 4, 5, 27, 28, 218] [] [slSymbol true v_1, slLI true v_2, I c_2, I i, I j, Bv false] [] [¬ ((0 : Int) ≠ 0), (0 : Int) ≤ i ∧ i < (v_2.length : Int), (0 : Int) ≤ j ∧ j < (((at_ v_2 i.toNat).length) : Int), ¬ ((relI ((at_ v_1 i.toNat).Box) ((at_ v_1 j.toNat).Box)) ≠ (at_ (at_ v_2 i.toNat) j.toNat))] hB ⟨(fun hq => hq (by decide)), ⟨(by omega), (by omega)⟩, ⟨(by omega), (by omega)⟩, (fun hq => hq (by rw [htb]; exact (relT_at hi hj).symm)), trivial⟩ ?_
      refine aw_false rfl ?_
      refine aw_skip ?_
      refine ae_block 3 ?_
      refine ae_then ?_
      refine aw_r [] [3, 4, 5, 27, 28] [] [slSymbol true v_1, slLI true v_2, I c_2, I i, I (j + 1)] [] [inR .i64 (j + 1)] hB ⟨(inR_i64 (by omega) (by omega)), trivial⟩ ?_
      exact ae_again _ (by omega) ⟨(j + 1), rfl, (by omega), rfl⟩
     refine aw_r [(3, .dec false)] [3, 4, 5, 27, 28, 189] [] [slSymbol true v_1, slLI true v_2, I c_2, I i, I j, Bv false] [] [¬ (j < (v_1.length : Int))] hB ⟨h8, trivial⟩ ?_
     refine ae_then ?_
     refine aw_false rfl ?_
     refine aw_exit ?_
     refine ae_exit_then ?_
     refine ae_exit_then ?_
     refine ae_exit_same ?_
     refine ae_block 1 ?_
     refine ae_weak hB [] (T := [(3, slSymbol true v_1), (4, slLI true v_2), (5, I c_2), (27, I i)]) (O := []) rfl (⟨.inl rfl, .inl rfl, .inl rfl, .inl rfl, trivial⟩) (trivial) (ae_cut ⟨(by trivial), rfl⟩)
    obtain ⟨htr_, rfl⟩ := hI
    refine aw_r [] [3, 4, 5, 27] [] [slSymbol true v_1, slLI true v_2, I c_2, I (i + 1)] [] [inR .i64 (i + 1)] hB ⟨(inR_i64 (by omega) (by omega)), trivial⟩ ?_
    exact ae_again _ (by omega) ⟨(i + 1), rfl, (by omega), rfl⟩
   refine aw_r [(1, .dec true), (6, .dec false)] [3, 4, 5, 27, 183] [] [slSymbol true v_1, slLI true v_2, I c_2, I i, Bv false] [] [c_2 = 0, ¬ (i < (v_1.length : Int))] hB ⟨h6, h7, trivial⟩ ?_
   refine ae_then ?_
   refine aw_false rfl ?_
   refine aw_exit ?_
   refine ae_exit_then ?_
   refine ae_exit_then ?_
   refine ae_exit_same ?_
   refine ae_then ?_
   refine aR [] [2] [] [Bv true] [] [] hB trivial ?_
   refine aw_ret ?_
   refine ae_ret hB (Bv true) (by kernel_rfl) (.inl rfl) rfl (fun _ => trivial)
  have hno : okSyms v_1 = false := Bool.eq_false_iff.2 fun q => h6 (by rw [hc_0]; exact (relR_c v_1).2 q)
  refine aw_r [(1, .dec false)] [3, 4, 5, 27, 183] [] [slSymbol true v_1, slLI true v_2, I c_2, I i, Bv false] [] [¬ (c_2 = 0)] hB ⟨h6, trivial⟩ ?_
  refine ae_then ?_
  refine aw_false rfl ?_
  refine aw_exit ?_
  refine ae_exit_then ?_
  refine ae_exit_then ?_
  refine ae_exit_same ?_
  refine ae_then ?_
  refine aR [] [2] [] [Bv true] [] [] hB trivial ?_
  refine aw_ret ?_
  refine ae_ret hB (Bv true) (by kernel_rfl) (.inl rfl) rfl (fun _ => trivial)





theorem opens_t22 : OpensA Tryz.prog 22 (cLU8 false) (fun xs => ∀ y ∈ xs, inR .u8 y) :=
  opensA_slice (c := cU8) (sz := 1) Tryz.underlying22 (by kernel_rfl) (by decide) (fun x => ⟨rfl, by simp [oneA, cU8]⟩) (opensA_int Tryz.underlying5)


namespace fnSymbolTexts
set_option maxRecDepth 100000 in
theorem lifted (os : Os) (started : os.Started) (H : Type) (enc : TypeId × Value → H) :
    ReturnsInHanded {} Tryz.checked os 3 .any (fun w args => (Rows.fnSymbolTextsSpec.pre enc Tryz.prog Tryz.f3 Rows.fnSymbolTextsRow.domain false w args ∧ laidMetH Tryz.prog Rows.fnSymbolTextsRow.laid w) ∧ sizedMet enc Tryz.prog Tryz.f3 (OpenSpec.ofChange Rows.fnSymbolTextsSpec) false w args)
      (Rows.fnSymbolTextsSpec.post enc Tryz.prog Tryz.f3 false true false false) := by
  refine returnsInHanded_of_change_and (C := Tryz.checked) (X := fun w _ => laidMetH Tryz.prog Rows.fnSymbolTextsRow.laid w) (fun _ _ _ hh h => h.of_heap hh) Tryz.own started (by kernel_rfl) Tryz.func3
    (ChangeSpec.witness_shaped (enc := enc) (C := Tryz.checked) (os := os) (X := fun w _ => laidMetH Tryz.prog Rows.fnSymbolTextsRow.laid w) false (World.laidAll Tryz.prog os Rows.fnSymbolTextsRow.laid) #[.slice none 0 0] 8 (World.laidAll_os _ _ _)
      (World.shaped_of_ZipB (by kernel_rfl) (by kernel_rfl)) (by kernel_rfl) (by kernel_rfl) (by kernel_rfl)
      (by rw [MakeChecks.laidMetH_plain _ _ _ (by kernel_rfl)]; exact laidMet_laidAll _ (by kernel_rfl) (by kernel_rfl))) ?_
  intro W base args ds gs before hval0 hW hcnd hsz hL _
  have hW' := hW
  obtain ⟨p, q, hA0, hV, rfl, hfz, hnd⟩ := hW
  have hval : ∀ (j : Nat) t v, Tryz.f3.params[j]? = some t → args[j]? = some v → Value.okWide Tryz.prog W .any base t v := hval0
  have hA : DataW.TrodAll enc Tryz.prog W 0 (fun _ => true) true Tryz.f3.params.toList args.toList ds p := hA0
  rw [Tryz.params3] at hA hval
  obtain ⟨v0, vs0, d0, ds0, p0, q0, hargs, rfl, rfl, h0, r0⟩ := trodAll_cons hA
  obtain ⟨rfl, rfl, rfl⟩ := trodAll_nil r0
  obtain rfl : args = #[v0] := args_eq hargs
  obtain ⟨rfl, rfl⟩ := trodVars_none hV
  obtain ⟨fuel0, hf0⟩ := h0
  obtain ⟨A0, l0, c0, rfl⟩ := okWide_slice Tryz.underlying22 (hval 0 22 v0 rfl rfl)
  obtain ⟨x0, rx0, ok0⟩ := (opens_t22) enc W 0 _ _ _ _ _ hf0
  refine (walk_of0 (fnSymbolTexts_con x0 ok0) (fun w hk => WX_below (WX_laid (by rw [MakeChecks.laidMetH_plain _ _ _ (by kernel_rfl)] at hL; first | exact hL | exact hL.tail | exact hL.tail.tail | exact hL.tail.tail.tail | exact hL.tail.tail.tail.tail | exact hL.tail.tail.tail.tail.tail | exact hL.tail.tail.tail.tail.tail.tail | exact hL.tail.tail.tail.tail.tail.tail.tail | exact hL.tail.tail.tail.tail.tail.tail.tail.tail) (by rw [MakeChecks.laidMetH_plain _ _ _ (by kernel_rfl)] at hL; first | exact hL | exact hL.tail | exact hL.tail.tail | exact hL.tail.tail.tail | exact hL.tail.tail.tail.tail | exact hL.tail.tail.tail.tail.tail | exact hL.tail.tail.tail.tail.tail.tail | exact hL.tail.tail.tail.tail.tail.tail.tail | exact hL.tail.tail.tail.tail.tail.tail.tail.tail) (by rw [MakeChecks.laidMetH_plain _ _ _ (by kernel_rfl)] at hL; first | exact hL | exact hL.tail | exact hL.tail.tail | exact hL.tail.tail.tail | exact hL.tail.tail.tail.tail | exact hL.tail.tail.tail.tail.tail | exact hL.tail.tail.tail.tail.tail.tail | exact hL.tail.tail.tail.tail.tail.tail.tail | exact hL.tail.tail.tail.tail.tail.tail.tail.tail)) w ⟨hk.os, hk.tape, hk.output, hk.size, fun k h1 => hk.block k h1 id⟩) (RelTL.cons (relTL_one rx0) RelTL.nil)).mono fun e W1 ⟨he, hb⟩ => ?_
  subst he
  exact ⟨_, rfl, law_post Tryz.laidOut rfl Tryz.underlying4 (of_decide_eq_true (by kernel_rfl)) rfl hW' hb rfl⟩

theorem over : Rows.fnSymbolTextsRow.holds Tryz.pinned (OpenSpec.ofChange Rows.fnSymbolTextsSpec) :=
  OpenClaim.holds_of_wide 3 Tryz.f3 rfl rfl rfl rfl rfl rfl rfl ⟨rfl, rfl, rfl, rfl, rfl⟩ rfl rfl rfl rfl rfl (by kernel_rfl) Tryz.func3 (by kernel_rfl)
    (of_decide_eq_true (by kernel_rfl)) (by unfold Func.isWrapper; first | (rw [if_pos (by decide +kernel)]; kernel_rfl) | (rw [if_neg (by decide +kernel)]; exact ⟨rfl, rfl⟩))
    (fun os started H enc _ => lifted os started H enc)

theorem proved : Rows.FnSymbolTextsCardSaid :=
  Claim7.holds_tied_plain_at .later [] [.data, .data, .data, .data, .sentinel, .sentinel, .pinned] true (true, "8c611766e236f014e9088464c9255734cd113f4ff03b9a8d0940cb580fb8f7ec") true over (fun _ h => by cases h) (by kernel_rfl) (fun _ h => by cases h) fnSymbolTexts_row_tie rfl ⟨rfl, rfl⟩ (by kernel_rfl) rfl
    (fun f fn hf hfn => by
      obtain rfl : f = 3 := Option.some.inj ((show Tryz.prog.funcNamed "loop.example/g00918/laws.FnSymbolTexts" = some 3 by kernel_rfl).symm.trans hf) |>.symm
      obtain rfl : fn = Tryz.f3 := (Option.some.inj (Tryz.func3.symm.trans hfn)).symm
      exact ⟨by kernel_rfl, fun j t ht => by
        rw [Tryz.params3] at ht
        have hm : t ∈ [22] := by simpa using Array.mem_of_getElem? ht
        have hall : ([22].all fun u => !Tryz.prog.wantsStandIn u) = true := by kernel_rfl
        exact (show Tryz.prog.wantsStandIn t = false by simpa using List.all_eq_true.1 hall t hm)⟩)
    (by kernel_rfl)
#print axioms proved
end fnSymbolTexts

end Go.Proofs.YtlkfodajddkomaaGreatDoor.Ax
