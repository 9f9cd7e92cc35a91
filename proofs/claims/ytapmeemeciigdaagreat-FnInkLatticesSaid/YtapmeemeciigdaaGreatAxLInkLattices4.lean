/- Contracts that the statement FnInkLattices reaches, part 4. No conditions. -/
import Derived.Test.YtapmeemeciigdaaGreatAxLInkLattices3
import Derived.Lib.IndexBytes
import Derived.Lib.ItoaNum
import Derived.Lib.ParseIntBCases
import Derived.Lib.SplitLaws
import Derived.Test.YtapmeemeciigdaaGreatAxR
import Derived.Test.YtapmeemeciigdaaGreatAxS
import Derived.Test.YtapmeemeciigdaaGreatAxSF
import Derived.Test.YtapmeemeciigdaaGreatAxY
import Derived.Test.YtapmeemeciigdaaGreatSfEdgShelf
import Derived.Test.YtapmeemeciigdaaGreatSortShelf
namespace Go.Proofs.YtapmeemeciigdaaGreat.Ax
open Go.RowKit Go.ChangeShapes Go.WideShapes
set_option linter.unusedVariables false
set_option linter.unusedSimpArgs false
theorem Zxj (a : List Feat) (b : List Feat) (band : Int) (hab : Yeu a b) (hbd : 0 ≤ band ∧ band ≤ 1000) : ∃ (v : List (List Int)), (Znb a b band v a.length) ∧ Con Tryz.prog 123 [Zai false a, Zai false b, I band] true (Zuz true v) := by
  have hla := hab.2.2
  have hh : ∃ r : (List (List Int)), ((Znb a b band r a.length) ∧ (True)) ∧ Zbb Tryz.prog 123 [Zai false a, Zai false b, I band] (Zaf []) true (Zuz true r) (Zaf []) := by
    refine Zdv (Φ := fun r : (List (List Int)) => (Znb a b band r a.length) ∧ (True)) [] (fun r => []) (fn := Tryz.f123) (nt := 76) Tryz.func123 rfl rfl (args := [Zai false a, Zai false b, I band]) rfl (Zbd (.inl ⟨rfl, Zdq false _⟩) (Zbd (.inl ⟨rfl, Zdq false _⟩) (Zbd (.inl ⟨rfl, trivial⟩) Zdp))) (res := fun r => Zuz true r) ?_
    refine xQ [] [0, 1, 2] [] [] trivial ?_
    refine xQ [(2, .new 13)] [0, 1, 2, 7] [13] [(0 : Int) ≤ (a.length : Int) ∧ ((a.length : Int) : Int) ≤ (a.length : Int) ∧ (24 : Int) * (a.length : Int) ≤ 281474976710656 ∧ (a.length : Int) ≤ 9223372036854775807] ⟨⟨om, om, om, om⟩, trivial⟩ ?_
    refine Zat ?_
    refine xR [] [0, 1, 2, 7, 15, 16] [13] [Zai false a, Zai false b, I band, .arr 13, I (a.length : Int), I 0] [some (.arr 1 ((a.length : Int).toNat) (fun _ => [Zcr]))] [] trivial ?_
    refine Zbn ?_
    refine x_famN 13 8401 1 rfl (fun q _ => ⟨_, rfl, rfl⟩) (by kernel_rfl) ?_
    refine Zcw [] (T := [(0, Zai false a), (1, Zai false b), (2, I band), (7, .arr 13), (15, I (a.length : Int)), (16, I 0)]) (O := [(13, Zkn 8401 (List.replicate ((a.length : Int).toNat) ([] : List Int))), (8401, Zmu (List.replicate ((a.length : Int).toNat) ([] : List Int)))]) rfl (⟨.inl rfl, .inl rfl, .inl rfl, .inl rfl, .inl rfl, .inl rfl, trivial⟩) (⟨.inr ⟨rfl, rfl, (by simp), fun i hi => .inl rfl⟩, .inr (fnilLI ((a.length : Int).toNat)), trivial⟩) ?_
    refine Zeb (X := Int × (List (List Int))) (fun x => mkS [(0, Zai false a), (1, Zai false b), (2, I band), (7, .arr 13), (15, I (a.length : Int)), (16, I x.1)] [(13, Zkn 8401 x.2), (8401, Zmu x.2)]) (fun x => (0 ≤ x.1 ∧ x.1 ≤ (a.length : Int)) ∧ (Znb a b band x.2 x.1.toNat) ∧ True) (fun x => ((a.length : Int) - x.1).toNat) (0, (List.replicate ((a.length : Int).toNat) ([] : List Int))) rfl (show (0 ≤ (0 : Int) ∧ (0 : Int) ≤ (a.length : Int)) ∧ (Znb a b band (List.replicate ((a.length : Int).toNat) ([] : List Int)) (0 : Int).toNat) ∧ True from ⟨om, (by exact tb_nil a b band (by first | rfl | omega | simp)), trivial⟩) (fun x hI => ?_)
    obtain ⟨t16, tb⟩ := x
    obtain ⟨hi0, htb, _⟩ : (0 ≤ t16 ∧ t16 ≤ (a.length : Int)) ∧ (Znb a b band tb t16.toNat) ∧ True := hI
    show XW _ _ _ _ (mkS [(0, Zai false a), (1, Zai false b), (2, I band), (7, .arr 13), (15, I (a.length : Int)), (16, I t16)] [(13, Zkn 8401 tb), (8401, Zmu tb)]) _ _
    refine Zat ?_
    by_cases h1 : t16 < (a.length : Int)
    ·have hi : t16.toNat < a.length := by omega
     have hix : ((t16.toNat : Nat) : Int) = t16 := by omega
     have htl := htb.1
     refine x_q [(0, .dec true)] [0, 1, 2, 7, 15, 16, 17] [13, 8401] [_] ⟨h1, trivial⟩ ?_
     refine Zad ?_
     refine Zat ?_
     refine Zfl ?_
     refine Zbv ?_
     refine Zad ?_
     refine Zat ?_
     refine Zbn ?_
     refine xQ [] [0, 1, 2, 7, 8, 15, 16] [13, 8401] [] trivial ?_
     refine xR [(4, .new 23)] [0, 1, 2, 7, 8, 15, 16] [13, 23, 8401] [Zai false a, Zai false b, I band, .arr 13, I t16, I (a.length : Int), I t16] [some (.oar [8401, 23] 1 tb.length (fun q => bif Nat.beq q t16.toNat then [.arr 23] else (oLI 8401 tb) q)), some (.arr 1 ((b.length : Int).toNat) (fun _ => [I 0])), some (Zmu tb)] [(0 : Int) ≤ (b.length : Int) ∧ ((b.length : Int) : Int) ≤ (b.length : Int) ∧ (8 : Int) * (b.length : Int) ≤ 281474976710656 ∧ (b.length : Int) ≤ 9223372036854775807, (0 : Int) ≤ t16 ∧ t16 < (tb.length : Int), t16.toNat < tb.length] ⟨⟨om, om, om, om⟩, ⟨om, om⟩, om, trivial⟩ ?_
     refine Zat ?_
     refine x_putrow 13 23 8401 t16.toNat rfl rfl rfl (om) (by first | exact Nat.le_refl _ | omega) (fun q _ => ⟨fun e => by subst e; simp only [Nat.beq_refl, cond_true], fun e => by simp only [Zgo e, cond_false]; rfl⟩) (by kernel_rfl) ?_
     refine Zcw [] (T := [(0, Zai false a), (1, Zai false b), (2, I band), (7, .arr 13), (8, I t16), (15, I (a.length : Int)), (16, I t16)]) (O := [(13, Zkn 8401 (tb.set t16.toNat (List.replicate ((b.length : Int).toNat) (0 : Int)))), (8401, Zmu (tb.set t16.toNat (List.replicate ((b.length : Int).toNat) (0 : Int))))]) rfl (⟨.inl rfl, .inl rfl, .inl rfl, .inl rfl, .inl rfl, .inl rfl, .inl rfl, trivial⟩) (⟨.inr ⟨rfl, rfl, (by simp), fun i hi => .inl rfl⟩, .inr (fputLI (om) (by first | rfl | (simp; done) | (simp; omega)) (fun i_ h_ => (show ∀ i_ : Nat, i_ < ((List.replicate ((b.length : Int).toNat) (0 : Int)) : List Int).length → (fun _ => [I 0]) i_ = (fI (List.replicate ((b.length : Int).toNat) (0 : Int))) i_ from fun i_ hi_ => (Zpp (enc := cI) rfl i_ hi_)) i_ (by first | exact h_ | (simpa using h_)))), trivial⟩) ?_
     refine x_r [] [0, 1, 2, 7, 8, 15, 16, 26, 27] [13, 8401] [Zai false a, Zai false b, I band, .arr 13, I t16, I (a.length : Int), I t16, I (b.length : Int), I 0] [some (Zkn 8401 (tb.set t16.toNat (List.replicate ((b.length : Int).toNat) (0 : Int)))), some (Zmu (tb.set t16.toNat (List.replicate ((b.length : Int).toNat) (0 : Int))))] [] trivial ?_
     refine Zad ?_
     refine Zbn ?_
     refine Zeb (X := Int × (List (List Int))) (fun x => mkS [(0, Zai false a), (1, Zai false b), (2, I band), (7, .arr 13), (8, I t16), (15, I (a.length : Int)), (16, I t16), (26, I (b.length : Int)), (27, I x.1)] [(13, Zkn 8401 x.2), (8401, Zmu x.2)]) (fun x => (0 ≤ x.1 ∧ x.1 ≤ (b.length : Int)) ∧ (Znb a b band x.2 t16.toNat ∧ Zko a b band (at_ x.2 t16.toNat) t16.toNat x.1.toNat) ∧ True) (fun x => ((b.length : Int) - x.1).toNat) (0, (tb.set t16.toNat (List.replicate ((b.length : Int).toNat) (0 : Int)))) rfl (show (0 ≤ (0 : Int) ∧ (0 : Int) ≤ (b.length : Int)) ∧ (Znb a b band (tb.set t16.toNat (List.replicate ((b.length : Int).toNat) (0 : Int))) t16.toNat ∧ Zko a b band (at_ (tb.set t16.toNat (List.replicate ((b.length : Int).toNat) (0 : Int))) t16.toNat) t16.toNat (0 : Int).toNat) ∧ True from ⟨om, (by exact tb_row htb hi (by first | rfl | omega | simp)), trivial⟩) (fun x hI => ?_)
     obtain ⟨t27, tb'⟩ := x
     obtain ⟨hj0, hin, _⟩ : (0 ≤ t27 ∧ t27 ≤ (b.length : Int)) ∧ (Znb a b band tb' t16.toNat ∧ Zko a b band (at_ tb' t16.toNat) t16.toNat t27.toNat) ∧ True := hI
     show XW _ _ _ _ (mkS [(0, Zai false a), (1, Zai false b), (2, I band), (7, .arr 13), (8, I t16), (15, I (a.length : Int)), (16, I t16), (26, I (b.length : Int)), (27, I t27)] [(13, Zkn 8401 tb'), (8401, Zmu tb')]) _ _
     refine Zat ?_
     by_cases h2 : t27 < (b.length : Int)
     ·have hj : t27.toNat < b.length := by omega
      have hcb := Zgs (hab.1 _ hi) (hab.2.1 _ hj)
      have hjx : ((t27.toNat : Nat) : Int) = t27 := by omega
      have htl2 := hin.1.1
      have htl3 := hin.2.1
      have hlb := lb_at hab hin.1 hin.2 hi hj
      rw [hix, hjx] at hlb
      have hrl : 1 ≤ t16 → ((at_ tb' (t16 - 1).toNat).length : Int) = b.length := fun q => by rw [(hin.1.2 (t16 - 1).toNat om).1]
      have hrz : (t16 - 0).toNat = t16.toNat := by omega
      refine x_q [(0, .dec true)] [0, 1, 2, 7, 8, 15, 16, 26, 27, 28] [13, 8401] [_] ⟨h2, trivial⟩ ?_
      refine Zad ?_
      refine Zat ?_
      refine Zfl ?_
      refine Zbv ?_
      refine Zad ?_
      refine Zat ?_
      refine Zbn ?_
      refine xQ [] [0, 1, 2, 7, 8, 9, 15, 16, 26, 27] [13, 8401] [] trivial ?_
      refine xQ [(3, .call [(false, Zuz false tb'), (true, .any), (true, .any)] true (I (lb3 tb' t16 t27)))] [0, 1, 2, 7, 8, 9, 10, 15, 16, 26, 27] [13, 8401] [_ ∧ ((false = true → true = true) ∧ 1 = 1 ∧ tb'.length = tb'.length ∧ ∀ i_, i_ < tb'.length → AV.idsL ((fLI false tb') i_) = [] ∧ leL (Zaf [(8401, Zmu tb')]) true ((oLI 8401 tb') i_) ((fLI false tb') i_)) ∧ True] ⟨⟨(Zrt tb' t16 t27 om om (fun q => by have := hrl q; omega) (fun q => by rw [hrz]; omega)), ⟨(fun h => by cases h), rfl, rfl, oleLI _ _ rfl⟩, trivial⟩, trivial⟩ ?_
      refine Zat ?_
      refine Zat ?_
      by_cases h3 : t16 = 0
      ·by_cases h4 : t27 = 0
       ·refine x_q [(1, .dec true), (4, .dec true)] [0, 1, 2, 7, 8, 9, 10, 15, 16, 26, 27, 39] [13, 8401] [_, _] ⟨h3, h4, trivial⟩ ?_
        refine Zad ?_
        refine Zfl ?_
        refine x_q [] [0, 1, 2, 7, 8, 9, 10, 15, 16, 26, 27] [13, 8401] [] trivial ?_
        refine Zad ?_
        refine Zat ?_
        by_cases h5 : band < ((t16 - t27).natAbs : Int)
        ·refine x_q [(3, .call [(true, .any)] true (I ((t16 - t27).natAbs : Int))), (5, .dec true)] [0, 1, 2, 7, 8, 9, 10, 15, 16, 26, 27, 49] [13, 8401] [inR .i64 (t16 - t27), _ ∧ True, _] ⟨(Zac om om), ⟨(Zir (t16 - t27) om), trivial⟩, h5, trivial⟩ ?_
         refine Zad ?_
         refine Zfl ?_
         refine x_r [] [0, 1, 2, 7, 8, 15, 16, 26, 27] [13, 8401] [Zai false a, Zai false b, I band, .arr 13, I t16, I (a.length : Int), I t16, I (b.length : Int), I t27] [some (Zkn 8401 tb'), some (.fam tb'.length 1 (mLI tb') (fun q => bif Nat.beq q t16.toNat then (fun q => bif Nat.beq q t27.toNat then [I 1099511627776] else (gLI tb') t16.toNat q) else (gLI tb') q))] [(0 : Int) ≤ t16 ∧ t16 < (tb'.length : Int), t16.toNat < tb'.length, t16.toNat < tb'.length ∧ (0 : Int) ≤ t27 ∧ t27 < (((at_ tb' t16.toNat).length) : Int), t16.toNat < tb'.length ∧ t27.toNat < (at_ tb' t16.toNat).length] ⟨⟨om, om⟩, om, ⟨om, om, om⟩, ⟨om, om⟩, trivial⟩ ?_
         refine Zbo 3 ?_
         refine Zad ?_
         refine Zcw [] (T := [(0, Zai false a), (1, Zai false b), (2, I band), (7, .arr 13), (8, I t16), (15, I (a.length : Int)), (16, I t16), (26, I (b.length : Int)), (27, I t27)]) (O := [(13, Zkn 8401 (tb'.set t16.toNat ((at_ tb' t16.toNat).set t27.toNat 1099511627776))), (8401, Zmu (tb'.set t16.toNat ((at_ tb' t16.toNat).set t27.toNat 1099511627776)))]) rfl (⟨.inl rfl, .inl rfl, .inl rfl, .inl rfl, .inl rfl, .inl rfl, .inl rfl, .inl rfl, .inl rfl, trivial⟩) (⟨.inr ⟨rfl, rfl, (by first | rfl | (simp; done) | omega), fun i_ hi_ => .inl (Zod 8401 t16.toNat tb' ((at_ tb' t16.toNat).set t27.toNat 1099511627776) i_)⟩, .inr (Zoe (P := t16.toNat) (k := t27.toNat) (om) (om) (by simp only [Nat.beq_refl, cond_true]; try rfl) (by intro i hi; simp only [Nat.beq_refl, cond_true, Zgo hi, cond_false]; try rfl) (by intro p hp; simp only [Zgo hp, cond_false])), trivial⟩) ?_
         refine x_r [] [0, 1, 2, 7, 8, 15, 16, 26, 27] [13, 8401] [Zai false a, Zai false b, I band, .arr 13, I t16, I (a.length : Int), I t16, I (b.length : Int), I (t27 + 1)] [some (Zkn 8401 (tb'.set t16.toNat ((at_ tb' t16.toNat).set t27.toNat 1099511627776))), some (Zmu (tb'.set t16.toNat ((at_ tb' t16.toNat).set t27.toNat 1099511627776)))] [inR .i64 (t27 + 1)] ⟨(Zac om om), trivial⟩ ?_
         exact Zbh ((t27 + 1), (tb'.set t16.toNat ((at_ tb' t16.toNat).set t27.toNat 1099511627776))) rfl (show (0 ≤ (t27 + 1) ∧ (t27 + 1) ≤ (b.length : Int)) ∧ (Znb a b band (tb'.set t16.toNat ((at_ tb' t16.toNat).set t27.toNat 1099511627776)) t16.toNat ∧ Zko a b band (at_ (tb'.set t16.toNat ((at_ tb' t16.toNat).set t27.toNat 1099511627776)) t16.toNat) t16.toNat (t27 + 1).toNat) ∧ True from ⟨om, (by rw [show (t27 + 1).toNat = t27.toNat + 1 from by omega]; exact Zkp hin.1 hin.2 hi hj (by rw [hlb.2]; first | exact (Zjr (by first | (left; rw [hix, hjx]; omega) | (right; (try rw [if_neg om]); (try rw [if_pos om]); omega))).symm | (rw [Zfm (by rw [hix, hjx]; omega) (by first | (rw [if_neg om]; omega) | (rw [if_pos om]; decide))]; first | rw [if_neg om] | rw [if_pos om]))), trivial⟩) (by first | (show (((b.length : Int) - (t27 + 1)).toNat : Nat) < ((b.length : Int) - t27).toNat; omega) | (dsimp only; omega))
        refine x_q [(3, .call [(true, .any)] true (I ((t16 - t27).natAbs : Int))), (5, .dec false), (8, .dec false)] [0, 1, 2, 7, 8, 9, 10, 15, 16, 26, 27, 49] [13, 8401] [inR .i64 (t16 - t27), _ ∧ True, _, ¬ ((1099511627776 : Int) ≤ 0)] ⟨(Zac om om), ⟨(Zir (t16 - t27) om), trivial⟩, h5, (by decide), trivial⟩ ?_
        refine Zad ?_
        refine Zkr ?_
        refine x_r [(14, .call [(true, .any), (true, .any)] true (I (Zdr (at_ a t16.toNat) (at_ b t27.toNat))))] [0, 1, 2, 7, 8, 15, 16, 26, 27] [13, 8401] [Zai false a, Zai false b, I band, .arr 13, I t16, I (a.length : Int), I t16, I (b.length : Int), I t27] [some (Zkn 8401 tb'), some (.fam tb'.length 1 (mLI tb') (fun q => bif Nat.beq q t16.toNat then (fun q => bif Nat.beq q t27.toNat then [I (0 + (Zdr (at_ a t16.toNat) (at_ b t27.toNat)))] else (gLI tb') t16.toNat q) else (gLI tb') q))] [(0 : Int) ≤ t16 ∧ t16 < (tb'.length : Int), t16.toNat < tb'.length, (0 : Int) ≤ t16 ∧ t16 < (a.length : Int), (0 : Int) ≤ t27 ∧ t27 < (b.length : Int), _ ∧ True, inR .i64 (0 + (Zdr (at_ a t16.toNat) (at_ b t27.toNat))), t16.toNat < tb'.length ∧ (0 : Int) ≤ t27 ∧ t27 < (((at_ tb' t16.toNat).length) : Int), t16.toNat < tb'.length ∧ t27.toNat < (at_ tb' t16.toNat).length] ⟨⟨om, om⟩, om, ⟨om, om⟩, ⟨om, om⟩, ⟨(Zlz (at_ a t16.toNat) (at_ b t27.toNat) (by first | exact hab.1 _ om | exact hab.2.1 _ om) (by first | exact hab.1 _ om | exact hab.2.1 _ om)), trivial⟩, (Zac om om), ⟨om, om, om⟩, ⟨om, om⟩, trivial⟩ ?_
        refine Zbo 3 ?_
        refine Zad ?_
        refine Zcw [] (T := [(0, Zai false a), (1, Zai false b), (2, I band), (7, .arr 13), (8, I t16), (15, I (a.length : Int)), (16, I t16), (26, I (b.length : Int)), (27, I t27)]) (O := [(13, Zkn 8401 (tb'.set t16.toNat ((at_ tb' t16.toNat).set t27.toNat (0 + (Zdr (at_ a t16.toNat) (at_ b t27.toNat)))))), (8401, Zmu (tb'.set t16.toNat ((at_ tb' t16.toNat).set t27.toNat (0 + (Zdr (at_ a t16.toNat) (at_ b t27.toNat))))))]) rfl (⟨.inl rfl, .inl rfl, .inl rfl, .inl rfl, .inl rfl, .inl rfl, .inl rfl, .inl rfl, .inl rfl, trivial⟩) (⟨.inr ⟨rfl, rfl, (by first | rfl | (simp; done) | omega), fun i_ hi_ => .inl (Zod 8401 t16.toNat tb' ((at_ tb' t16.toNat).set t27.toNat (0 + (Zdr (at_ a t16.toNat) (at_ b t27.toNat)))) i_)⟩, .inr (Zoe (P := t16.toNat) (k := t27.toNat) (om) (om) (by simp only [Nat.beq_refl, cond_true]; try rfl) (by intro i hi; simp only [Nat.beq_refl, cond_true, Zgo hi, cond_false]; try rfl) (by intro p hp; simp only [Zgo hp, cond_false])), trivial⟩) ?_
        refine x_r [] [0, 1, 2, 7, 8, 15, 16, 26, 27] [13, 8401] [Zai false a, Zai false b, I band, .arr 13, I t16, I (a.length : Int), I t16, I (b.length : Int), I (t27 + 1)] [some (Zkn 8401 (tb'.set t16.toNat ((at_ tb' t16.toNat).set t27.toNat (0 + (Zdr (at_ a t16.toNat) (at_ b t27.toNat)))))), some (Zmu (tb'.set t16.toNat ((at_ tb' t16.toNat).set t27.toNat (0 + (Zdr (at_ a t16.toNat) (at_ b t27.toNat))))))] [inR .i64 (t27 + 1)] ⟨(Zac om om), trivial⟩ ?_
        exact Zbh ((t27 + 1), (tb'.set t16.toNat ((at_ tb' t16.toNat).set t27.toNat (0 + (Zdr (at_ a t16.toNat) (at_ b t27.toNat)))))) rfl (show (0 ≤ (t27 + 1) ∧ (t27 + 1) ≤ (b.length : Int)) ∧ (Znb a b band (tb'.set t16.toNat ((at_ tb' t16.toNat).set t27.toNat (0 + (Zdr (at_ a t16.toNat) (at_ b t27.toNat))))) t16.toNat ∧ Zko a b band (at_ (tb'.set t16.toNat ((at_ tb' t16.toNat).set t27.toNat (0 + (Zdr (at_ a t16.toNat) (at_ b t27.toNat))))) t16.toNat) t16.toNat (t27 + 1).toNat) ∧ True from ⟨om, (by rw [show (t27 + 1).toNat = t27.toNat + 1 from by omega]; exact Zkp hin.1 hin.2 hi hj (by rw [hlb.2]; first | exact (Zjr (by first | (left; rw [hix, hjx]; omega) | (right; (try rw [if_neg om]); (try rw [if_pos om]); omega))).symm | (rw [Zfm (by rw [hix, hjx]; omega) (by first | (rw [if_neg om]; omega) | (rw [if_pos om]; decide))]; first | rw [if_neg om] | rw [if_pos om]))), trivial⟩) (by first | (show (((b.length : Int) - (t27 + 1)).toNat : Nat) < ((b.length : Int) - t27).toNat; omega) | (dsimp only; omega))
       refine x_q [(1, .dec true), (4, .dec false)] [0, 1, 2, 7, 8, 9, 10, 15, 16, 26, 27, 39] [13, 8401] [_, _] ⟨h3, h4, trivial⟩ ?_
       refine Zad ?_
       refine Zkr ?_
       refine Zbv ?_
       refine Zad ?_
       refine Zat ?_
       by_cases h6 : band < ((t16 - t27).natAbs : Int)
       ·refine x_q [(3, .call [(true, .any)] true (I ((t16 - t27).natAbs : Int))), (5, .dec true)] [0, 1, 2, 7, 8, 9, 10, 15, 16, 26, 27, 49] [13, 8401] [inR .i64 (t16 - t27), _ ∧ True, _] ⟨(Zac om om), ⟨(Zir (t16 - t27) om), trivial⟩, h6, trivial⟩ ?_
        refine Zad ?_
        refine Zfl ?_
        refine x_r [] [0, 1, 2, 7, 8, 15, 16, 26, 27] [13, 8401] [Zai false a, Zai false b, I band, .arr 13, I t16, I (a.length : Int), I t16, I (b.length : Int), I t27] [some (Zkn 8401 tb'), some (.fam tb'.length 1 (mLI tb') (fun q => bif Nat.beq q t16.toNat then (fun q => bif Nat.beq q t27.toNat then [I 1099511627776] else (gLI tb') t16.toNat q) else (gLI tb') q))] [(0 : Int) ≤ t16 ∧ t16 < (tb'.length : Int), t16.toNat < tb'.length, t16.toNat < tb'.length ∧ (0 : Int) ≤ t27 ∧ t27 < (((at_ tb' t16.toNat).length) : Int), t16.toNat < tb'.length ∧ t27.toNat < (at_ tb' t16.toNat).length] ⟨⟨om, om⟩, om, ⟨om, om, om⟩, ⟨om, om⟩, trivial⟩ ?_
        refine Zbo 3 ?_
        refine Zad ?_
        refine Zcw [] (T := [(0, Zai false a), (1, Zai false b), (2, I band), (7, .arr 13), (8, I t16), (15, I (a.length : Int)), (16, I t16), (26, I (b.length : Int)), (27, I t27)]) (O := [(13, Zkn 8401 (tb'.set t16.toNat ((at_ tb' t16.toNat).set t27.toNat 1099511627776))), (8401, Zmu (tb'.set t16.toNat ((at_ tb' t16.toNat).set t27.toNat 1099511627776)))]) rfl (⟨.inl rfl, .inl rfl, .inl rfl, .inl rfl, .inl rfl, .inl rfl, .inl rfl, .inl rfl, .inl rfl, trivial⟩) (⟨.inr ⟨rfl, rfl, (by first | rfl | (simp; done) | omega), fun i_ hi_ => .inl (Zod 8401 t16.toNat tb' ((at_ tb' t16.toNat).set t27.toNat 1099511627776) i_)⟩, .inr (Zoe (P := t16.toNat) (k := t27.toNat) (om) (om) (by simp only [Nat.beq_refl, cond_true]; try rfl) (by intro i hi; simp only [Nat.beq_refl, cond_true, Zgo hi, cond_false]; try rfl) (by intro p hp; simp only [Zgo hp, cond_false])), trivial⟩) ?_
        refine x_r [] [0, 1, 2, 7, 8, 15, 16, 26, 27] [13, 8401] [Zai false a, Zai false b, I band, .arr 13, I t16, I (a.length : Int), I t16, I (b.length : Int), I (t27 + 1)] [some (Zkn 8401 (tb'.set t16.toNat ((at_ tb' t16.toNat).set t27.toNat 1099511627776))), some (Zmu (tb'.set t16.toNat ((at_ tb' t16.toNat).set t27.toNat 1099511627776)))] [inR .i64 (t27 + 1)] ⟨(Zac om om), trivial⟩ ?_
        exact Zbh ((t27 + 1), (tb'.set t16.toNat ((at_ tb' t16.toNat).set t27.toNat 1099511627776))) rfl (show (0 ≤ (t27 + 1) ∧ (t27 + 1) ≤ (b.length : Int)) ∧ (Znb a b band (tb'.set t16.toNat ((at_ tb' t16.toNat).set t27.toNat 1099511627776)) t16.toNat ∧ Zko a b band (at_ (tb'.set t16.toNat ((at_ tb' t16.toNat).set t27.toNat 1099511627776)) t16.toNat) t16.toNat (t27 + 1).toNat) ∧ True from ⟨om, (by rw [show (t27 + 1).toNat = t27.toNat + 1 from by omega]; exact Zkp hin.1 hin.2 hi hj (by rw [hlb.2]; first | exact (Zjr (by first | (left; rw [hix, hjx]; omega) | (right; (try rw [if_neg om]); (try rw [if_pos om]); omega))).symm | (rw [Zfm (by rw [hix, hjx]; omega) (by first | (rw [if_neg om]; omega) | (rw [if_pos om]; decide))]; first | rw [if_neg om] | rw [if_pos om]))), trivial⟩) (by first | (show (((b.length : Int) - (t27 + 1)).toNat : Nat) < ((b.length : Int) - t27).toNat; omega) | (dsimp only; omega))
       by_cases h7 : 1099511627776 ≤ (lb3 tb' t16 t27)
       ·refine x_q [(3, .call [(true, .any)] true (I ((t16 - t27).natAbs : Int))), (5, .dec false), (8, .dec true)] [0, 1, 2, 7, 8, 9, 10, 15, 16, 26, 27, 49] [13, 8401] [inR .i64 (t16 - t27), _ ∧ True, _, _] ⟨(Zac om om), ⟨(Zir (t16 - t27) om), trivial⟩, h6, h7, trivial⟩ ?_
        refine Zad ?_
        refine Zfl ?_
        refine x_r [] [0, 1, 2, 7, 8, 15, 16, 26, 27] [13, 8401] [Zai false a, Zai false b, I band, .arr 13, I t16, I (a.length : Int), I t16, I (b.length : Int), I t27] [some (Zkn 8401 tb'), some (.fam tb'.length 1 (mLI tb') (fun q => bif Nat.beq q t16.toNat then (fun q => bif Nat.beq q t27.toNat then [I 1099511627776] else (gLI tb') t16.toNat q) else (gLI tb') q))] [(0 : Int) ≤ t16 ∧ t16 < (tb'.length : Int), t16.toNat < tb'.length, t16.toNat < tb'.length ∧ (0 : Int) ≤ t27 ∧ t27 < (((at_ tb' t16.toNat).length) : Int), t16.toNat < tb'.length ∧ t27.toNat < (at_ tb' t16.toNat).length] ⟨⟨om, om⟩, om, ⟨om, om, om⟩, ⟨om, om⟩, trivial⟩ ?_
        refine Zbo 3 ?_
        refine Zad ?_
        refine Zcw [] (T := [(0, Zai false a), (1, Zai false b), (2, I band), (7, .arr 13), (8, I t16), (15, I (a.length : Int)), (16, I t16), (26, I (b.length : Int)), (27, I t27)]) (O := [(13, Zkn 8401 (tb'.set t16.toNat ((at_ tb' t16.toNat).set t27.toNat 1099511627776))), (8401, Zmu (tb'.set t16.toNat ((at_ tb' t16.toNat).set t27.toNat 1099511627776)))]) rfl (⟨.inl rfl, .inl rfl, .inl rfl, .inl rfl, .inl rfl, .inl rfl, .inl rfl, .inl rfl, .inl rfl, trivial⟩) (⟨.inr ⟨rfl, rfl, (by first | rfl | (simp; done) | omega), fun i_ hi_ => .inl (Zod 8401 t16.toNat tb' ((at_ tb' t16.toNat).set t27.toNat 1099511627776) i_)⟩, .inr (Zoe (P := t16.toNat) (k := t27.toNat) (om) (om) (by simp only [Nat.beq_refl, cond_true]; try rfl) (by intro i hi; simp only [Nat.beq_refl, cond_true, Zgo hi, cond_false]; try rfl) (by intro p hp; simp only [Zgo hp, cond_false])), trivial⟩) ?_
        refine x_r [] [0, 1, 2, 7, 8, 15, 16, 26, 27] [13, 8401] [Zai false a, Zai false b, I band, .arr 13, I t16, I (a.length : Int), I t16, I (b.length : Int), I (t27 + 1)] [some (Zkn 8401 (tb'.set t16.toNat ((at_ tb' t16.toNat).set t27.toNat 1099511627776))), some (Zmu (tb'.set t16.toNat ((at_ tb' t16.toNat).set t27.toNat 1099511627776)))] [inR .i64 (t27 + 1)] ⟨(Zac om om), trivial⟩ ?_
        exact Zbh ((t27 + 1), (tb'.set t16.toNat ((at_ tb' t16.toNat).set t27.toNat 1099511627776))) rfl (show (0 ≤ (t27 + 1) ∧ (t27 + 1) ≤ (b.length : Int)) ∧ (Znb a b band (tb'.set t16.toNat ((at_ tb' t16.toNat).set t27.toNat 1099511627776)) t16.toNat ∧ Zko a b band (at_ (tb'.set t16.toNat ((at_ tb' t16.toNat).set t27.toNat 1099511627776)) t16.toNat) t16.toNat (t27 + 1).toNat) ∧ True from ⟨om, (by rw [show (t27 + 1).toNat = t27.toNat + 1 from by omega]; exact Zkp hin.1 hin.2 hi hj (by rw [hlb.2]; first | exact (Zjr (by first | (left; rw [hix, hjx]; omega) | (right; (try rw [if_neg om]); (try rw [if_pos om]); omega))).symm | (rw [Zfm (by rw [hix, hjx]; omega) (by first | (rw [if_neg om]; omega) | (rw [if_pos om]; decide))]; first | rw [if_neg om] | rw [if_pos om]))), trivial⟩) (by first | (show (((b.length : Int) - (t27 + 1)).toNat : Nat) < ((b.length : Int) - t27).toNat; omega) | (dsimp only; omega))
       refine x_q [(3, .call [(true, .any)] true (I ((t16 - t27).natAbs : Int))), (5, .dec false), (8, .dec false)] [0, 1, 2, 7, 8, 9, 10, 15, 16, 26, 27, 49] [13, 8401] [inR .i64 (t16 - t27), _ ∧ True, _, _] ⟨(Zac om om), ⟨(Zir (t16 - t27) om), trivial⟩, h6, h7, trivial⟩ ?_
       refine Zad ?_
       refine Zkr ?_
       refine x_r [(14, .call [(true, .any), (true, .any)] true (I (Zdr (at_ a t16.toNat) (at_ b t27.toNat))))] [0, 1, 2, 7, 8, 15, 16, 26, 27] [13, 8401] [Zai false a, Zai false b, I band, .arr 13, I t16, I (a.length : Int), I t16, I (b.length : Int), I t27] [some (Zkn 8401 tb'), some (.fam tb'.length 1 (mLI tb') (fun q => bif Nat.beq q t16.toNat then (fun q => bif Nat.beq q t27.toNat then [I ((lb3 tb' t16 t27) + (Zdr (at_ a t16.toNat) (at_ b t27.toNat)))] else (gLI tb') t16.toNat q) else (gLI tb') q))] [(0 : Int) ≤ t16 ∧ t16 < (tb'.length : Int), t16.toNat < tb'.length, (0 : Int) ≤ t16 ∧ t16 < (a.length : Int), (0 : Int) ≤ t27 ∧ t27 < (b.length : Int), _ ∧ True, inR .i64 ((lb3 tb' t16 t27) + (Zdr (at_ a t16.toNat) (at_ b t27.toNat))), t16.toNat < tb'.length ∧ (0 : Int) ≤ t27 ∧ t27 < (((at_ tb' t16.toNat).length) : Int), t16.toNat < tb'.length ∧ t27.toNat < (at_ tb' t16.toNat).length] ⟨⟨om, om⟩, om, ⟨om, om⟩, ⟨om, om⟩, ⟨(Zlz (at_ a t16.toNat) (at_ b t27.toNat) (by first | exact hab.1 _ om | exact hab.2.1 _ om) (by first | exact hab.1 _ om | exact hab.2.1 _ om)), trivial⟩, (Zac om om), ⟨om, om, om⟩, ⟨om, om⟩, trivial⟩ ?_
       refine Zbo 3 ?_
       refine Zad ?_
       refine Zcw [] (T := [(0, Zai false a), (1, Zai false b), (2, I band), (7, .arr 13), (8, I t16), (15, I (a.length : Int)), (16, I t16), (26, I (b.length : Int)), (27, I t27)]) (O := [(13, Zkn 8401 (tb'.set t16.toNat ((at_ tb' t16.toNat).set t27.toNat ((lb3 tb' t16 t27) + (Zdr (at_ a t16.toNat) (at_ b t27.toNat)))))), (8401, Zmu (tb'.set t16.toNat ((at_ tb' t16.toNat).set t27.toNat ((lb3 tb' t16 t27) + (Zdr (at_ a t16.toNat) (at_ b t27.toNat))))))]) rfl (⟨.inl rfl, .inl rfl, .inl rfl, .inl rfl, .inl rfl, .inl rfl, .inl rfl, .inl rfl, .inl rfl, trivial⟩) (⟨.inr ⟨rfl, rfl, (by first | rfl | (simp; done) | omega), fun i_ hi_ => .inl (Zod 8401 t16.toNat tb' ((at_ tb' t16.toNat).set t27.toNat ((lb3 tb' t16 t27) + (Zdr (at_ a t16.toNat) (at_ b t27.toNat)))) i_)⟩, .inr (Zoe (P := t16.toNat) (k := t27.toNat) (om) (om) (by simp only [Nat.beq_refl, cond_true]; try rfl) (by intro i hi; simp only [Nat.beq_refl, cond_true, Zgo hi, cond_false]; try rfl) (by intro p hp; simp only [Zgo hp, cond_false])), trivial⟩) ?_
       refine x_r [] [0, 1, 2, 7, 8, 15, 16, 26, 27] [13, 8401] [Zai false a, Zai false b, I band, .arr 13, I t16, I (a.length : Int), I t16, I (b.length : Int), I (t27 + 1)] [some (Zkn 8401 (tb'.set t16.toNat ((at_ tb' t16.toNat).set t27.toNat ((lb3 tb' t16 t27) + (Zdr (at_ a t16.toNat) (at_ b t27.toNat)))))), some (Zmu (tb'.set t16.toNat ((at_ tb' t16.toNat).set t27.toNat ((lb3 tb' t16 t27) + (Zdr (at_ a t16.toNat) (at_ b t27.toNat))))))] [inR .i64 (t27 + 1)] ⟨(Zac om om), trivial⟩ ?_
       exact Zbh ((t27 + 1), (tb'.set t16.toNat ((at_ tb' t16.toNat).set t27.toNat ((lb3 tb' t16 t27) + (Zdr (at_ a t16.toNat) (at_ b t27.toNat)))))) rfl (show (0 ≤ (t27 + 1) ∧ (t27 + 1) ≤ (b.length : Int)) ∧ (Znb a b band (tb'.set t16.toNat ((at_ tb' t16.toNat).set t27.toNat ((lb3 tb' t16 t27) + (Zdr (at_ a t16.toNat) (at_ b t27.toNat))))) t16.toNat ∧ Zko a b band (at_ (tb'.set t16.toNat ((at_ tb' t16.toNat).set t27.toNat ((lb3 tb' t16 t27) + (Zdr (at_ a t16.toNat) (at_ b t27.toNat))))) t16.toNat) t16.toNat (t27 + 1).toNat) ∧ True from ⟨om, (by rw [show (t27 + 1).toNat = t27.toNat + 1 from by omega]; exact Zkp hin.1 hin.2 hi hj (by rw [hlb.2]; first | exact (Zjr (by first | (left; rw [hix, hjx]; omega) | (right; (try rw [if_neg om]); (try rw [if_pos om]); omega))).symm | (rw [Zfm (by rw [hix, hjx]; omega) (by first | (rw [if_neg om]; omega) | (rw [if_pos om]; decide))]; first | rw [if_neg om] | rw [if_pos om]))), trivial⟩) (by first | (show (((b.length : Int) - (t27 + 1)).toNat : Nat) < ((b.length : Int) - t27).toNat; omega) | (dsimp only; omega))
      refine x_q [(1, .dec false)] [0, 1, 2, 7, 8, 9, 10, 15, 16, 26, 27, 39] [13, 8401] [_] ⟨h3, trivial⟩ ?_
      refine Zad ?_
      refine Zkr ?_
      refine Zbv ?_
      refine Zad ?_
      refine Zat ?_
      by_cases h8 : band < ((t16 - t27).natAbs : Int)
      ·refine x_q [(3, .call [(true, .any)] true (I ((t16 - t27).natAbs : Int))), (5, .dec true)] [0, 1, 2, 7, 8, 9, 10, 15, 16, 26, 27, 49] [13, 8401] [inR .i64 (t16 - t27), _ ∧ True, _] ⟨(Zac om om), ⟨(Zir (t16 - t27) om), trivial⟩, h8, trivial⟩ ?_
       refine Zad ?_
       refine Zfl ?_
       refine x_r [] [0, 1, 2, 7, 8, 15, 16, 26, 27] [13, 8401] [Zai false a, Zai false b, I band, .arr 13, I t16, I (a.length : Int), I t16, I (b.length : Int), I t27] [some (Zkn 8401 tb'), some (.fam tb'.length 1 (mLI tb') (fun q => bif Nat.beq q t16.toNat then (fun q => bif Nat.beq q t27.toNat then [I 1099511627776] else (gLI tb') t16.toNat q) else (gLI tb') q))] [(0 : Int) ≤ t16 ∧ t16 < (tb'.length : Int), t16.toNat < tb'.length, t16.toNat < tb'.length ∧ (0 : Int) ≤ t27 ∧ t27 < (((at_ tb' t16.toNat).length) : Int), t16.toNat < tb'.length ∧ t27.toNat < (at_ tb' t16.toNat).length] ⟨⟨om, om⟩, om, ⟨om, om, om⟩, ⟨om, om⟩, trivial⟩ ?_
       refine Zbo 3 ?_
       refine Zad ?_
       refine Zcw [] (T := [(0, Zai false a), (1, Zai false b), (2, I band), (7, .arr 13), (8, I t16), (15, I (a.length : Int)), (16, I t16), (26, I (b.length : Int)), (27, I t27)]) (O := [(13, Zkn 8401 (tb'.set t16.toNat ((at_ tb' t16.toNat).set t27.toNat 1099511627776))), (8401, Zmu (tb'.set t16.toNat ((at_ tb' t16.toNat).set t27.toNat 1099511627776)))]) rfl (⟨.inl rfl, .inl rfl, .inl rfl, .inl rfl, .inl rfl, .inl rfl, .inl rfl, .inl rfl, .inl rfl, trivial⟩) (⟨.inr ⟨rfl, rfl, (by first | rfl | (simp; done) | omega), fun i_ hi_ => .inl (Zod 8401 t16.toNat tb' ((at_ tb' t16.toNat).set t27.toNat 1099511627776) i_)⟩, .inr (Zoe (P := t16.toNat) (k := t27.toNat) (om) (om) (by simp only [Nat.beq_refl, cond_true]; try rfl) (by intro i hi; simp only [Nat.beq_refl, cond_true, Zgo hi, cond_false]; try rfl) (by intro p hp; simp only [Zgo hp, cond_false])), trivial⟩) ?_
       refine x_r [] [0, 1, 2, 7, 8, 15, 16, 26, 27] [13, 8401] [Zai false a, Zai false b, I band, .arr 13, I t16, I (a.length : Int), I t16, I (b.length : Int), I (t27 + 1)] [some (Zkn 8401 (tb'.set t16.toNat ((at_ tb' t16.toNat).set t27.toNat 1099511627776))), some (Zmu (tb'.set t16.toNat ((at_ tb' t16.toNat).set t27.toNat 1099511627776)))] [inR .i64 (t27 + 1)] ⟨(Zac om om), trivial⟩ ?_
       exact Zbh ((t27 + 1), (tb'.set t16.toNat ((at_ tb' t16.toNat).set t27.toNat 1099511627776))) rfl (show (0 ≤ (t27 + 1) ∧ (t27 + 1) ≤ (b.length : Int)) ∧ (Znb a b band (tb'.set t16.toNat ((at_ tb' t16.toNat).set t27.toNat 1099511627776)) t16.toNat ∧ Zko a b band (at_ (tb'.set t16.toNat ((at_ tb' t16.toNat).set t27.toNat 1099511627776)) t16.toNat) t16.toNat (t27 + 1).toNat) ∧ True from ⟨om, (by rw [show (t27 + 1).toNat = t27.toNat + 1 from by omega]; exact Zkp hin.1 hin.2 hi hj (by rw [hlb.2]; first | exact (Zjr (by first | (left; rw [hix, hjx]; omega) | (right; (try rw [if_neg om]); (try rw [if_pos om]); omega))).symm | (rw [Zfm (by rw [hix, hjx]; omega) (by first | (rw [if_neg om]; omega) | (rw [if_pos om]; decide))]; first | rw [if_neg om] | rw [if_pos om]))), trivial⟩) (by first | (show (((b.length : Int) - (t27 + 1)).toNat : Nat) < ((b.length : Int) - t27).toNat; omega) | (dsimp only; omega))
      by_cases h9 : 1099511627776 ≤ (lb3 tb' t16 t27)
      ·refine x_q [(3, .call [(true, .any)] true (I ((t16 - t27).natAbs : Int))), (5, .dec false), (8, .dec true)] [0, 1, 2, 7, 8, 9, 10, 15, 16, 26, 27, 49] [13, 8401] [inR .i64 (t16 - t27), _ ∧ True, _, _] ⟨(Zac om om), ⟨(Zir (t16 - t27) om), trivial⟩, h8, h9, trivial⟩ ?_
       refine Zad ?_
       refine Zfl ?_
       refine x_r [] [0, 1, 2, 7, 8, 15, 16, 26, 27] [13, 8401] [Zai false a, Zai false b, I band, .arr 13, I t16, I (a.length : Int), I t16, I (b.length : Int), I t27] [some (Zkn 8401 tb'), some (.fam tb'.length 1 (mLI tb') (fun q => bif Nat.beq q t16.toNat then (fun q => bif Nat.beq q t27.toNat then [I 1099511627776] else (gLI tb') t16.toNat q) else (gLI tb') q))] [(0 : Int) ≤ t16 ∧ t16 < (tb'.length : Int), t16.toNat < tb'.length, t16.toNat < tb'.length ∧ (0 : Int) ≤ t27 ∧ t27 < (((at_ tb' t16.toNat).length) : Int), t16.toNat < tb'.length ∧ t27.toNat < (at_ tb' t16.toNat).length] ⟨⟨om, om⟩, om, ⟨om, om, om⟩, ⟨om, om⟩, trivial⟩ ?_
       refine Zbo 3 ?_
       refine Zad ?_
       refine Zcw [] (T := [(0, Zai false a), (1, Zai false b), (2, I band), (7, .arr 13), (8, I t16), (15, I (a.length : Int)), (16, I t16), (26, I (b.length : Int)), (27, I t27)]) (O := [(13, Zkn 8401 (tb'.set t16.toNat ((at_ tb' t16.toNat).set t27.toNat 1099511627776))), (8401, Zmu (tb'.set t16.toNat ((at_ tb' t16.toNat).set t27.toNat 1099511627776)))]) rfl (⟨.inl rfl, .inl rfl, .inl rfl, .inl rfl, .inl rfl, .inl rfl, .inl rfl, .inl rfl, .inl rfl, trivial⟩) (⟨.inr ⟨rfl, rfl, (by first | rfl | (simp; done) | omega), fun i_ hi_ => .inl (Zod 8401 t16.toNat tb' ((at_ tb' t16.toNat).set t27.toNat 1099511627776) i_)⟩, .inr (Zoe (P := t16.toNat) (k := t27.toNat) (om) (om) (by simp only [Nat.beq_refl, cond_true]; try rfl) (by intro i hi; simp only [Nat.beq_refl, cond_true, Zgo hi, cond_false]; try rfl) (by intro p hp; simp only [Zgo hp, cond_false])), trivial⟩) ?_
       refine x_r [] [0, 1, 2, 7, 8, 15, 16, 26, 27] [13, 8401] [Zai false a, Zai false b, I band, .arr 13, I t16, I (a.length : Int), I t16, I (b.length : Int), I (t27 + 1)] [some (Zkn 8401 (tb'.set t16.toNat ((at_ tb' t16.toNat).set t27.toNat 1099511627776))), some (Zmu (tb'.set t16.toNat ((at_ tb' t16.toNat).set t27.toNat 1099511627776)))] [inR .i64 (t27 + 1)] ⟨(Zac om om), trivial⟩ ?_
       exact Zbh ((t27 + 1), (tb'.set t16.toNat ((at_ tb' t16.toNat).set t27.toNat 1099511627776))) rfl (show (0 ≤ (t27 + 1) ∧ (t27 + 1) ≤ (b.length : Int)) ∧ (Znb a b band (tb'.set t16.toNat ((at_ tb' t16.toNat).set t27.toNat 1099511627776)) t16.toNat ∧ Zko a b band (at_ (tb'.set t16.toNat ((at_ tb' t16.toNat).set t27.toNat 1099511627776)) t16.toNat) t16.toNat (t27 + 1).toNat) ∧ True from ⟨om, (by rw [show (t27 + 1).toNat = t27.toNat + 1 from by omega]; exact Zkp hin.1 hin.2 hi hj (by rw [hlb.2]; first | exact (Zjr (by first | (left; rw [hix, hjx]; omega) | (right; (try rw [if_neg om]); (try rw [if_pos om]); omega))).symm | (rw [Zfm (by rw [hix, hjx]; omega) (by first | (rw [if_neg om]; omega) | (rw [if_pos om]; decide))]; first | rw [if_neg om] | rw [if_pos om]))), trivial⟩) (by first | (show (((b.length : Int) - (t27 + 1)).toNat : Nat) < ((b.length : Int) - t27).toNat; omega) | (dsimp only; omega))
      refine x_q [(3, .call [(true, .any)] true (I ((t16 - t27).natAbs : Int))), (5, .dec false), (8, .dec false)] [0, 1, 2, 7, 8, 9, 10, 15, 16, 26, 27, 49] [13, 8401] [inR .i64 (t16 - t27), _ ∧ True, _, _] ⟨(Zac om om), ⟨(Zir (t16 - t27) om), trivial⟩, h8, h9, trivial⟩ ?_
      refine Zad ?_
      refine Zkr ?_
      refine x_r [(14, .call [(true, .any), (true, .any)] true (I (Zdr (at_ a t16.toNat) (at_ b t27.toNat))))] [0, 1, 2, 7, 8, 15, 16, 26, 27] [13, 8401] [Zai false a, Zai false b, I band, .arr 13, I t16, I (a.length : Int), I t16, I (b.length : Int), I t27] [some (Zkn 8401 tb'), some (.fam tb'.length 1 (mLI tb') (fun q => bif Nat.beq q t16.toNat then (fun q => bif Nat.beq q t27.toNat then [I ((lb3 tb' t16 t27) + (Zdr (at_ a t16.toNat) (at_ b t27.toNat)))] else (gLI tb') t16.toNat q) else (gLI tb') q))] [(0 : Int) ≤ t16 ∧ t16 < (tb'.length : Int), t16.toNat < tb'.length, (0 : Int) ≤ t16 ∧ t16 < (a.length : Int), (0 : Int) ≤ t27 ∧ t27 < (b.length : Int), _ ∧ True, inR .i64 ((lb3 tb' t16 t27) + (Zdr (at_ a t16.toNat) (at_ b t27.toNat))), t16.toNat < tb'.length ∧ (0 : Int) ≤ t27 ∧ t27 < (((at_ tb' t16.toNat).length) : Int), t16.toNat < tb'.length ∧ t27.toNat < (at_ tb' t16.toNat).length] ⟨⟨om, om⟩, om, ⟨om, om⟩, ⟨om, om⟩, ⟨(Zlz (at_ a t16.toNat) (at_ b t27.toNat) (by first | exact hab.1 _ om | exact hab.2.1 _ om) (by first | exact hab.1 _ om | exact hab.2.1 _ om)), trivial⟩, (Zac om om), ⟨om, om, om⟩, ⟨om, om⟩, trivial⟩ ?_
      refine Zbo 3 ?_
      refine Zad ?_
      refine Zcw [] (T := [(0, Zai false a), (1, Zai false b), (2, I band), (7, .arr 13), (8, I t16), (15, I (a.length : Int)), (16, I t16), (26, I (b.length : Int)), (27, I t27)]) (O := [(13, Zkn 8401 (tb'.set t16.toNat ((at_ tb' t16.toNat).set t27.toNat ((lb3 tb' t16 t27) + (Zdr (at_ a t16.toNat) (at_ b t27.toNat)))))), (8401, Zmu (tb'.set t16.toNat ((at_ tb' t16.toNat).set t27.toNat ((lb3 tb' t16 t27) + (Zdr (at_ a t16.toNat) (at_ b t27.toNat))))))]) rfl (⟨.inl rfl, .inl rfl, .inl rfl, .inl rfl, .inl rfl, .inl rfl, .inl rfl, .inl rfl, .inl rfl, trivial⟩) (⟨.inr ⟨rfl, rfl, (by first | rfl | (simp; done) | omega), fun i_ hi_ => .inl (Zod 8401 t16.toNat tb' ((at_ tb' t16.toNat).set t27.toNat ((lb3 tb' t16 t27) + (Zdr (at_ a t16.toNat) (at_ b t27.toNat)))) i_)⟩, .inr (Zoe (P := t16.toNat) (k := t27.toNat) (om) (om) (by simp only [Nat.beq_refl, cond_true]; try rfl) (by intro i hi; simp only [Nat.beq_refl, cond_true, Zgo hi, cond_false]; try rfl) (by intro p hp; simp only [Zgo hp, cond_false])), trivial⟩) ?_
      refine x_r [] [0, 1, 2, 7, 8, 15, 16, 26, 27] [13, 8401] [Zai false a, Zai false b, I band, .arr 13, I t16, I (a.length : Int), I t16, I (b.length : Int), I (t27 + 1)] [some (Zkn 8401 (tb'.set t16.toNat ((at_ tb' t16.toNat).set t27.toNat ((lb3 tb' t16 t27) + (Zdr (at_ a t16.toNat) (at_ b t27.toNat)))))), some (Zmu (tb'.set t16.toNat ((at_ tb' t16.toNat).set t27.toNat ((lb3 tb' t16 t27) + (Zdr (at_ a t16.toNat) (at_ b t27.toNat))))))] [inR .i64 (t27 + 1)] ⟨(Zac om om), trivial⟩ ?_
      exact Zbh ((t27 + 1), (tb'.set t16.toNat ((at_ tb' t16.toNat).set t27.toNat ((lb3 tb' t16 t27) + (Zdr (at_ a t16.toNat) (at_ b t27.toNat)))))) rfl (show (0 ≤ (t27 + 1) ∧ (t27 + 1) ≤ (b.length : Int)) ∧ (Znb a b band (tb'.set t16.toNat ((at_ tb' t16.toNat).set t27.toNat ((lb3 tb' t16 t27) + (Zdr (at_ a t16.toNat) (at_ b t27.toNat))))) t16.toNat ∧ Zko a b band (at_ (tb'.set t16.toNat ((at_ tb' t16.toNat).set t27.toNat ((lb3 tb' t16 t27) + (Zdr (at_ a t16.toNat) (at_ b t27.toNat))))) t16.toNat) t16.toNat (t27 + 1).toNat) ∧ True from ⟨om, (by rw [show (t27 + 1).toNat = t27.toNat + 1 from by omega]; exact Zkp hin.1 hin.2 hi hj (by rw [hlb.2]; first | exact (Zjr (by first | (left; rw [hix, hjx]; omega) | (right; (try rw [if_neg om]); (try rw [if_pos om]); omega))).symm | (rw [Zfm (by rw [hix, hjx]; omega) (by first | (rw [if_neg om]; omega) | (rw [if_pos om]; decide))]; first | rw [if_neg om] | rw [if_pos om]))), trivial⟩) (by first | (show (((b.length : Int) - (t27 + 1)).toNat : Nat) < ((b.length : Int) - t27).toNat; omega) | (dsimp only; omega))
     have hje : t27.toNat = b.length := by omega
     refine x_r [(0, .dec false)] [0, 1, 2, 7, 8, 15, 16, 26, 27, 28] [13, 8401] [Zai false a, Zai false b, I band, .arr 13, I t16, I (a.length : Int), I t16, I (b.length : Int), I t27, Bv false] [some (Zkn 8401 tb'), some (Zmu tb')] [_] ⟨h2, trivial⟩ ?_
     refine Zad ?_
     refine Zat ?_
     refine Zcd rfl ?_
     refine Zde ?_
     refine Zax ?_
     refine Zbe ?_
     refine Zay ?_
     refine Zbo 1 ?_
     refine Zad ?_
     refine x_r [] [0, 1, 2, 7, 15, 16] [13, 8401] [Zai false a, Zai false b, I band, .arr 13, I (a.length : Int), I (t16 + 1)] [some (Zkn 8401 tb'), some (Zmu tb')] [inR .i64 (t16 + 1)] ⟨(Zac om om), trivial⟩ ?_
     exact Zbh ((t16 + 1), tb') rfl (show (0 ≤ (t16 + 1) ∧ (t16 + 1) ≤ (a.length : Int)) ∧ (Znb a b band tb' (t16 + 1).toNat) ∧ True from ⟨om, (by rw [show (t16 + 1).toNat = t16.toNat + 1 from by omega]; exact tb_done hin.1 hin.2 hje), trivial⟩) (by first | (show (((a.length : Int) - (t16 + 1)).toNat : Nat) < ((a.length : Int) - t16).toNat; omega) | (dsimp only; omega))
    have hie : t16.toNat = a.length := by omega
    rw [hie] at htb
    refine x_r [(0, .dec false)] [0, 1, 2, 7, 15, 16, 17] [13, 8401] [Zai false a, Zai false b, I band, .arr 13, I (a.length : Int), I t16, Bv false] [some (Zkn 8401 tb), some (Zmu tb)] [_] ⟨h1, trivial⟩ ?_
    refine Zad ?_
    refine Zat ?_
    refine Zcd rfl ?_
    refine Zde ?_
    refine Zax ?_
    refine Zbe ?_
    refine Zay ?_
    refine Zad ?_
    refine xR [] [6] [13, 8401] [.arr 13] [some (Zkn 8401 tb), some (Zmu tb)] [] trivial ?_
    refine Zem ?_
    refine Zcz tb (show (Znb a b band tb a.length) ∧ (True) from ⟨(by first | assumption | exact htb), trivial⟩) (trivial) (.arr 13) (by kernel_rfl) (.inr ⟨(fun _ => rfl), rfl, rfl, oleLI _ _ rfl⟩) (fun _ => rfl) (fun _ => (tagLI true _))
  obtain ⟨v, ⟨hh0, _⟩, hc⟩ := hh
  exact ⟨v, hh0, hc⟩
theorem tb_last {a b : List Feat} {band : Int} {tb : List (List Int)} (h : Znb a b band tb a.length) (ha : 1 ≤ a.length) (hb : 1 ≤ b.length) : (tb.length = a.length ∧ (at_ tb (a.length - 1)).length = b.length) ∧ at_ (at_ tb (a.length - 1)) (b.length - 1) = cv Znr a b band (a.length - 1) (b.length - 1) :=
 ⟨⟨h.1, (h.2 _ om).1⟩, (h.2 _ om).2 _ om⟩
theorem Ydy (a : List Feat) (b : List Feat) (band : Int) (hab : Yeu a b) (hbd : 0 ≤ band ∧ band ≤ 1000) (h1 : 1 ≤ a.length ∧ 1 ≤ b.length) : ∃ (v : Int), (v = cv Znr a b band (a.length - 1) (b.length - 1)) ∧ Con Tryz.prog 77 [Zai false a, Zai false b, I band] true (I v) := by
 have hla := hab.2.2
 have hh : ∃ r : Int, ((r = cv Znr a b band (a.length - 1) (b.length - 1)) ∧ (True)) ∧ Zbb Tryz.prog 77 [Zai false a, Zai false b, I band] (Zaf []) true (I r) (Zaf []) := by
  refine Zdv (Φ := fun r : Int => (r = cv Znr a b band (a.length - 1) (b.length - 1)) ∧ (True)) [] (fun r => []) (fn := Tryz.f77) (nt := 21) Tryz.func77 rfl rfl (args := [Zai false a, Zai false b, I band]) rfl (Zbd (.inl ⟨rfl, Zdq false _⟩) (Zbd (.inl ⟨rfl, Zdq false _⟩) (Zbd (.inl ⟨rfl, trivial⟩) Zdp))) (res := fun r => I r) ?_
  refine xQ [] [0, 1, 2] [] [] trivial ?_
  refine Zat ?_
  obtain ⟨v_1, hx1_0, hc1⟩ := Zxj a b band hab om
  have htl := tb_last hx1_0 h1.1 h1.2
  have hq1 : ((a.length : Int) - 1).toNat = a.length - 1 := by omega
  have hq2 : ((b.length : Int) - 1).toNat = b.length - 1 := by omega
  rw [← hq1] at htl
  refine x_r [(3, .call [(true, .any), (true, .any), (true, .any)] true (Zuz true v_1))] [6] [] [I (at_ (at_ v_1 (((a.length : Int) - 1).toNat)) (((b.length : Int) - 1).toNat))] [] [_ ∧ True, inR .i64 ((a.length : Int) - 1), (0 : Int) ≤ ((a.length : Int) - 1) ∧ ((a.length : Int) - 1) < (v_1.length : Int), inR .i64 ((b.length : Int) - 1), (0 : Int) ≤ ((b.length : Int) - 1) ∧ ((b.length : Int) - 1) < (((at_ v_1 (((a.length : Int) - 1).toNat)).length) : Int)] ⟨⟨hc1, trivial⟩, (Zac om om), ⟨om, om⟩, (Zac om om), ⟨om, om⟩, trivial⟩ ?_
  refine Zad ?_
  refine Zem ?_
  refine Zcz (at_ (at_ v_1 (((a.length : Int) - 1).toNat)) (((b.length : Int) - 1).toNat)) (show ((at_ (at_ v_1 (((a.length : Int) - 1).toNat)) (((b.length : Int) - 1).toNat)) = cv Znr a b band (a.length - 1) (b.length - 1)) ∧ (True) from ⟨(by (rw [hq2, htl.2, hq1])), trivial⟩) (trivial) (I (at_ (at_ v_1 (((a.length : Int) - 1).toNat)) (((b.length : Int) - 1).toNat))) (by kernel_rfl) (.inl rfl) (fun _ => rfl) (fun _ => trivial)
 obtain ⟨v, ⟨hh0, _⟩, hc⟩ := hh
 exact ⟨v, hh0, hc⟩
theorem Zxk (s : Store) (feats : List Feat) (hst : Zbw s = true) (okf : Zbr feats 72 = true) (h18 : s.Templates.length ≤ 18) : ∃ (ms : List Match), (ms = mtS s feats s.Templates.length) ∧ Zbb Tryz.prog 43 [Zfb s, Zai false feats] (Zaf []) false (.arr 7211) (Zaf [(7211, Zds ms)]) := by
  have hh : ∃ r : (List Match), ((r = mtS s feats s.Templates.length) ∧ (True)) ∧ Zbb Tryz.prog 43 [Zfb s, Zai false feats] (Zaf []) false (.arr 7211) (Zaf [(7211, Zds r)]) := by
    refine Zdv (Φ := fun r : (List Match) => (r = mtS s feats s.Templates.length) ∧ (True)) [] (fun r => [(7211, Zds r)]) (fn := Tryz.f43) (nt := 37) Tryz.func43 rfl rfl (args := [Zfb s, Zai false feats]) rfl (Zbd (.inl ⟨rfl, by simp [Zaj, Zag, Zdz]⟩) (Zbd (.inl ⟨rfl, Zdq false _⟩) Zdp)) (res := fun r => .arr 7211) ?_
    refine xQ [(0, .new 2)] [1, 2] [2] [] trivial ?_
    refine xQ [] [1, 2, 5] [2] [] trivial ?_
    refine Zat ?_
    refine xR [] [1, 2, 5, 9, 10, 11] [2] [Zai false feats, .ref 2 0, Zcr, Zav false s.Templates, I (s.Templates.length : Int), I 0] [some (Zdt s)] [] trivial ?_
    refine Zbn ?_
    refine Yfk 5 705 2 (fun _ => []) (by kernel_rfl) ?_
    refine Zcw [] (T := [(1, Zai false feats), (2, .ref 2 0), (5, .arr 705), (9, Zav false s.Templates), (10, I (s.Templates.length : Int)), (11, I 0)]) (O := [(2, Zdt s), (705, Zds ([] : List Match))]) rfl (⟨.inl rfl, .inl rfl, .inl rfl, .inl rfl, .inl rfl, .inl rfl, trivial⟩) (⟨.inl rfl, .inr ⟨rfl, (by first | rfl | (simp; done) | (simp; omega) | omega), fun i_ hi_ => absurd hi_ (Nat.not_lt_zero _)⟩, trivial⟩) ?_
    refine Zeb (X := (List Match) × Int) (fun x => mkS [(1, Zai false feats), (2, .ref 2 0), (5, .arr 705), (9, Zav false s.Templates), (10, I (s.Templates.length : Int)), (11, I x.2)] [(2, Zdt s), (705, Zds x.1)]) (fun x => (0 ≤ x.2 ∧ x.2 ≤ (s.Templates.length : Int)) ∧ (x.1 = mtS s feats x.2.toNat) ∧ True) (fun x => ((s.Templates.length : Int) - x.2).toNat) (([] : List Match), 0) rfl (show (0 ≤ (0 : Int) ∧ (0 : Int) ≤ (s.Templates.length : Int)) ∧ (([] : List Match) = mtS s feats (0 : Int).toNat) ∧ True from ⟨om, (by rfl), trivial⟩) (fun x hI => ?_)
    obtain ⟨ls, t11⟩ := x
    obtain ⟨hi0, hls, _⟩ : (0 ≤ t11 ∧ t11 ≤ (s.Templates.length : Int)) ∧ (ls = mtS s feats t11.toNat) ∧ True := hI
    show XW _ _ _ _ (mkS [(1, Zai false feats), (2, .ref 2 0), (5, .arr 705), (9, Zav false s.Templates), (10, I (s.Templates.length : Int)), (11, I t11)] [(2, Zdt s), (705, Zds ls)]) _ _
    refine Zat ?_
    by_cases h1 : t11 < (s.Templates.length : Int)
    ·have hi : t11.toNat < s.Templates.length := by omega
     have hix : ((t11.toNat : Nat) : Int) = t11 := by omega
     have htm := (Zea.1 hst).2.2 _ hi
     have hts : Zbr (at_ s.Templates t11.toNat).Feats 72 = true := by simp only [Zfn, Bool.and_eq_true] at htm; exact htm.2
     have htn := Zgx hts
     have hfn := Zgx okf
     have hml : ls.length ≤ t11.toNat := by rw [hls]; exact Zng s feats _
     have hnx : (t11 + 1).toNat = t11.toNat + 1 := by omega
     refine x_q [(0, .dec true)] [1, 2, 5, 9, 10, 11, 12] [2, 705] [_] ⟨h1, trivial⟩ ?_
     refine Zad ?_
     refine Zat ?_
     refine Zfl ?_
     refine Zbv ?_
     refine Zad ?_
     refine Zat ?_
     refine Zbn ?_
     refine xQ [(3, .new 7)] [1, 2, 5, 6, 7, 9, 10, 11] [2, 7, 705] [(0 : Int) ≤ t11 ∧ t11 < (s.Templates.length : Int)] ⟨⟨om, om⟩, trivial⟩ ?_
     refine Zat ?_
     rcases Bool.eq_false_or_eq_true (inB s.Band 0 72 && decide ((((feats.length : Int) - ((((at_ s.Templates t11.toNat).Feats).length) : Int)).natAbs : Int) ≤ s.Band)) with h2 | h2
     ·have hin : inS s feats t11.toNat = true := h2
      have hcv := Yfe okf htm hin
      have hms := mt_y hin
      refine x_q [(7, .call [(true, .any), (true, .any), (true, .any)] true (Bv true))] [1, 2, 5, 6, 7, 9, 10, 11, 23] [2, 7, 705] [Con Tryz.prog 76 [I s.Band, I (feats.length : Int), I ((((at_ s.Templates t11.toNat).Feats).length) : Int)] true (Bv true) ∧ True] ⟨⟨(Zap h2 (Zxl s.Band (feats.length : Int) ((((at_ s.Templates t11.toNat).Feats).length) : Int) om om)), trivial⟩, trivial⟩ ?_
      refine Zad ?_
      refine Zfl ?_
      obtain ⟨v_1, hx1_0, hc1⟩ := Ydy feats ((at_ s.Templates t11.toNat).Feats) s.Band (Zyu okf hts) om om
      have hel : v_1 = (mtM s feats t11.toNat).Cost := hx1_0.trans hcv.2.2.1
      refine x_q [(7, .call [(true, .any), (true, .any), (true, .any)] true (I v_1)), (9, .new 33), (10, .new 34)] [1, 2, 5, 9, 10, 11] [2, 34] [_ ∧ True, (ls.length + 1) * 16 ≤ 140737488355328] ⟨⟨hc1, trivial⟩, om, trivial⟩ ?_
      refine Zbo 1 ?_
      refine Zad ?_
      refine x_r [] [1, 2, 5, 9, 10, 11] [2, 34] [Zai false feats, .ref 2 0, .arr 34, Zav false s.Templates, I (s.Templates.length : Int), I (t11 + 1)] [some (Zdt s), some (.arr 2 (ls.length + 1) (Zgb ls.length (Yaz ls) (Zgm [I t11, I v_1] 2)))] [inR .i64 (t11 + 1)] ⟨(Zac om om), trivial⟩ ?_
      refine Zcl [(705, 34)] (T := [(1, Zai false feats), (2, .ref 2 0), (5, .arr 705), (9, Zav false s.Templates), (10, I (s.Templates.length : Int)), (11, I (t11 + 1))]) (O := [(2, Zdt s), (705, Zds (ls ++ [(Match.mk t11 v_1)]))]) rfl (⟨.inl rfl, .inl rfl, .inl rfl, .inl rfl, .inl rfl, .inl rfl, trivial⟩) (⟨.inl rfl, .inr ⟨rfl, (by first | rfl | (simp; done) | (simp; omega) | omega), fun i_ hi_ => .inl (Zcm (enc := Zwa) (xs := ls) rfl i_ hi_)⟩, trivial⟩) (Zbh ((ls ++ [(Match.mk t11 v_1)]), (t11 + 1)) rfl (show (0 ≤ (t11 + 1) ∧ (t11 + 1) ≤ (s.Templates.length : Int)) ∧ ((ls ++ [(Match.mk t11 v_1)]) = mtS s feats (t11 + 1).toNat) ∧ True from ⟨om, (by (rw [hnx, hls, hms]; first | done | rfl | (rw [hel]; unfold mtM; rw [hix]))), trivial⟩) (by first | (show (((s.Templates.length : Int) - (t11 + 1)).toNat : Nat) < ((s.Templates.length : Int) - t11).toNat; omega) | (dsimp only; omega)))
     have hin : ¬ inS s feats t11.toNat = true := by unfold inS; rw [h2]; decide
     have hms := mt_n hin
     refine x_q [(7, .call [(true, .any), (true, .any), (true, .any)] true (Bv false))] [1, 2, 5, 6, 7, 9, 10, 11, 23] [2, 7, 705] [Con Tryz.prog 76 [I s.Band, I (feats.length : Int), I ((((at_ s.Templates t11.toNat).Feats).length) : Int)] true (Bv false) ∧ True] ⟨⟨(Zap h2 (Zxl s.Band (feats.length : Int) ((((at_ s.Templates t11.toNat).Feats).length) : Int) om om)), trivial⟩, trivial⟩ ?_
     refine Zad ?_
     refine Zkr ?_
     refine Zbv ?_
     refine Zbo 1 ?_
     refine Zad ?_
     refine x_r [] [1, 2, 5, 9, 10, 11] [2, 705] [Zai false feats, .ref 2 0, .arr 705, Zav false s.Templates, I (s.Templates.length : Int), I (t11 + 1)] [some (Zdt s), some (Zds ls)] [inR .i64 (t11 + 1)] ⟨(Zac om om), trivial⟩ ?_
     exact Zbh (ls, (t11 + 1)) rfl (show (0 ≤ (t11 + 1) ∧ (t11 + 1) ≤ (s.Templates.length : Int)) ∧ (ls = mtS s feats (t11 + 1).toNat) ∧ True from ⟨om, (by (rw [hnx, hls, hms]; first | done | rfl | (rw [hel]; unfold mtM; rw [hix]))), trivial⟩) (by first | (show (((s.Templates.length : Int) - (t11 + 1)).toNat : Nat) < ((s.Templates.length : Int) - t11).toNat; omega) | (dsimp only; omega))
    have hie : t11.toNat = s.Templates.length := by omega
    refine x_r [(0, .dec false)] [1, 2, 5, 9, 10, 11, 12] [2, 705] [Zai false feats, .ref 2 0, .arr 705, Zav false s.Templates, I (s.Templates.length : Int), I t11, Bv false] [some (Zdt s), some (Zds ls)] [_] ⟨h1, trivial⟩ ?_
    refine Zad ?_
    refine Zat ?_
    refine Zcd rfl ?_
    refine Zde ?_
    refine Zax ?_
    refine Zbe ?_
    refine Zay ?_
    refine Zad ?_
    refine xR [] [4] [705] [.arr 705] [some (Zds ls)] [] trivial ?_
    refine Zem ?_
    refine Zcl [(7211, 705)] (T := [(4, .arr 7211)]) (O := [(7211, Zds ls)]) rfl (⟨.inl rfl, trivial⟩) (⟨.inl rfl, trivial⟩) ?_
    refine Zcz ls (show (ls = mtS s feats s.Templates.length) ∧ (True) from ⟨(by (rw [hls, hie])), trivial⟩) (⟨.inl rfl, trivial⟩) (.arr 7211) (by kernel_rfl) (.inl rfl) (fun h => by cases h) (fun h => by cases h)
  obtain ⟨ms, ⟨hh0, _⟩, hc⟩ := hh
  exact ⟨ms, hh0, hc⟩
theorem Ydz (s : List Hyp) (hl : s.length ≤ 100000) : ∃ (out : List Hyp), (out = s) ∧ Zbb Tryz.prog 78 [Zbs false s] (Zaf []) false (.arr 8471) (Zaf [(8471, .arr 2 out.length (Ziy out))]) := by
 refine ⟨s, rfl, ?_⟩
 refine Yfn [] [(8471, .arr 2 s.length (Ziy s))] (fn := Tryz.f78) (nt := 8) Tryz.func78 rfl rfl (args := [Zbs false s]) rfl (Zbd (.inl ⟨rfl, Ziz false _⟩) Zdp) (res := .arr 8471) (fun B hB => ?_)
 refine Zah ?_
 refine Zmm [] [0] [] [Zbs false s] [] [] (by kernel_rfl) hB trivial ?_
 refine Zaa ?_
 refine Zah ?_
 refine Zah ?_
 refine Zmm [] [0, 4] [] [Zbs false s, .nilq s.length] [] [] (by kernel_rfl) hB trivial ?_
 refine Zaa ?_
 refine aw_nilq (n := s.length) rfl (fun h1 => ?_) ?_
 ·refine Zah ?_
  refine Zmm [] [2] [] [Zcr] [] [] (by kernel_rfl) hB trivial ?_
  refine Zaa ?_
  refine Zam ?_
  refine Zak ?_
  refine ae_nil hB 2 8471 2 (fun _ => []) (by kernel_rfl) ?_
  refine Zeq hB [] (T := [(2, .arr 8471)]) (O := [(8471, .arr 2 s.length (Ziy s))]) rfl (⟨.inl rfl, trivial⟩) (⟨.inr ⟨rfl, om, fun i_ hi_ => absurd hi_ om⟩, trivial⟩) ?_
  refine Zpw hB [(8471, .arr 2 s.length (Ziy s))] (⟨.inl rfl, trivial⟩) (.arr 8471) (by kernel_rfl) (.inl rfl) (fun h => by cases h) (fun h => by cases h)
 ·refine Zas ?_
  refine Zaa ?_
  refine Zah ?_
  refine Zmm [(0, .new 5), (2, .new 7)] [2] [7] [.arr 7] [some (.arr 2 (0 + s.length) (Zgb 0 (Zgm [] 2) (Ziy s)))] [(0 + s.length) * 24 ≤ 140737488355328] (by kernel_rfl) hB ⟨om, trivial⟩ ?_
  refine Zaa ?_
  refine Zam ?_
  refine Zeq hB [(8471, 7)] (T := [(2, .arr 8471)]) (O := [(8471, .arr 2 s.length (Ziy s))]) rfl (⟨.inl rfl, trivial⟩) (⟨.inr ⟨rfl, (by simp), fun i_ hi_ => .inl (Zps i_)⟩, trivial⟩) ?_
  refine Zpw hB [(8471, .arr 2 s.length (Ziy s))] (⟨.inl rfl, trivial⟩) (.arr 8471) (by kernel_rfl) (.inl rfl) (fun h => by cases h) (fun h => by cases h)
theorem lenU_ok (x : Int) (h : 0 ≤ x ∧ x ≤ 18446744073709551615) : Con Tryz.prog 49 [.val (.int .u64 x)] true (I ((Lib.bitLen x.toNat : Nat) : Int)) := by
 refine Zke (vals := [.int .u64 x]) fun w _ => ?_
 refine (Tryz.bits_Len x w h.1 h.2).mono ?_
 rintro e w' ⟨rfl, rfl⟩
 exact ⟨rfl, Below.refl _ _⟩
theorem Zxm (x : Int) : Con Tryz.prog 97 [I x] true (Bv false) := by
 refine Zbu (fn := Tryz.f97) (nt := 6) Tryz.func97 rfl rfl rfl rfl (by simp [Zag, Zaj]) fun B hB => ?_
 refine aQ [] [0] [] [] hB trivial ?_
 refine aR [(2, .dec false)] [2] [] [Bv false] [] [¬ (x ≠ x)] hB ⟨(fun hq => hq rfl), trivial⟩ ?_
 refine Zam ?_
 refine Zan hB (Bv false) (by kernel_rfl) (.inl rfl) rfl (fun _ => trivial)
theorem Zzt (x : Int) (y : Int) : Con Tryz.prog 51 [I x, I y] true (I (Zfu x y)) := by
  refine Zbu (fn := Tryz.f51) (nt := 20) Tryz.func51 rfl rfl rfl rfl (by simp [Zag, Zaj]) fun B hB => ?_
  refine aQ [] [0, 1] [] [] hB trivial ?_
  refine aQ [(1, .call [(true, .any)] true (Bv false))] [0, 1, 5] [] [_ ∧ True] hB ⟨⟨(Zxm x), trivial⟩, trivial⟩ ?_
  refine aQ [(1, .call [(true, .any)] true (Bv false))] [0, 1, 5, 6] [] [_ ∧ True] hB ⟨⟨(Zxm y), trivial⟩, trivial⟩ ?_
  refine Zah ?_
  refine aQ [] [0, 1, 6, 11] [] [] hB trivial ?_
  refine Zbj ?_
  refine Zas ?_
  refine Zaa ?_
  refine Zah ?_
  refine aQ [] [0, 1, 13] [] [] hB trivial ?_
  refine Zbj ?_
  refine Zas ?_
  refine Zaa ?_
  refine Zah ?_
  refine Zah ?_
  by_cases h1 : x < y
  ·refine Zbm [(2, .dec true)] [0, 1, 16] [] [_] hB ⟨h1, trivial⟩ ?_
   refine Zaa ?_
   refine Zbq ?_
   refine aR [] [4] [] [I (-1)] [] [] hB trivial ?_
   refine Zam ?_
   refine Zak ?_
   refine Zan hB (I (-1)) (by kernel_rfl) (.inl (by refine congrArg I ?_; unfold Zfu; first | (rw [if_pos om]; done) | (rw [if_neg om, if_pos om]; done) | (rw [if_neg om, if_neg om]; done))) rfl (fun _ => trivial)
  refine Zbm [(2, .dec false)] [0, 1, 16] [] [_] hB ⟨h1, trivial⟩ ?_
  refine Zaa ?_
  refine Zbj ?_
  refine Zas ?_
  refine Zaa ?_
  refine Zah ?_
  refine Zah ?_
  by_cases h2 : y < x
  ·refine Zbm [(2, .dec true)] [19] [] [_] hB ⟨h2, trivial⟩ ?_
   refine Zaa ?_
   refine Zbq ?_
   refine aR [] [4] [] [I 1] [] [] hB trivial ?_
   refine Zam ?_
   refine Zak ?_
   refine Zan hB (I 1) (by kernel_rfl) (.inl (by refine congrArg I ?_; unfold Zfu; first | (rw [if_pos om]; done) | (rw [if_neg om, if_pos om]; done) | (rw [if_neg om, if_neg om]; done))) rfl (fun _ => trivial)
  refine Zbm [(2, .dec false)] [19] [] [_] hB ⟨h2, trivial⟩ ?_
  refine Zaa ?_
  refine Zbj ?_
  refine Zas ?_
  refine Zaa ?_
  refine aR [] [4] [] [I 0] [] [] hB trivial ?_
  refine Zam ?_
  refine Zan hB (I 0) (by kernel_rfl) (.inl (by refine congrArg I ?_; unfold Zfu; first | (rw [if_pos om]; done) | (rw [if_neg om, if_pos om]; done) | (rw [if_neg om, if_neg om]; done))) rfl (fun _ => trivial)
theorem Zxn (x : ByteArray) : Con Tryz.prog 98 [Sv x] true (Bv false) := by
 refine Zbu (fn := Tryz.f98) (nt := 6) Tryz.func98 rfl rfl rfl rfl (by simp [Zag, Zaj]) fun B hB => ?_
 refine aQ [] [0] [] [] hB trivial ?_
 refine aR [(2, .dec false)] [2] [] [Bv false] [] [¬ (x ≠ x)] hB ⟨(fun hq => hq rfl), trivial⟩ ?_
 refine Zam ?_
 refine Zan hB (Bv false) (by kernel_rfl) (.inl rfl) rfl (fun _ => trivial)
theorem Zzu (x : ByteArray) (y : ByteArray) : Con Tryz.prog 52 [Sv x, Sv y] true (I (Ziv x y)) := by
  refine Zbu (fn := Tryz.f52) (nt := 20) Tryz.func52 rfl rfl rfl rfl (by simp [Zag, Zaj]) fun B hB => ?_
  refine aQ [] [0, 1] [] [] hB trivial ?_
  refine aQ [(1, .call [(true, .any)] true (Bv false))] [0, 1, 5] [] [_ ∧ True] hB ⟨⟨(Zxn x), trivial⟩, trivial⟩ ?_
  refine aQ [(1, .call [(true, .any)] true (Bv false))] [0, 1, 5, 6] [] [_ ∧ True] hB ⟨⟨(Zxn y), trivial⟩, trivial⟩ ?_
  refine Zah ?_
  refine aQ [] [0, 1, 6, 11] [] [] hB trivial ?_
  refine Zbj ?_
  refine Zas ?_
  refine Zaa ?_
  refine Zah ?_
  refine aQ [] [0, 1, 13] [] [] hB trivial ?_
  refine Zbj ?_
  refine Zas ?_
  refine Zaa ?_
  refine Zah ?_
  refine Zah ?_
  by_cases h1 : Zgc x y = true
  ·refine Zbm [(2, .dec true)] [0, 1, 16] [] [_] hB ⟨h1, trivial⟩ ?_
   refine Zaa ?_
   refine Zbq ?_
   refine aR [] [4] [] [I (-1)] [] [] hB trivial ?_
   refine Zam ?_
   refine Zak ?_
   refine Zan hB (I (-1)) (by kernel_rfl) (.inl (by refine congrArg I ?_; unfold Ziv; first | (rw [if_pos (by assumption)]; done) | (rw [if_neg (by assumption), if_pos (by assumption)]; done) | (rw [if_neg (by assumption), if_neg (by assumption)]; done))) rfl (fun _ => trivial)
  refine Zbm [(2, .dec false)] [0, 1, 16] [] [_] hB ⟨h1, trivial⟩ ?_
  refine Zaa ?_
  refine Zbj ?_
  refine Zas ?_
  refine Zaa ?_
  refine Zah ?_
  refine Zah ?_
  by_cases h2 : Zgc x y = false ∧ x ≠ y
  ·refine Zbm [(2, .dec true)] [19] [] [_] hB ⟨h2, trivial⟩ ?_
   refine Zaa ?_
   refine Zbq ?_
   refine aR [] [4] [] [I 1] [] [] hB trivial ?_
   refine Zam ?_
   refine Zak ?_
   refine Zan hB (I 1) (by kernel_rfl) (.inl (by refine congrArg I ?_; unfold Ziv; first | (rw [if_pos (by assumption)]; done) | (rw [if_neg (by assumption), if_pos (by assumption)]; done) | (rw [if_neg (by assumption), if_neg (by assumption)]; done))) rfl (fun _ => trivial)
  refine Zbm [(2, .dec false)] [19] [] [_] hB ⟨h2, trivial⟩ ?_
  refine Zaa ?_
  refine Zbj ?_
  refine Zas ?_
  refine Zaa ?_
  refine aR [] [4] [] [I 0] [] [] hB trivial ?_
  refine Zam ?_
  refine Zan hB (I 0) (by kernel_rfl) (.inl (by refine congrArg I ?_; unfold Ziv; first | (rw [if_pos (by assumption)]; done) | (rw [if_neg (by assumption), if_pos (by assumption)]; done) | (rw [if_neg (by assumption), if_neg (by assumption)]; done))) rfl (fun _ => trivial)
theorem OrI_ok (vals : List Int) : Con Tryz.prog 50 [slI false vals] true (I (orL vals)) := by
  refine Zbu (fn := Tryz.f50) (nt := 18) Tryz.func50 rfl rfl rfl rfl (by simp [Zag, Zaj, tagI]) fun B hB => ?_
  refine Zbt (x := slI false vals) 0 rfl (fun len_vals => ?_)
  simp [Zdk, Zgf, cI, fI, slI] at len_vals
  refine aQ [] [0] [] [] hB trivial ?_
  refine aQ [] [0, 3] [] [] hB trivial ?_
  refine Zah ?_
  refine aR [] [3, 6, 7, 8] [] [I 0, slI false vals, I (vals.length : Int), I 0] [] [] hB trivial ?_
  refine Zau ?_
  refine Zcn (fun gn gσ => ∃ (t8 : Int), gn = ((vals.length : Int) - t8).toNat ∧ (0 ≤ t8 ∧ t8 ≤ (vals.length : Int)) ∧ (∀ j : Nat, (j : Int) < t8 → at_ vals j = 0) ∧ gσ = mkS [(3, I 0), (6, slI false vals), (7, I (vals.length : Int)), (8, I t8)] []) (((vals.length : Int) - 0).toNat) ⟨0, rfl, om, (by intro j hj; omega), rfl⟩ (fun gn gσ hI => ?_)
  obtain ⟨t8, rfl, hi0, hz0, rfl⟩ := hI
  refine Zah ?_
  by_cases h1 : t8 < (vals.length : Int)
  ·have hi : t8.toNat < vals.length := by omega
   refine Zbm [(0, .dec true)] [3, 6, 7, 8, 9] [] [_] hB ⟨h1, trivial⟩ ?_
   refine Zaa ?_
   refine Zah ?_
   refine Zbq ?_
   refine Zas ?_
   refine Zaa ?_
   refine Zah ?_
   refine Zau ?_
   refine aQ [] [3, 5, 6, 7, 8] [] [(0 : Int) ≤ t8 ∧ t8 < (vals.length : Int)] hB ⟨⟨om, om⟩, trivial⟩ ?_
   refine Zah ?_
   by_cases h2 : (at_ vals t8.toNat) = 0
   ·refine Zbm [(2, .dec false)] [3, 5, 6, 7, 8, 14] [] [¬ ((at_ vals t8.toNat) ≠ 0)] hB ⟨(fun hq => hq h2), trivial⟩ ?_
    refine Zaa ?_
    refine Zbj ?_
    refine Zas ?_
    refine Zba 1 ?_
    refine Zaa ?_
    refine Zdg [] [3, 6, 7, 8] [] [I 0, slI false vals, I (vals.length : Int), I (t8 + 1)] [] [inR .i64 (t8 + 1)] hB ⟨(Zac om om), trivial⟩ ?_
    exact Zbf _ om ⟨(t8 + 1), rfl, om, (by intro j hj; by_cases ej : j = t8.toNat; (subst ej; assumption); exact hz0 j om), rfl⟩
   refine Zbm [(2, .dec true)] [3, 5, 6, 7, 8, 14] [] [_] hB ⟨h2, trivial⟩ ?_
   refine Zaa ?_
   refine Zbq ?_
   refine aR [] [2] [] [I (at_ vals t8.toNat)] [] [] hB trivial ?_
   refine Zam ?_
   refine Zao (Zak (Zak (Zao (Zak ?_))))
   refine Zan hB (I (at_ vals t8.toNat)) (by kernel_rfl) (.inl (by refine congrArg I ?_; first | (rw [Zva (fun j hj => hz0 j om)]; done) | (rw [Zxo hi (fun j hj => hz0 j om) (by assumption)]; done) | (rw [Zxo hi (fun j hj => hz0 j om) (by assumption)]))) rfl (fun _ => trivial)
  refine Zbm [(0, .dec false)] [3, 6, 7, 8, 9] [] [_] hB ⟨h1, trivial⟩ ?_
  refine Zaa ?_
  refine Zah ?_
  refine Zbj ?_
  refine Zcj ?_
  refine Zal ?_
  refine Zal ?_
  refine Zaw ?_
  refine Zaa ?_
  refine aR [] [2] [] [I 0] [] [] hB trivial ?_
  refine Zam ?_
  refine Zan hB (I 0) (by kernel_rfl) (.inl (by refine congrArg I ?_; first | (rw [Zva (fun j hj => hz0 j om)]; done) | (rw [Zxo hi (fun j hj => hz0 j om) (by assumption)]; done) | (rw [Zxo hi (fun j hj => hz0 j om) (by assumption)]))) rfl (fun _ => trivial)
theorem Zlj (a : Hyp) (b : Hyp) : Con Tryz.prog 80 [Zld a, Zld b] true (I (Zet a b)) := by
 refine Zbu (fn := Tryz.f80) (nt := 17) Tryz.func80 rfl rfl rfl rfl (by simp [Zag, Zaj]) fun B hB => ?_
 refine aQ [(0, .new 2), (1, .new 3)] [2, 3] [2, 3] [] hB trivial ?_
 refine aR [(4, .call [(true, .any), (true, .any)] true (I (Zfu a.Cost b.Cost))), (9, .call [(true, .any), (true, .any)] true (I (Ziv a.Label b.Label))), (10, .new 15), (11, .call [(false, slI false ([(Zfu a.Cost b.Cost), (Ziv a.Label b.Label)]))] true (I (orL ([(Zfu a.Cost b.Cost), (Ziv a.Label b.Label)]))))] [4] [] [I (orL ([(Zfu a.Cost b.Cost), (Ziv a.Label b.Label)]))] [] [_ ∧ True, _ ∧ True, _ ∧ ((false = true → true = true) ∧ 1 = 1 ∧ 2 = (([(Zfu a.Cost b.Cost), (Ziv a.Label b.Label)]).length) ∧ ∀ i_, i_ < (([(Zfu a.Cost b.Cost), (Ziv a.Label b.Label)]).length) → (Zgm [I (Zfu a.Cost b.Cost), I (Ziv a.Label b.Label)] 1) i_ = (fI ([(Zfu a.Cost b.Cost), (Ziv a.Label b.Label)])) i_ ∨ (AV.idsL ((fI ([(Zfu a.Cost b.Cost), (Ziv a.Label b.Label)])) i_) = [] ∧ leL (fun _ => none) false ((Zgm [I (Zfu a.Cost b.Cost), I (Ziv a.Label b.Label)] 1) i_) ((fI ([(Zfu a.Cost b.Cost), (Ziv a.Label b.Label)])) i_))) ∧ True] hB ⟨⟨(Zzt a.Cost b.Cost), trivial⟩, ⟨(Zzu a.Label b.Label), trivial⟩, ⟨(OrI_ok ([(Zfu a.Cost b.Cost), (Ziv a.Label b.Label)])), ⟨(fun h => by cases h), rfl, (by first | rfl | (simp; done) | (simp; omega) | omega), fun i_ hi_ => .inl (match i_, hi_ with | 0, _ => rfl | 1, _ => rfl | (i + 2), h => absurd h (by simp))⟩, trivial⟩, trivial⟩ ?_
 refine Zam ?_
 refine Zan hB (I (orL ([(Zfu a.Cost b.Cost), (Ziv a.Label b.Label)]))) (by kernel_rfl) (.inl (by rfl)) rfl (fun _ => trivial)
theorem Zsp (g : Hyp) (h : Hyp) : Con Tryz.prog 82 [Zld g, .ptr false [Sv h.Label, I h.Cost]] true (Bv (decide (g.Label = h.Label))) := by
 refine Zbu (fn := Tryz.f82) (nt := 9) Tryz.func82 rfl rfl rfl rfl (by simp [Zag, Zaj]) fun B hB => ?_
 refine aQ [(0, .new 2)] [1, 2] [2] [] hB trivial ?_
 refine aR [] [3] [] [Bv (decide (g.Label = h.Label))] [] [] hB trivial ?_
 refine Zam ?_
 refine Zan hB (Bv (decide (g.Label = h.Label))) (by kernel_rfl) (.inl rfl) rfl (fun _ => trivial)
theorem Yhm (data : List Hyp) (a : Int) (b : Int) (hb : a = 0 ∧ b = (data.length : Int)) (hl : data.length < 20) : ∃ (data' : List Hyp), (data' = Zfv Zet data data.length) ∧ Zbb Tryz.prog 161 [.arr 8471, I a, I b, .fn 80 []] (Zaf [(8471, Zbz data)]) true (.tup []) (Zaf [(8471, Zbz data')]) := by
  have hh : ∃ r : (List Hyp), ((r = Zfv Zet data data.length) ∧ (True)) ∧ Zbb Tryz.prog 161 [.arr 8471, I a, I b, .fn 80 []] (Zaf [(8471, Zbz data)]) true (.tup []) (Zaf [(8471, Zbz r)]) := by
    refine Zdv (Φ := fun r : (List Hyp) => (r = Zfv Zet data data.length) ∧ (True)) [(8471, Zbz data)] (fun r => [(8471, Zbz r)]) (fn := Tryz.f161) (nt := 53) Tryz.func161 rfl rfl (args := [.arr 8471, I a, I b, .fn 80 []]) rfl (Zbd (.inr trivial) (Zbd (.inl ⟨rfl, trivial⟩) (Zbd (.inl ⟨rfl, trivial⟩) (Zbd (.inl ⟨rfl, trivial⟩) Zdp)))) (res := fun r => .tup []) ?_
    refine xR [] [0, 1, 2, 3, 8] [8471] [.arr 8471, I a, I b, .fn 80 [], I (a + 1)] [some (Zbz data)] [inR .i64 (a + 1)] ⟨(Zac om om), trivial⟩ ?_
    refine Zbn ?_
    refine Zeb (X := Int × (List Hyp)) (fun x => mkS [(0, .arr 8471), (1, I a), (2, I b), (3, .fn 80 []), (8, I x.1)] [(8471, Zbz x.2)]) (fun x => (1 ≤ x.1 ∧ (x.1 ≤ (data.length : Int) ∨ x.1 = 1)) ∧ (x.2 = Zfv Zet data (min x.1.toNat data.length) ++ data.drop x.1.toNat) ∧ True) (fun x => ((data.length : Int) - x.1).toNat) ((a + 1), data) rfl (show (1 ≤ (a + 1) ∧ ((a + 1) ≤ (data.length : Int) ∨ (a + 1) = 1)) ∧ (data = Zfv Zet data (min (a + 1).toNat data.length) ++ data.drop (a + 1).toNat) ∧ True from ⟨om, (by first | exact Zxp _ _ | (rw [show (a + 1).toNat = 1 from by omega]; exact Zxp _ _)), trivial⟩) (fun x hI => ?_)
    obtain ⟨i, ys⟩ := x
    obtain ⟨hi0, hys, _⟩ : (1 ≤ i ∧ (i ≤ (data.length : Int) ∨ i = 1)) ∧ (ys = Zfv Zet data (min i.toNat data.length) ++ data.drop i.toNat) ∧ True := hI
    show XW _ _ _ _ (mkS [(0, .arr 8471), (1, I a), (2, I b), (3, .fn 80 []), (8, I i)] [(8471, Zbz ys)]) _ _
    refine Zat ?_
    refine Zat ?_
    by_cases h1 : i < b
    ·have hi : i.toNat < data.length := by omega
     have hmi : min i.toNat data.length = i.toNat := by omega
     rw [hmi, iso_in hi] at hys
     have hpl := Zhm Zet data i.toNat
     have hyl : ys.length = data.length := by rw [hys, List.length_append, Zns om, List.length_drop, hpl]; omega
     refine x_q [(2, .dec true)] [0, 1, 2, 3, 8, 14] [8471] [_] ⟨h1, trivial⟩ ?_
     refine Zad ?_
     refine Zfl ?_
     refine Zbv ?_
     refine Zad ?_
     refine Zat ?_
     refine Zbn ?_
     refine xR [] [0, 1, 2, 3, 8, 9] [8471] [.arr 8471, I a, I b, .fn 80 [], I i, I i] [some (Zbz ys)] [] trivial ?_
     refine Zbn ?_
     refine Zeb (X := Int × (List Hyp)) (fun x => mkS [(0, .arr 8471), (1, I a), (2, I b), (3, .fn 80 []), (8, I i), (9, I x.1)] [(8471, Zbz x.2)]) (fun x => (0 ≤ x.1 ∧ x.1 ≤ i) ∧ (x.2 = Zoo (Zfv Zet data i.toNat) (at_ data i.toNat) x.1.toNat ++ data.drop (i.toNat + 1)) ∧ (∀ k : Nat, x.1 ≤ (k : Int) → (k : Int) < i → Zet (at_ data i.toNat) (at_ (Zfv Zet data i.toNat) k) < 0) ∧ True) (fun x => x.1.toNat) (i, ys) rfl (show (0 ≤ i ∧ i ≤ i) ∧ (ys = Zoo (Zfv Zet data i.toNat) (at_ data i.toNat) i.toNat ++ data.drop (i.toNat + 1)) ∧ (∀ k : Nat, i ≤ (k : Int) → (k : Int) < i → Zet (at_ data i.toNat) (at_ (Zfv Zet data i.toNat) k) < 0) ∧ True from ⟨om, (by first | exact hys | (rw [hys]; done)), (by intro k h1 h2; omega), trivial⟩) (fun x hI => ?_)
     obtain ⟨j, ys'⟩ := x
     obtain ⟨hj0, hin, hgt, _⟩ : (0 ≤ j ∧ j ≤ i) ∧ (ys' = Zoo (Zfv Zet data i.toNat) (at_ data i.toNat) j.toNat ++ data.drop (i.toNat + 1)) ∧ (∀ k : Nat, j ≤ (k : Int) → (k : Int) < i → Zet (at_ data i.toNat) (at_ (Zfv Zet data i.toNat) k) < 0) ∧ True := hI
     show XW _ _ _ _ (mkS [(0, .arr 8471), (1, I a), (2, I b), (3, .fn 80 []), (8, I i), (9, I j)] [(8471, Zbz ys')]) _ _
     refine Zat ?_
     refine Zat ?_
     by_cases h2 : a < j
     ·have hyl' : ys'.length = data.length := by rw [hin, List.length_append, Zns om, List.length_drop, hpl]; omega
      have e1 : at_ ys' j.toNat = (at_ data i.toNat) := by rw [hin]; exact shf_at om
      have e2 : at_ ys' (j - 1).toNat = at_ (Zfv Zet data i.toNat) (j.toNat - 1) := by rw [hin, Zqp om om]; congr 1; omega
      by_cases h3 : (Zet (at_ ys' j.toNat) (at_ ys' ((j - 1).toNat))) < 0
      ·have hq := h3
       rw [e1, e2] at hq
       have hst : (ys'.set j.toNat (at_ ys' (j - 1).toNat)).set (j - 1).toNat (at_ ys' j.toNat) = Zoo (Zfv Zet data i.toNat) (at_ data i.toNat) (j - 1).toNat ++ data.drop (i.toNat + 1) := by have q := shf_step (p := (Zfv Zet data i.toNat)) (x := (at_ data i.toNat)) (r := data.drop (i.toNat + 1)) (j := (j - 1).toNat) om; rw [show (j - 1).toNat + 1 = j.toNat from by omega] at q; rw [e1, e2, hin, ← q, show j.toNat - 1 = (j - 1).toNat from by omega]
       have hgn : ∀ k : Nat, j - 1 ≤ (k : Int) → (k : Int) < i → Zet (at_ data i.toNat) (at_ (Zfv Zet data i.toNat) k) < 0 := fun k h1 h2 => by by_cases e : (k : Int) = j - 1; (rw [show k = j.toNat - 1 from by omega]; exact hq); exact hgt k om h2
       refine x_q [(2, .dec true), (14, .call [(true, .any), (true, .any)] true (I (Zet (at_ ys' j.toNat) (at_ ys' ((j - 1).toNat))))), (15, .dec true)] [0, 1, 2, 3, 8, 9, 34] [8471] [_, (0 : Int) ≤ j ∧ j < (ys'.length : Int), j.toNat < ys'.length, inR .i64 (j - 1), (0 : Int) ≤ (j - 1) ∧ (j - 1) < (ys'.length : Int), (j - 1).toNat < ys'.length, _ ∧ True, _] ⟨h2, ⟨om, om⟩, om, (Zac om om), ⟨om, om⟩, om, ⟨(Zlj (at_ ys' j.toNat) (at_ ys' ((j - 1).toNat))), trivial⟩, h3, trivial⟩ ?_
       refine Zad ?_
       refine Zfl ?_
       refine Zbv ?_
       refine Zad ?_
       refine Zat ?_
       refine Zbn ?_
       refine x_q [] [0, 1, 2, 3, 8, 9] [8471] [inR .i64 (j - 1), inR .i64 (j - 1), (0 : Int) ≤ (j - 1) ∧ (j - 1) < (ys'.length : Int), (j - 1).toNat < ys'.length, (0 : Int) ≤ j ∧ j < (ys'.length : Int), j.toNat < ys'.length, (0 : Int) ≤ j ∧ j < (ys'.length : Int), j.toNat < ys'.length, (0 : Int) ≤ (j - 1) ∧ (j - 1) < (ys'.length : Int), (j - 1).toNat < ys'.length] ⟨(Zac om om), (Zac om om), ⟨om, om⟩, om, ⟨om, om⟩, om, ⟨om, om⟩, om, ⟨om, om⟩, om, trivial⟩ ?_
       refine Zbo 3 ?_
       refine Zad ?_
       refine x_r [] [0, 1, 2, 3, 8, 9] [8471] [.arr 8471, I a, I b, .fn 80 [], I i, I (j - 1)] [some (.arr 2 ys'.length (fun q => bif Nat.beq q ((j - 1).toNat) then spl ((fun q => bif Nat.beq q j.toNat then [Sv ((at_ ys' ((j - 1).toNat)).Label), I ((at_ ys' ((j - 1).toNat)).Cost)] else (Ziy ys') q) ((j - 1).toNat)) 0 [Sv ((at_ ys' j.toNat).Label), I ((at_ ys' j.toNat).Cost)] else (fun q => bif Nat.beq q j.toNat then [Sv ((at_ ys' ((j - 1).toNat)).Label), I ((at_ ys' ((j - 1).toNat)).Cost)] else (Ziy ys') q) q))] [inR .i64 (j - 1)] ⟨(Zac om om), trivial⟩ ?_
       refine Zcl [] (T := [(0, .arr 8471), (1, I a), (2, I b), (3, .fn 80 []), (8, I i), (9, I (j - 1))]) (O := [(8471, Zbz ((ys'.set j.toNat (at_ ys' ((j - 1).toNat))).set ((j - 1).toNat) (at_ ys' j.toNat)))]) rfl (⟨.inl rfl, .inl rfl, .inl rfl, .inl rfl, .inl rfl, .inl rfl, trivial⟩) (⟨.inr ⟨rfl, (by first | rfl | (simp; done) | (simp; omega) | omega), fun i_ hi_ => .inl (upd_spl (enc := Zsb) (fun i_ hi_ => (Zpq (enc := Zsb) rfl i_ hi_)) ((by first | omega | (simp only [List.length_set]; omega))) rfl i_ hi_)⟩, trivial⟩) (Zbh ((j - 1), ((ys'.set j.toNat (at_ ys' ((j - 1).toNat))).set ((j - 1).toNat) (at_ ys' j.toNat))) rfl (show (0 ≤ (j - 1) ∧ (j - 1) ≤ i) ∧ (((ys'.set j.toNat (at_ ys' ((j - 1).toNat))).set ((j - 1).toNat) (at_ ys' j.toNat)) = Zoo (Zfv Zet data i.toNat) (at_ data i.toNat) (j - 1).toNat ++ data.drop (i.toNat + 1)) ∧ (∀ k : Nat, (j - 1) ≤ (k : Int) → (k : Int) < i → Zet (at_ data i.toNat) (at_ (Zfv Zet data i.toNat) k) < 0) ∧ True from ⟨om, (by exact hst), (by exact hgn), trivial⟩) (by first | (show ((j - 1).toNat : Nat) < j.toNat; omega) | (dsimp only; omega)))
      have hq := h3
      rw [e1, e2] at hq
      have hio := Yhn (c := Zet) (xs := data) (i := i.toNat) (j := j.toNat) om (fun k h1 h2 => hgt k om om) (Or.inr hq)
      rw [hio] at hin
      refine x_r [(2, .dec true), (14, .call [(true, .any), (true, .any)] true (I (Zet (at_ ys' j.toNat) (at_ ys' ((j - 1).toNat))))), (15, .dec false)] [0, 1, 2, 3, 8, 9, 34] [8471] [.arr 8471, I a, I b, .fn 80 [], I i, I j, Bv false] [some (Zbz ys')] [_, (0 : Int) ≤ j ∧ j < (ys'.length : Int), j.toNat < ys'.length, inR .i64 (j - 1), (0 : Int) ≤ (j - 1) ∧ (j - 1) < (ys'.length : Int), (j - 1).toNat < ys'.length, _ ∧ True, _] ⟨h2, ⟨om, om⟩, om, (Zac om om), ⟨om, om⟩, om, ⟨(Zlj (at_ ys' j.toNat) (at_ ys' ((j - 1).toNat))), trivial⟩, h3, trivial⟩ ?_
      refine Zad ?_
      refine Zcd rfl ?_
      refine Zde ?_
      refine Zax ?_
      refine Zbe ?_
      refine Zay ?_
      refine Zbo 1 ?_
      refine Zad ?_
      refine x_r [] [0, 1, 2, 3, 8] [8471] [.arr 8471, I a, I b, .fn 80 [], I (i + 1)] [some (Zbz ys')] [inR .i64 (i + 1)] ⟨(Zac om om), trivial⟩ ?_
      exact Zbh ((i + 1), ys') rfl (show (1 ≤ (i + 1) ∧ ((i + 1) ≤ (data.length : Int) ∨ (i + 1) = 1)) ∧ (ys' = Zfv Zet data (min (i + 1).toNat data.length) ++ data.drop (i + 1).toNat) ∧ True from ⟨om, (by rw [hin, show (i + 1).toNat = i.toNat + 1 from by omega, show min (i.toNat + 1) data.length = i.toNat + 1 from by omega]), trivial⟩) (by first | (show (((data.length : Int) - (i + 1)).toNat : Nat) < ((data.length : Int) - i).toNat; omega) | (dsimp only; omega))
     have hio := Yhn (c := Zet) (xs := data) (i := i.toNat) (j := j.toNat) om (fun k h1 h2 => hgt k om om) (Or.inl om)
     rw [hio] at hin
     refine x_r [(2, .dec false)] [0, 1, 2, 3, 8, 9, 34] [8471] [.arr 8471, I a, I b, .fn 80 [], I i, I j, Bv false] [some (Zbz ys')] [_] ⟨h2, trivial⟩ ?_
     refine Zad ?_
     refine Zcd rfl ?_
     refine Zde ?_
     refine Zax ?_
     refine Zbe ?_
     refine Zay ?_
     refine Zbo 1 ?_
     refine Zad ?_
     refine x_r [] [0, 1, 2, 3, 8] [8471] [.arr 8471, I a, I b, .fn 80 [], I (i + 1)] [some (Zbz ys')] [inR .i64 (i + 1)] ⟨(Zac om om), trivial⟩ ?_
     exact Zbh ((i + 1), ys') rfl (show (1 ≤ (i + 1) ∧ ((i + 1) ≤ (data.length : Int) ∨ (i + 1) = 1)) ∧ (ys' = Zfv Zet data (min (i + 1).toNat data.length) ++ data.drop (i + 1).toNat) ∧ True from ⟨om, (by rw [hin, show (i + 1).toNat = i.toNat + 1 from by omega, show min (i.toNat + 1) data.length = i.toNat + 1 from by omega]), trivial⟩) (by first | (show (((data.length : Int) - (i + 1)).toNat : Nat) < ((data.length : Int) - i).toNat; omega) | (dsimp only; omega))
    have hyf : ys = Zfv Zet data data.length := by rw [hys, show min i.toNat data.length = data.length from by omega, List.drop_eq_nil_of_le om, List.append_nil]
    refine x_r [(2, .dec false)] [0, 1, 2, 3, 8, 14] [8471] [.arr 8471, I a, I b, .fn 80 [], I i, Bv false] [some (Zbz ys)] [_] ⟨h1, trivial⟩ ?_
    refine Zad ?_
    refine Zcd rfl ?_
    refine Zde ?_
    refine Zax ?_
    refine Zbe ?_
    refine Zay ?_
    refine Yfl ys (show (ys = Zfv Zet data data.length) ∧ (True) from ⟨(by exact hyf), trivial⟩) (⟨.inl rfl, trivial⟩) (.tup []) (by kernel_rfl) (.inl rfl) (fun _ => rfl) (fun _ => (by simp [Zaj, Zag]))
  obtain ⟨data', ⟨hh0, _⟩, hc⟩ := hh
  exact ⟨data', hh0, hc⟩
theorem Yho (data : List Hyp) (a : Int) (b : Int) (limit : Int) (hb : a = 0 ∧ b = (data.length : Int)) (hl : data.length ≤ 12) : ∃ (data' : List Hyp), (data' = Zfv Zet data data.length) ∧ Zbb Tryz.prog 124 [.arr 8471, I a, I b, I limit, .fn 80 []] (Zaf [(8471, Zbz data)]) true (.tup []) (Zaf [(8471, Zbz data')]) := by
 have hh : ∃ r : (List Hyp), ((r = Zfv Zet data data.length) ∧ (True)) ∧ Zbb Tryz.prog 124 [.arr 8471, I a, I b, I limit, .fn 80 []] (Zaf [(8471, Zbz data)]) true (.tup []) (Zaf [(8471, Zbz r)]) := by
  refine Zdv (Φ := fun r : (List Hyp) => (r = Zfv Zet data data.length) ∧ (True)) [(8471, Zbz data)] (fun r => [(8471, Zbz r)]) (fn := Tryz.f124) (nt := 148) Tryz.func124 rfl rfl (args := [.arr 8471, I a, I b, I limit, .fn 80 []]) rfl (Zbd (.inr trivial) (Zbd (.inl ⟨rfl, trivial⟩) (Zbd (.inl ⟨rfl, trivial⟩) (Zbd (.inl ⟨rfl, trivial⟩) (Zbd (.inl ⟨rfl, trivial⟩) Zdp))))) (res := fun r => .tup []) ?_
  refine xQ [] [0, 1, 2, 3, 4, 10] [8471] [] trivial ?_
  refine xR [] [0, 1, 2, 3, 4, 10, 11] [8471] [.arr 8471, I a, I b, I limit, .fn 80 [], Bv true, Bv true] [some (Zbz data)] [] trivial ?_
  refine Zbn ?_
  refine Zeb (X := Int × Int × Int × Bool × Bool) (fun x => mkS [(0, .arr 8471), (1, I x.1), (2, I x.2.1), (3, I x.2.2.1), (4, .fn 80 []), (10, Bv x.2.2.2.1), (11, Bv x.2.2.2.2)] [(8471, Zbz data)]) (fun x => (x.1 = 0 ∧ x.2.1 = (data.length : Int)) ∧ True) (fun x => (0 : Nat)) (a, b, limit, true, true) rfl (show (a = 0 ∧ b = (data.length : Int)) ∧ True from ⟨om, trivial⟩) (fun x hI => ?_)
  obtain ⟨a', b', limit', wasBalanced, wasPartitioned⟩ := x
  obtain ⟨hab, _⟩ : (a' = 0 ∧ b' = (data.length : Int)) ∧ True := hI
  show XW _ _ _ _ (mkS [(0, .arr 8471), (1, I a'), (2, I b'), (3, I limit'), (4, .fn 80 []), (10, Bv wasBalanced), (11, Bv wasPartitioned)] [(8471, Zbz data)]) _ _
  refine Zbn ?_
  refine xQ [] [0, 1, 2, 3, 4, 10, 11, 12] [8471] [inR .i64 (b' - a')] ⟨(Zac om om), trivial⟩ ?_
  refine Zat ?_
  refine xQ [(1, .dec true)] [0, 1, 2, 3, 4, 10, 11, 12, 25] [8471] [(b' - a') ≤ 12] ⟨om, trivial⟩ ?_
  refine Zfl ?_
  refine Zat ?_
  obtain ⟨data'_1, hx1_0, hc1⟩ := Yhm data a' b' (by first | omega | (subst_vars; omega)) (by first | omega | (subst_vars; omega))
  refine x_r [(4, .lend [(8471, Zbz data, Zbz data'_1)] [] [(true, .any), (true, .any), (true, .any), (true, .any)] true (.tup []))] [] [8471] [] [some (Zbz data'_1)] [Zbb Tryz.prog 161 [.arr 8471, I a', I b', .fn 80 []] (Zaf [(8471, Zbz data)]) true (.tup []) (Zaf [(8471, Zbz data'_1)]) ∧ (((Zbz data : Ob) = Zbz data ∨ Zhk Zgd true (Zbz data) (Zbz data)) ∧ Zbc false (Zbz data)) ∧ True] ⟨⟨hc1, ⟨.inl rfl, fun _ _ => Zvb false _⟩, trivial⟩, trivial⟩ ?_
  refine Zad ?_
  refine Zem ?_
  refine Zff (Zfy (Zlp (Zfy ?_)))
  refine Zcz data'_1 (show (data'_1 = Zfv Zet data data.length) ∧ (True) from ⟨(by assumption), trivial⟩) (⟨.inl rfl, trivial⟩) (.tup []) (by kernel_rfl) (.inl rfl) (fun _ => rfl) (fun _ => (by simp [Zaj, Zag]))
 obtain ⟨data', ⟨hh0, _⟩, hc⟩ := hh
 exact ⟨data', hh0, hc⟩
theorem Yea (data : List Hyp) (hl : data.length ≤ 12) : ∃ (data' : List Hyp), (data' = Zfv Zet data data.length) ∧ Zbb Tryz.prog 79 [.arr 8471, .fn 80 []] (Zaf [(8471, Zbz data)]) true (.tup []) (Zaf [(8471, Zbz data')]) := by
 have hh : ∃ r : (List Hyp), ((r = Zfv Zet data data.length) ∧ (True)) ∧ Zbb Tryz.prog 79 [.arr 8471, .fn 80 []] (Zaf [(8471, Zbz data)]) true (.tup []) (Zaf [(8471, Zbz r)]) := by
  refine Zdv (Φ := fun r : (List Hyp) => (r = Zfv Zet data data.length) ∧ (True)) [(8471, Zbz data)] (fun r => [(8471, Zbz r)]) (fn := Tryz.f79) (nt := 14) Tryz.func79 rfl rfl (args := [.arr 8471, .fn 80 []]) rfl (Zbd (.inr trivial) (Zbd (.inl ⟨rfl, trivial⟩) Zdp)) (res := fun r => .tup []) ?_
  refine xQ [] [0, 1, 4] [8471] [] trivial ?_
  obtain ⟨data'_1, hx1_0, hc1⟩ := Yho data 0 (data.length : Int) ((Lib.bitLen (data.length : Int).toNat : Nat) : Int) (by first | omega | (subst_vars; omega)) (by first | omega | (subst_vars; omega))
  refine x_r [(4, .call [(true, .any)] true (I ((Lib.bitLen (data.length : Int).toNat : Nat) : Int))), (6, .lend [(8471, Zbz data, Zbz data'_1)] [] [(true, .any), (true, .any), (true, .any), (true, .any), (true, .any)] true (.tup []))] [] [8471] [] [some (Zbz data'_1)] [inR .u64 (data.length : Int), _ ∧ True, Zbb Tryz.prog 124 [.arr 8471, I 0, I (data.length : Int), I ((Lib.bitLen (data.length : Int).toNat : Nat) : Int), .fn 80 []] (Zaf [(8471, Zbz data)]) true (.tup []) (Zaf [(8471, Zbz data'_1)]) ∧ (((Zbz data : Ob) = Zbz data ∨ Zhk Zgd true (Zbz data) (Zbz data)) ∧ Zbc false (Zbz data)) ∧ True] ⟨(Zpx om om), ⟨(lenU_ok (data.length : Int) om), trivial⟩, ⟨hc1, ⟨.inl rfl, fun _ _ => Zvb false _⟩, trivial⟩, trivial⟩ ?_
  refine Yfl data'_1 (show (data'_1 = Zfv Zet data data.length) ∧ (True) from ⟨(by first | assumption | omega), trivial⟩) (⟨.inl rfl, trivial⟩) (.tup []) (by kernel_rfl) (.inl rfl) (fun _ => rfl) (fun _ => (by simp [Zaj, Zag]))
 obtain ⟨data', ⟨hh0, _⟩, hc⟩ := hh
 exact ⟨data', hh0, hc⟩
theorem Zxq (s : List Hyp) (h : Hyp) : Con Tryz.prog 125 [Zbs false s, .fn 82 [.ptr false [Sv h.Label, I h.Cost]]] true (I (Zer s.length (fun j => decide ((at_ s j).Label = h.Label)))) := by
  refine Zbu (fn := Tryz.f125) (nt := 19) Tryz.func125 rfl rfl rfl rfl (by simp [Zag, Zaj, Ziz]) fun B hB => ?_
  refine Zbt (x := Zbs false s) 0 rfl (fun len_s => ?_)
  simp [Zdk, Zgf, Zsb, Ziy, Zbs] at len_s
  refine aQ [] [0, 1] [] [] hB trivial ?_
  refine Zah ?_
  refine aR [] [0, 1, 7, 8] [] [Zbs false s, .fn 82 [.ptr false [Sv h.Label, I h.Cost]], I (s.length : Int), I 0] [] [] hB trivial ?_
  refine Zau ?_
  refine Zcn (fun gn gσ => ∃ (t8 : Int), gn = ((s.length : Int) - t8).toNat ∧ (0 ≤ t8 ∧ t8 ≤ (s.length : Int)) ∧ (∀ j : Nat, (j : Int) < t8 → decide ((at_ s j).Label = h.Label) = false) ∧ gσ = mkS [(0, Zbs false s), (1, .fn 82 [.ptr false [Sv h.Label, I h.Cost]]), (7, I (s.length : Int)), (8, I t8)] []) (((s.length : Int) - 0).toNat) ⟨0, rfl, om, (by intro j hj; omega), rfl⟩ (fun gn gσ hI => ?_)
  obtain ⟨t8, rfl, hi0, hall0, rfl⟩ := hI
  refine Zah ?_
  by_cases h1 : t8 < (s.length : Int)
  ·have hi : t8.toNat < s.length := by omega
   refine Zbm [(0, .dec true)] [0, 1, 7, 8, 9] [] [_] hB ⟨h1, trivial⟩ ?_
   refine Zaa ?_
   refine Zah ?_
   refine Zbq ?_
   refine Zas ?_
   refine Zaa ?_
   refine Zah ?_
   refine Zau ?_
   refine aQ [] [0, 1, 5, 7, 8] [] [] hB trivial ?_
   refine Zah ?_
   rcases Bool.eq_false_or_eq_true (decide ((at_ s t8.toNat).Label = h.Label)) with h2 | h2
   ·have hfin : Zer s.length (fun j => decide ((at_ s j).Label = h.Label)) = t8.toNat := Zkw hi h2 (fun j hj => hall0 j om)
    refine Zbm [(5, .call [(true, .any), (true, .any)] true (Bv true))] [0, 1, 5, 7, 8, 16] [] [(0 : Int) ≤ t8 ∧ t8 < (s.length : Int), Con Tryz.prog 82 [Zld (at_ s t8.toNat), .ptr false [Sv h.Label, I h.Cost]] true (Bv true) ∧ True] hB ⟨⟨om, om⟩, ⟨(Zap h2 (Zsp (at_ s t8.toNat) h)), trivial⟩, trivial⟩ ?_
    refine Zaa ?_
    refine Zbq ?_
    refine aR [] [4] [] [I t8] [] [] hB trivial ?_
    refine Zam ?_
    refine Zao (Zak (Zak (Zao (Zak ?_))))
    refine Zan hB (I t8) (by kernel_rfl) (.inl (by refine congrArg I ?_; first | (rw [hfin]; done) | (rw [hfin]; omega))) rfl (fun _ => trivial)
   refine Zbm [(5, .call [(true, .any), (true, .any)] true (Bv false))] [0, 1, 5, 7, 8, 16] [] [(0 : Int) ≤ t8 ∧ t8 < (s.length : Int), Con Tryz.prog 82 [Zld (at_ s t8.toNat), .ptr false [Sv h.Label, I h.Cost]] true (Bv false) ∧ True] hB ⟨⟨om, om⟩, ⟨(Zap h2 (Zsp (at_ s t8.toNat) h)), trivial⟩, trivial⟩ ?_
   refine Zaa ?_
   refine Zbj ?_
   refine Zas ?_
   refine Zba 1 ?_
   refine Zaa ?_
   refine Zdg [] [0, 1, 7, 8] [] [Zbs false s, .fn 82 [.ptr false [Sv h.Label, I h.Cost]], I (s.length : Int), I (t8 + 1)] [] [inR .i64 (t8 + 1)] hB ⟨(Zac om om), trivial⟩ ?_
   exact Zbf _ om ⟨(t8 + 1), rfl, om, (by intro j hj; by_cases ej : j = t8.toNat; (subst ej; first | assumption | rfl); exact hall0 j om), rfl⟩
  have hfin : Zer s.length (fun j => decide ((at_ s j).Label = h.Label)) = -1 := Zif (fun j hj => hall0 j om)
  refine Zbm [(0, .dec false)] [0, 1, 7, 8, 9] [] [_] hB ⟨h1, trivial⟩ ?_
  refine Zaa ?_
  refine Zah ?_
  refine Zbj ?_
  refine Zcj ?_
  refine Zal ?_
  refine Zal ?_
  refine Zaw ?_
  refine Zaa ?_
  refine aR [] [4] [] [I (-1)] [] [] hB trivial ?_
  refine Zam ?_
  refine Zan hB (I (-1)) (by kernel_rfl) (.inl (by refine congrArg I ?_; first | (rw [hfin]; done) | (rw [hfin]; omega))) rfl (fun _ => trivial)
theorem Ycf (s : List Hyp) (h : Hyp) : Con Tryz.prog 81 [Zbs false s, .fn 82 [.ptr false [Sv h.Label, I h.Cost]]] true (Bv (Zvc s.length (fun j => decide ((at_ s j).Label = h.Label)))) := by
 refine Zbu (fn := Tryz.f81) (nt := 9) Tryz.func81 rfl rfl rfl rfl (by simp [Zag, Zaj, Ziz]) fun B hB => ?_
 refine Zbt (x := Zbs false s) 0 rfl (fun len_s => ?_)
 simp [Zdk, Zgf, Zsb, Ziy, Zbs] at len_s
 refine aQ [] [0, 1] [] [] hB trivial ?_
 refine aR [(2, .call [(true, .any), (true, .any)] true (I (Zer s.length (fun j => decide ((at_ s j).Label = h.Label)))))] [4] [] [Bv (decide (0 ≤ (Zer s.length (fun j => decide ((at_ s j).Label = h.Label)))))] [] [_ ∧ True] hB ⟨⟨(Zxq s h), trivial⟩, trivial⟩ ?_
 refine Zam ?_
 refine Zan hB (Bv (decide (0 ≤ (Zer s.length (fun j => decide ((at_ s j).Label = h.Label)))))) (by kernel_rfl) (.inl (by exact congrArg Bv (Znt _ _))) rfl (fun _ => trivial)
theorem Yhp (list : List Hyp) (most : Int) (hl : list.length ≤ 12) : ∃ (v : List Hyp), (v = Zph most list) ∧ Con Tryz.prog 44 [Zbs false list, I most] true (Zbs true v) := by
  have hh : ∃ r : (List Hyp), ((r = Zph most list) ∧ (True)) ∧ Zbb Tryz.prog 44 [Zbs false list, I most] (Zaf []) true (Zbs true r) (Zaf []) := by
    refine Zdv (Φ := fun r : (List Hyp) => (r = Zph most list) ∧ (True)) [] (fun r => []) (fn := Tryz.f44) (nt := 35) Tryz.func44 rfl rfl (args := [Zbs false list, I most]) rfl (Zbd (.inl ⟨rfl, Ziz false _⟩) (Zbd (.inl ⟨rfl, trivial⟩) Zdp)) (res := fun r => Zbs true r) ?_
    refine xQ [] [0, 1] [] [] trivial ?_
    refine Zat ?_
    obtain ⟨out_1, hx1_0, hc1⟩ := Ydz list om
    refine x_q [(1, .lend [] [(8471, Zbz out_1)] [(true, .any)] false (.arr 8471))] [1, 5] [8471] [Zbb Tryz.prog 78 [Zbs false list] (Zaf []) false (.arr 8471) (Zaf [(8471, Zbz out_1)]) ∧ True] ⟨⟨hc1, trivial⟩, trivial⟩ ?_
    refine Zad ?_
    refine Zat ?_
    obtain ⟨data'_2, hx2_0, hc2⟩ := Yea out_1 (by first | omega | (simp only [*]; omega) | (rw [hx1_0]; omega))
    have hsl : data'_2.length = list.length := by rw [hx2_0, Zhm]; simp [*]
    have hsd : data'_2 = Zfv Zet list list.length := by rw [hx2_0]; simp only [*]
    refine x_q [(1, .lend [(8471, Zbz out_1, Zbz data'_2)] [] [(true, .any), (true, .any)] true (.tup []))] [1, 5] [8471] [Zbb Tryz.prog 79 [.arr 8471, .fn 80 []] (Zaf [(8471, Zbz out_1)]) true (.tup []) (Zaf [(8471, Zbz data'_2)]) ∧ (((Zbz out_1 : Ob) = Zbz out_1 ∨ Zhk Zgd true (Zbz out_1) (Zbz out_1)) ∧ Zbc false (Zbz out_1)) ∧ True] ⟨⟨hc2, ⟨.inl rfl, fun _ _ => Zvb false _⟩, trivial⟩, trivial⟩ ?_
    refine Zad ?_
    refine xQ [] [1, 5, 6] [8471] [] trivial ?_
    refine Zat ?_
    refine xR [] [1, 6, 13, 14, 15] [8471] [I most, Zcr, .arr 8471, I (data'_2.length : Int), I 0] [some (Zbz data'_2)] [] trivial ?_
    refine Zbn ?_
    refine Yfk 6 706 2 (fun _ => []) (by kernel_rfl) ?_
    refine Zcw [] (T := [(1, I most), (6, .arr 706), (13, .arr 8471), (14, I (data'_2.length : Int)), (15, I 0)]) (O := [(706, Zbz ([] : List Hyp)), (8471, Zbz data'_2)]) rfl (⟨.inl rfl, .inl rfl, .inl rfl, .inl rfl, .inl rfl, trivial⟩) (⟨.inr ⟨rfl, (by first | rfl | (simp; done) | (simp; omega) | omega), fun i_ hi_ => absurd hi_ (Nat.not_lt_zero _)⟩, .inl rfl, trivial⟩) ?_
    refine Zeb (X := (List Hyp) × Int) (fun x => mkS [(1, I most), (6, .arr 706), (13, .arr 8471), (14, I (data'_2.length : Int)), (15, I x.2)] [(706, Zbz x.1), (8471, Zbz data'_2)]) (fun x => (0 ≤ x.2 ∧ x.2 ≤ (list.length : Int)) ∧ (x.1 = Zda most data'_2 x.2.toNat) ∧ True) (fun x => ((list.length : Int) - x.2).toNat) (([] : List Hyp), 0) rfl (show (0 ≤ (0 : Int) ∧ (0 : Int) ≤ (list.length : Int)) ∧ (([] : List Hyp) = Zda most data'_2 (0 : Int).toNat) ∧ True from ⟨om, (by rfl), trivial⟩) (fun x hI => ?_)
    obtain ⟨out, t15⟩ := x
    obtain ⟨hi0, hou, _⟩ : (0 ≤ t15 ∧ t15 ≤ (list.length : Int)) ∧ (out = Zda most data'_2 t15.toNat) ∧ True := hI
    show XW _ _ _ _ (mkS [(1, I most), (6, .arr 706), (13, .arr 8471), (14, I (data'_2.length : Int)), (15, I t15)] [(706, Zbz out), (8471, Zbz data'_2)]) _ _
    refine Zat ?_
    by_cases h1 : t15 < (data'_2.length : Int)
    ·have hi : t15.toNat < data'_2.length := by omega
     have hol : out.length ≤ t15.toNat := by rw [hou]; exact Zmv most data'_2 _
     refine x_q [(0, .dec true)] [1, 6, 13, 14, 15, 16] [706, 8471] [_] ⟨h1, trivial⟩ ?_
     refine Zad ?_
     refine Zat ?_
     refine Zfl ?_
     refine Zbv ?_
     refine Zad ?_
     refine Zat ?_
     refine Zbn ?_
     refine xQ [(2, .new 8)] [1, 6, 8, 13, 14, 15] [8, 706, 8471] [(0 : Int) ≤ t15 ∧ t15 < (data'_2.length : Int), t15.toNat < data'_2.length] ⟨⟨om, om⟩, om, trivial⟩ ?_
     refine Zat ?_
     by_cases h2 : (out.length : Int) < most
     ·have hms := h2
      rcases Bool.eq_false_or_eq_true (Zvc out.length (fun j => decide ((at_ out j).Label = (at_ data'_2 t15.toNat).Label))) with h3 | h3
      ·have hst := pick_n (most := most) (xs := data'_2) (k := t15) om (fun q => by have q2 := q.2; rw [← hou] at q2; unfold Zop at q2; rw [h3] at q2; cases q2)
       refine x_q [(3, .dec true), (7, .call [(false, Zbs false out), (false, .fn 82 [.ptr false [Sv ((at_ data'_2 t15.toNat).Label), I ((at_ data'_2 t15.toNat).Cost)]])] true (Bv true))] [1, 6, 8, 13, 14, 15, 28] [8, 706, 8471] [_, Con Tryz.prog 81 [Zbs false out, .fn 82 [.ptr false [Sv ((at_ data'_2 t15.toNat).Label), I ((at_ data'_2 t15.toNat).Cost)]]] true (Bv true) ∧ ((false = true → true = true) ∧ 2 = 2 ∧ out.length = out.length ∧ ∀ i_, i_ < out.length → (Ziy out) i_ = (Ziy out) i_ ∨ (AV.idsL ((Ziy out) i_) = [] ∧ leL (fun _ => none) false ((Ziy out) i_) ((Ziy out) i_))) ∧ (82 = 82 ∧ ((false = true → true = true) ∧ AV.idsL [Sv ((at_ data'_2 t15.toNat).Label), I ((at_ data'_2 t15.toNat).Cost)] = [] ∧ (Zen (Sv ((at_ data'_2 t15.toNat).Label)) = Zen (Sv ((at_ data'_2 t15.toNat).Label))) ∧ (Zen (I ((at_ data'_2 t15.toNat).Cost)) = Zen (I ((at_ data'_2 t15.toNat).Cost))) ∧ ([] : List AV) = []) ∧ ([] : List AV) = []) ∧ True] ⟨h2, ⟨(Zap h3 (Ycf out (at_ data'_2 t15.toNat))), ⟨(fun h => by cases h), rfl, rfl, fun i _ => .inl rfl⟩, ⟨rfl, ⟨⟨(fun h => by cases h), rfl, ⟨rfl, ⟨rfl, rfl⟩⟩⟩, rfl⟩⟩, trivial⟩, trivial⟩ ?_
       refine Zad ?_
       refine Zkr ?_
       refine Zbv ?_
       refine Zbo 1 ?_
       refine Zad ?_
       refine x_r [] [1, 6, 13, 14, 15] [706, 8471] [I most, .arr 706, .arr 8471, I (data'_2.length : Int), I (t15 + 1)] [some (Zbz out), some (Zbz data'_2)] [inR .i64 (t15 + 1)] ⟨(Zac om om), trivial⟩ ?_
       exact Zbh (out, (t15 + 1)) rfl (show (0 ≤ (t15 + 1) ∧ (t15 + 1) ≤ (list.length : Int)) ∧ (out = Zda most data'_2 (t15 + 1).toNat) ∧ True from ⟨om, (by (rw [hst, ← hou])), trivial⟩) (by first | (show (((list.length : Int) - (t15 + 1)).toNat : Nat) < ((list.length : Int) - t15).toNat; omega) | (dsimp only; omega))
      have hst := pick_y (most := most) (xs := data'_2) (k := t15) om (by rw [← hou]; exact hms) (by rw [← hou]; exact h3)
      refine x_q [(3, .dec true), (7, .call [(false, Zbs false out), (false, .fn 82 [.ptr false [Sv ((at_ data'_2 t15.toNat).Label), I ((at_ data'_2 t15.toNat).Cost)]])] true (Bv false))] [1, 6, 8, 13, 14, 15, 28] [8, 706, 8471] [_, Con Tryz.prog 81 [Zbs false out, .fn 82 [.ptr false [Sv ((at_ data'_2 t15.toNat).Label), I ((at_ data'_2 t15.toNat).Cost)]]] true (Bv false) ∧ ((false = true → true = true) ∧ 2 = 2 ∧ out.length = out.length ∧ ∀ i_, i_ < out.length → (Ziy out) i_ = (Ziy out) i_ ∨ (AV.idsL ((Ziy out) i_) = [] ∧ leL (fun _ => none) false ((Ziy out) i_) ((Ziy out) i_))) ∧ (82 = 82 ∧ ((false = true → true = true) ∧ AV.idsL [Sv ((at_ data'_2 t15.toNat).Label), I ((at_ data'_2 t15.toNat).Cost)] = [] ∧ (Zen (Sv ((at_ data'_2 t15.toNat).Label)) = Zen (Sv ((at_ data'_2 t15.toNat).Label))) ∧ (Zen (I ((at_ data'_2 t15.toNat).Cost)) = Zen (I ((at_ data'_2 t15.toNat).Cost))) ∧ ([] : List AV) = []) ∧ ([] : List AV) = []) ∧ True] ⟨h2, ⟨(Zap h3 (Ycf out (at_ data'_2 t15.toNat))), ⟨(fun h => by cases h), rfl, rfl, fun i _ => .inl rfl⟩, ⟨rfl, ⟨⟨(fun h => by cases h), rfl, ⟨rfl, ⟨rfl, rfl⟩⟩⟩, rfl⟩⟩, trivial⟩, trivial⟩ ?_
      refine Zad ?_
      refine Zfl ?_
      refine x_q [(2, .new 31), (3, .new 32)] [1, 6, 13, 14, 15] [32, 8471] [(out.length + 1) * 24 ≤ 140737488355328] ⟨om, trivial⟩ ?_
      refine Zbo 1 ?_
      refine Zad ?_
      refine x_r [] [1, 6, 13, 14, 15] [32, 8471] [I most, .arr 32, .arr 8471, I (data'_2.length : Int), I (t15 + 1)] [some (.arr 2 (out.length + 1) (Zgb out.length (Ziy out) (Zgm [Sv ((at_ data'_2 t15.toNat).Label), I ((at_ data'_2 t15.toNat).Cost)] 2))), some (Zbz data'_2)] [inR .i64 (t15 + 1)] ⟨(Zac om om), trivial⟩ ?_
      refine Zcl [(706, 32)] (T := [(1, I most), (6, .arr 706), (13, .arr 8471), (14, I (data'_2.length : Int)), (15, I (t15 + 1))]) (O := [(706, Zbz (out ++ [(at_ data'_2 t15.toNat)])), (8471, Zbz data'_2)]) rfl (⟨.inl rfl, .inl rfl, .inl rfl, .inl rfl, .inl rfl, trivial⟩) (⟨.inr ⟨rfl, (by first | rfl | (simp; done) | (simp; omega) | omega), fun i_ hi_ => .inl (Zcm (enc := Zsb) (xs := out) rfl i_ hi_)⟩, .inl rfl, trivial⟩) (Zbh ((out ++ [(at_ data'_2 t15.toNat)]), (t15 + 1)) rfl (show (0 ≤ (t15 + 1) ∧ (t15 + 1) ≤ (list.length : Int)) ∧ ((out ++ [(at_ data'_2 t15.toNat)]) = Zda most data'_2 (t15 + 1).toNat) ∧ True from ⟨om, (by (rw [hst, ← hou])), trivial⟩) (by first | (show (((list.length : Int) - (t15 + 1)).toNat : Nat) < ((list.length : Int) - t15).toNat; omega) | (dsimp only; omega)))
     have hst := pick_n (most := most) (xs := data'_2) (k := t15) om (fun q => by rw [← hou] at q; omega)
     refine x_q [(3, .dec false)] [1, 6, 8, 13, 14, 15, 28] [8, 706, 8471] [_] ⟨h2, trivial⟩ ?_
     refine Zad ?_
     refine Zkr ?_
     refine Zbv ?_
     refine Zbo 1 ?_
     refine Zad ?_
     refine x_r [] [1, 6, 13, 14, 15] [706, 8471] [I most, .arr 706, .arr 8471, I (data'_2.length : Int), I (t15 + 1)] [some (Zbz out), some (Zbz data'_2)] [inR .i64 (t15 + 1)] ⟨(Zac om om), trivial⟩ ?_
     exact Zbh (out, (t15 + 1)) rfl (show (0 ≤ (t15 + 1) ∧ (t15 + 1) ≤ (list.length : Int)) ∧ (out = Zda most data'_2 (t15 + 1).toNat) ∧ True from ⟨om, (by (rw [hst, ← hou])), trivial⟩) (by first | (show (((list.length : Int) - (t15 + 1)).toNat : Nat) < ((list.length : Int) - t15).toNat; omega) | (dsimp only; omega))
    have hie : t15.toNat = data'_2.length := by omega
    refine x_r [(0, .dec false)] [1, 6, 13, 14, 15, 16] [706, 8471] [I most, .arr 706, .arr 8471, I (data'_2.length : Int), I t15, Bv false] [some (Zbz out), some (Zbz data'_2)] [_] ⟨h1, trivial⟩ ?_
    refine Zad ?_
    refine Zat ?_
    refine Zcd rfl ?_
    refine Zde ?_
    refine Zax ?_
    refine Zbe ?_
    refine Zay ?_
    refine Zad ?_
    refine xR [] [4] [706] [.arr 706] [some (Zbz out)] [] trivial ?_
    refine Zem ?_
    refine Zcz out (show (out = Zph most list) ∧ (True) from ⟨(by (unfold Zph; rw [hou, hie, hsl, hsd])), trivial⟩) (trivial) (.arr 706) (by kernel_rfl) (.inr ⟨(fun _ => rfl), rfl, rfl, fun i _ => .inl rfl⟩) (fun _ => rfl) (fun _ => (Ziz true _))
  obtain ⟨v, ⟨hh0, _⟩, hc⟩ := hh
  exact ⟨v, hh0, hc⟩
theorem Zvd (s : Store) (ik : Ink) (t : Setting) (hst : Zbw s = true) (ok : Zbp ik = true) (hset : Zfa t = true) (h12 : s.Templates.length ≤ 12) (hsk : 1 ≤ ik.Strokes.length) (h72 : (ik.Strokes.length : Int) * t.Points ≤ 72) : ∃ (v : List Hyp), (v = Zlh s ik t) ∧ Con Tryz.prog 18 [Zfb s, .agg [Zae false ik.Strokes], Zeg t] true (Zbs true v) := by
  have hil := Zgp ok
  have hse := Zhy.1 hset
  have hpb := Zyx (ik := ik) hse.2.2 om
  have hfe := fe_72 ok hse.1 hsk h72
  have okf := hfe.2
  have hs40 := (Zea.1 hst).2.1
  have hh : ∃ r : (List Hyp), ((r = Zlh s ik t) ∧ (True)) ∧ Zbb Tryz.prog 18 [Zfb s, .agg [Zae false ik.Strokes], Zeg t] (Zaf []) true (Zbs true r) (Zaf []) := by
    refine Zdv (Φ := fun r : (List Hyp) => (r = Zlh s ik t) ∧ (True)) [] (fun r => []) (fn := Tryz.f18) (nt := 55) Tryz.func18 rfl rfl (args := [Zfb s, .agg [Zae false ik.Strokes], Zeg t]) rfl (Zbd (.inl ⟨rfl, by simp [Zaj, Zag, Zdz]⟩) (Zbd (.inl ⟨rfl, by simp [Zaj, Zag, Zck]⟩) (Zbd (.inl ⟨rfl, by simp [Zaj, Zag]⟩) Zdp))) (res := fun r => Zbs true r) ?_
    refine xQ [(0, .new 3), (1, .new 4), (2, .new 5)] [3, 4, 5] [3, 4, 5] [] trivial ?_
    refine xQ [(3, .call [(true, .any), (true, .any)] true (.tup [Zai true ((feR ik t.Points).1), I ((feR ik t.Points).2)]))] [3, 4, 5, 7] [3, 4, 5] [_ ∧ True] ⟨⟨(Zru ik t.Points), trivial⟩, trivial⟩ ?_
    refine xQ [] [3, 5, 7, 9] [3, 5] [inR .i64 ((ik.Strokes.length : Int) - 1), inR .i64 (t.Pen * ((ik.Strokes.length : Int) - 1))] ⟨(Zac om om), (Zac om om), trivial⟩ ?_
    refine xQ [] [3, 5, 7, 9, 10] [3, 5] [] trivial ?_
    refine Zat ?_
    refine Zat ?_
    obtain ⟨ms_1, hx1_0, hc1⟩ := Zxk s ((feR ik t.Points).1) hst okf om
    have hms := hx1_0
    have hml := Zng s (feR ik t.Points).1 s.Templates.length
    rw [← hms] at hml
    refine x_r [(2, .lend [] [(7211, Zds ms_1)] [(true, .any), (false, Zai false ((feR ik t.Points).1))] false (.arr 7211))] [3, 5, 9, 10, 29, 30, 31] [3, 5, 7211] [.ref 3 0, .ref 5 0, I (t.Pen * ((ik.Strokes.length : Int) - 1)), Zcr, .arr 7211, I (ms_1.length : Int), I 0] [some (Zdt s), some (Zcu t), some (Zds ms_1)] [Zbb Tryz.prog 43 [Zfb s, Zai false ((feR ik t.Points).1)] (Zaf []) false (.arr 7211) (Zaf [(7211, Zds ms_1)]) ∧ ((false = true → true = true) ∧ 3 = 3 ∧ (((feR ik t.Points).1).length) = (((feR ik t.Points).1).length) ∧ ∀ i_, i_ < (((feR ik t.Points).1).length) → (Zez ((feR ik t.Points).1)) i_ = (Zez ((feR ik t.Points).1)) i_ ∨ (AV.idsL ((Zez ((feR ik t.Points).1)) i_) = [] ∧ leL (fun _ => none) false ((Zez ((feR ik t.Points).1)) i_) ((Zez ((feR ik t.Points).1)) i_))) ∧ True] ⟨⟨hc1, ⟨(fun h => by cases h), rfl, rfl, fun i _ => .inl rfl⟩, trivial⟩, trivial⟩ ?_
    refine Zad ?_
    refine Zbn ?_
    refine Yfk 10 710 2 (fun _ => []) (by kernel_rfl) ?_
    refine Zcw [] (T := [(3, .ref 3 0), (5, .ref 5 0), (9, I (t.Pen * ((ik.Strokes.length : Int) - 1))), (10, .arr 710), (29, .arr 7211), (30, I (ms_1.length : Int)), (31, I 0)]) (O := [(3, Zdt s), (5, Zcu t), (710, Zbz ([] : List Hyp)), (7211, Zds ms_1)]) rfl (⟨.inl rfl, .inl rfl, .inl rfl, .inl rfl, .inl rfl, .inl rfl, .inl rfl, trivial⟩) (⟨.inl rfl, .inl rfl, .inr ⟨rfl, (by first | rfl | (simp; done) | (simp; omega) | omega), fun i_ hi_ => absurd hi_ (Nat.not_lt_zero _)⟩, .inl rfl, trivial⟩) ?_
    refine Zeb (X := (List Hyp) × Int) (fun x => mkS [(3, .ref 3 0), (5, .ref 5 0), (9, I (t.Pen * ((ik.Strokes.length : Int) - 1))), (10, .arr 710), (29, .arr 7211), (30, I (ms_1.length : Int)), (31, I x.2)] [(3, Zdt s), (5, Zcu t), (710, Zbz x.1), (7211, Zds ms_1)]) (fun x => (0 ≤ x.2 ∧ x.2 ≤ (ms_1.length : Int)) ∧ (x.1 = (ms_1.take x.2.toNat).map (Yev s (Zyy ik t))) ∧ True) (fun x => ((ms_1.length : Int) - x.2).toNat) (([] : List Hyp), 0) rfl (show (0 ≤ (0 : Int) ∧ (0 : Int) ≤ (ms_1.length : Int)) ∧ (([] : List Hyp) = (ms_1.take (0 : Int).toNat).map (Yev s (Zyy ik t))) ∧ True from ⟨om, (by rfl), trivial⟩) (fun x hI => ?_)
    obtain ⟨list, t31⟩ := x
    obtain ⟨hi0, hls, _⟩ : (0 ≤ t31 ∧ t31 ≤ (ms_1.length : Int)) ∧ (list = (ms_1.take t31.toNat).map (Yev s (Zyy ik t))) ∧ True := hI
    show XW _ _ _ _ (mkS [(3, .ref 3 0), (5, .ref 5 0), (9, I (t.Pen * ((ik.Strokes.length : Int) - 1))), (10, .arr 710), (29, .arr 7211), (30, I (ms_1.length : Int)), (31, I t31)] [(3, Zdt s), (5, Zcu t), (710, Zbz list), (7211, Zds ms_1)]) _ _
    refine Zat ?_
    by_cases h1 : t31 < (ms_1.length : Int)
    ·have hi : t31.toNat < ms_1.length := by omega
     obtain ⟨jj, hj1, hj2, hj3⟩ := Zpt (s := s) (fs := (feR ik t.Points).1) (k := s.Templates.length) (by rw [← hms]; exact Zdf hi)
     have hix : (at_ ms_1 t31.toNat).Index = (jj : Int) := by rw [hj3]; rfl
     have hcv := Yfe okf ((Zea.1 hst).2.2 jj hj1) hj2
     have hcst : (at_ ms_1 t31.toNat).Cost = (mtM s (feR ik t.Points).1 jj).Cost := by rw [hj3]
     have hll : list.length = t31.toNat := by rw [hls]; simp; omega
     refine x_q [(0, .dec true)] [3, 5, 9, 10, 29, 30, 31, 32] [3, 5, 710, 7211] [_] ⟨h1, trivial⟩ ?_
     refine Zad ?_
     refine Zat ?_
     refine Zfl ?_
     refine Zbv ?_
     refine Zad ?_
     refine Zat ?_
     refine Zbn ?_
     refine xQ [(2, .new 12)] [3, 5, 9, 10, 12, 29, 30, 31] [3, 5, 12, 710, 7211] [(0 : Int) ≤ t31 ∧ t31 < (ms_1.length : Int), t31.toNat < ms_1.length] ⟨⟨om, om⟩, om, trivial⟩ ?_
     refine x_q [(13, .new 48), (14, .new 49)] [3, 5, 9, 10, 29, 30, 31] [3, 5, 49, 7211] [(0 : Int) ≤ ((at_ ms_1 t31.toNat).Index) ∧ ((at_ ms_1 t31.toNat).Index) < (s.Templates.length : Int), inR .i64 (((at_ ms_1 t31.toNat).Cost) + (t.Pen * ((ik.Strokes.length : Int) - 1))), (list.length + 1) * 24 ≤ 140737488355328] ⟨⟨om, om⟩, (Zac om om), om, trivial⟩ ?_
     refine Zbo 1 ?_
     refine Zad ?_
     refine x_r [] [3, 5, 9, 10, 29, 30, 31] [3, 5, 49, 7211] [.ref 3 0, .ref 5 0, I (t.Pen * ((ik.Strokes.length : Int) - 1)), .arr 49, .arr 7211, I (ms_1.length : Int), I (t31 + 1)] [some (Zdt s), some (Zcu t), some (.arr 2 (list.length + 1) (Zgb list.length (Ziy list) (Zgm [Sv ((at_ s.Templates (((at_ ms_1 t31.toNat).Index).toNat)).Label), I (((at_ ms_1 t31.toNat).Cost) + (t.Pen * ((ik.Strokes.length : Int) - 1)))] 2))), some (Zds ms_1)] [inR .i64 (t31 + 1)] ⟨(Zac om om), trivial⟩ ?_
     refine Zcl [(710, 49)] (T := [(3, .ref 3 0), (5, .ref 5 0), (9, I (t.Pen * ((ik.Strokes.length : Int) - 1))), (10, .arr 710), (29, .arr 7211), (30, I (ms_1.length : Int)), (31, I (t31 + 1))]) (O := [(3, Zdt s), (5, Zcu t), (710, Zbz (list ++ [(Hyp.mk ((at_ s.Templates (((at_ ms_1 t31.toNat).Index).toNat)).Label) (((at_ ms_1 t31.toNat).Cost) + (t.Pen * ((ik.Strokes.length : Int) - 1))))])), (7211, Zds ms_1)]) rfl (⟨.inl rfl, .inl rfl, .inl rfl, .inl rfl, .inl rfl, .inl rfl, .inl rfl, trivial⟩) (⟨.inl rfl, .inl rfl, .inr ⟨rfl, (by first | rfl | (simp; done) | (simp; omega) | omega), fun i_ hi_ => .inl (Zcm (enc := Zsb) (xs := list) rfl i_ hi_)⟩, .inl rfl, trivial⟩) (Zbh ((list ++ [(Hyp.mk ((at_ s.Templates (((at_ ms_1 t31.toNat).Index).toNat)).Label) (((at_ ms_1 t31.toNat).Cost) + (t.Pen * ((ik.Strokes.length : Int) - 1))))]), (t31 + 1)) rfl (show (0 ≤ (t31 + 1) ∧ (t31 + 1) ≤ (ms_1.length : Int)) ∧ ((list ++ [(Hyp.mk ((at_ s.Templates (((at_ ms_1 t31.toNat).Index).toNat)).Label) (((at_ ms_1 t31.toNat).Cost) + (t.Pen * ((ik.Strokes.length : Int) - 1))))]) = (ms_1.take (t31 + 1).toNat).map (Yev s (Zyy ik t))) ∧ True from ⟨om, (by rw [hls]; exact (Zkq om hi rfl).symm), trivial⟩) (by first | (show (((ms_1.length : Int) - (t31 + 1)).toNat : Nat) < ((ms_1.length : Int) - t31).toNat; omega) | (dsimp only; omega)))
    have hfin : list = Ybb s ik t := by rw [hls, hms]; exact Zzv (by rw [← hms]; omega)
    have hfl : list.length ≤ 12 := by rw [hfin]; unfold Ybb; rw [List.length_map]; exact Nat.le_trans (Zng _ _ _) h12
    refine x_r [(0, .dec false)] [3, 5, 9, 10, 29, 30, 31, 32] [3, 5, 710, 7211] [.ref 3 0, .ref 5 0, I (t.Pen * ((ik.Strokes.length : Int) - 1)), .arr 710, .arr 7211, I (ms_1.length : Int), I t31, Bv false] [some (Zdt s), some (Zcu t), some (Zbz list), some (Zds ms_1)] [_] ⟨h1, trivial⟩ ?_
    refine Zad ?_
    refine Zat ?_
    refine Zcd rfl ?_
    refine Zde ?_
    refine Zax ?_
    refine Zbe ?_
    refine Zay ?_
    refine Zad ?_
    refine Zat ?_
    obtain ⟨v_2, hx2_0, hc2⟩ := Yhp list t.Most hfl
    refine x_r [(3, .call [(false, Zbs false list), (true, .any)] true (Zbs true v_2))] [6] [] [Zbs true v_2] [] [_ ∧ ((false = true → true = true) ∧ 2 = 2 ∧ list.length = list.length ∧ ∀ i_, i_ < list.length → (Ziy list) i_ = (Ziy list) i_ ∨ (AV.idsL ((Ziy list) i_) = [] ∧ leL (fun _ => none) false ((Ziy list) i_) ((Ziy list) i_))) ∧ True] ⟨⟨hc2, ⟨(fun h => by cases h), rfl, rfl, fun i _ => .inl rfl⟩, trivial⟩, trivial⟩ ?_
    refine Zad ?_
    refine Zem ?_
    refine Zcz v_2 (show (v_2 = Zlh s ik t) ∧ (True) from ⟨(by (unfold Zlh; rw [← hfin]; assumption)), trivial⟩) (trivial) (Zbs true v_2) (by kernel_rfl) (.inl rfl) (fun _ => rfl) (fun _ => (Ziz true _))
  obtain ⟨v, ⟨hh0, _⟩, hc⟩ := hh
  exact ⟨v, hh0, hc⟩
theorem Zoy {a b : Hyp} : Zet a b < 0 ↔ a.Cost < b.Cost ∨ (a.Cost = b.Cost ∧ Zgc a.Label b.Label = true) := by
 rw [Zqq]
 by_cases h : Zfu a.Cost b.Cost = 0
 ·rw [if_pos h, Zkx]; rw [Zfg] at h
  exact ⟨fun q => .inr ⟨h, q⟩, fun q => q.elim (fun q => by omega) fun q => q.2⟩
 ·rw [if_neg h, Zpi]; rw [Zfg] at h
  exact ⟨fun q => .inl q, fun q => q.elim id fun q => absurd q.1 h⟩
def Zsc (xs : List Hyp) : Prop := xs.length ≤ 8 ∧ (∀ i : Nat, i < xs.length → Zco (at_ xs i).Label = true ∧ 0 ≤ (at_ xs i).Cost ∧ (at_ xs i).Cost ≤ 1000000) ∧ (xs.Pairwise fun x y => Zet x y < 0) ∧ xs.Pairwise fun x y => x.Label ≠ y.Label
def bytesL (s : ByteArray) : List Int := s.data.toList.map fun b => (b.toNat : Int)
@[simp] theorem bytesL_len (s : ByteArray) : (bytesL s).length = s.size := by unfold bytesL; rw [List.length_map, Array.length_toList]; rfl
theorem mem_atT {α : Type} [Inhabited α] {xs : List α} {x : α} (h : x ∈ xs) : ∃ i, i < xs.length ∧ at_ xs i = x := by
 obtain ⟨i, hi, e⟩ := List.getElem_of_mem h
 exact ⟨i, hi, by rw [Zej hi]; exact e⟩
theorem Yhq {a b : Hyp} (h1 : a.Label = b.Label) (h2 : a.Cost = b.Cost) : a = b := by cases a; cases b; simp_all
theorem Yfg {s : Store} (h : Zbw s = true) : Zpo s := fun t ht => by
 obtain ⟨i, hi, rfl⟩ := mem_atT ht
 have q := (Zea.1 h).2.2 i hi
 simp only [Zfn, Zco, Bool.and_eq_true, decide_eq_true_eq] at q
 unfold Zjf; omega
theorem Zjg {xs : List Hyp} {l : ByteArray} : Zop xs l = true ↔ ∃ h ∈ xs, h.Label = l := by
 unfold Zop
 rw [anyN_iff]
 constructor
 ·rintro ⟨j, hj, h⟩; exact ⟨_, Zdf hj, of_decide_eq_true h⟩
 ·rintro ⟨h, hm, e⟩
  obtain ⟨j, hj, q⟩ := List.getElem_of_mem hm
  exact ⟨j, hj, decide_eq_true (by rw [Zej hj, q]; exact e)⟩
theorem Zma (most : Int) (xs : List Hyp) (k : Nat) : (Zda most xs (k + 1) = Zda most xs k ++ [at_ xs k] ∧ ((Zda most xs k).length : Int) < most ∧ Zop (Zda most xs k) (at_ xs k).Label = false) ∨ (Zda most xs (k + 1) = Zda most xs k ∧ ¬ (((Zda most xs k).length : Int) < most ∧ Zop (Zda most xs k) (at_ xs k).Label = false)) := by
 by_cases h : ((Zda most xs k).length : Int) < most ∧ Zop (Zda most xs k) (at_ xs k).Label = false
 ·exact .inl ⟨if_pos h, h⟩
 ·exact .inr ⟨if_neg h, h⟩
theorem Ycg (most : Int) (xs : List Hyp) : ∀ k, k ≤ xs.length → List.Sublist (Zda most xs k) (xs.take k)
 | 0, _ => by simp [Zda]
 | k + 1, h => by
  have ih := Ycg most xs k om
  rw [List.take_succ_eq_append_getElem om, ← Zej om]
  rcases Zma most xs k with q | q
  ·rw [q.1]; exact ih.append (List.Sublist.refl _)
  ·rw [q.1]; exact ih.trans (List.sublist_append_left _ _)
theorem Yhr (most : Int) (xs : List Hyp) (hm : 0 ≤ most) : ∀ k, ((Zda most xs k).length : Int) ≤ most
 | 0 => by simpa [Zda] using hm
 | k + 1 => by
  have ih := Yhr most xs hm k
  rcases Zma most xs k with q | q
  ·rw [q.1, List.length_append]; simp; omega
  ·rw [q.1]; exact ih
theorem Zve (most : Int) (xs : List Hyp) : ∀ k, (Zda most xs k).Pairwise fun x y => x.Label ≠ y.Label
 | 0 => by simp [Zda]
 | k + 1 => by
  have ih := Zve most xs k
  rcases Zma most xs k with q | q
  ·rw [q.1, List.pairwise_append]
   refine ⟨ih, by simp, fun a ha b hb => ?_⟩
   rw [List.mem_singleton] at hb
   subst hb
   intro e
   have := Zjg.2 ⟨a, ha, e⟩
   rw [q.2.2] at this; cases this
  ·rw [q.1]; exact ih
theorem Yhs (most : Int) (xs : List Hyp) (k : Nat) : (∀ h ∈ Zda most xs k, h ∈ Zda most xs (k + 1)) ∧ (Zda most xs k).length ≤ (Zda most xs (k + 1)).length := by
 rcases Zma most xs k with q | q
 ·rw [q.1]; exact ⟨fun h hh => List.mem_append_left _ hh, by simp⟩
 ·rw [q.1]; exact ⟨fun h hh => hh, Nat.le_refl _⟩
theorem Zpj (most : Int) (xs : List Hyp) : ∀ k j, j < k → ((Zda most xs k).length : Int) < most → Zop (Zda most xs k) (at_ xs j).Label = true
 | 0, j, h, _ => absurd h (Nat.not_lt_zero _)
 | k + 1, j, h, hl => by
  have g := Yhs most xs k
  by_cases e : j = k
  ·subst e
   rcases Zma most xs j with q | q
   ·exact Zjg.2 ⟨at_ xs j, by rw [q.1]; simp, rfl⟩
   ·rw [q.1] at hl ⊢
    cases hq : Zop (Zda most xs j) (at_ xs j).Label with
    | true => rfl
    | false => exact absurd ⟨hl, hq⟩ q.2
  ·obtain ⟨h1, hh, he⟩ := Zjg.1 (Zpj most xs k j om om)
   exact Zjg.2 ⟨h1, g.1 _ hh, he⟩
theorem Ych (most : Int) {xs : List Hyp} (hs : xs.Pairwise fun x y => x.Cost ≤ y.Cost) : ∀ k, k ≤ xs.length → ∀ h ∈ Zda most xs k, ∀ j, j < xs.length → (at_ xs j).Label = h.Label → h.Cost ≤ (at_ xs j).Cost
 | 0, _, h, hh, _, _, _ => by simp [Zda] at hh
 | k + 1, hk, h, hh, j, hj, e => by
  have ih := Ych most hs k om
  rcases Zma most xs k with q | q
  ·rw [q.1, List.mem_append, List.mem_singleton] at hh
   rcases hh with hh | hh
   ·exact ih h hh j hj e
   ·subst hh
    by_cases h1 : j < k
    ·have := Zpj most xs k j h1 q.2.1
     rw [e, q.2.2] at this; cases this
    ·by_cases h2 : j = k
     ·subst h2; exact Int.le_refl _
     ·exact Zsd hs (show k < j by omega) hj
  ·rw [q.1] at hh; exact ih h hh j hj e
theorem Zsq {most : Int} {xs : List Hyp} (hm : 0 ≤ most) : (∀ h ∈ Zph most xs, h ∈ xs) ∧ ((Zph most xs).length : Int) ≤ most ∧ ((Zph most xs).Pairwise fun x y => x.Label ≠ y.Label) ∧ ((Zph most xs).Pairwise fun x y => Zet x y < 0) ∧ (∀ h ∈ Zph most xs, ∀ x ∈ xs, x.Label = h.Label → h.Cost ≤ x.Cost) ∧ (1 ≤ most → 0 < xs.length → 0 < (Zph most xs).length) := by
 have hl := Zhm Zet xs xs.length
 have hsub := Ycg most (Zfv Zet xs xs.length) xs.length om
 rw [List.take_of_length_le om] at hsub
 have hmem : ∀ h ∈ Zph most xs, h ∈ Zfv Zet xs xs.length := fun h hh => hsub.subset hh
 have hord := Yci (c := Zet) cmpH_w (B := fun _ _ => True) (xs := xs) (List.pairwise_of_forall fun _ _ => trivial) xs.length (Nat.le_refl _)
 have hco : (Zfv Zet xs xs.length).Pairwise fun x y => x.Cost ≤ y.Cost := hord.imp fun {x y} h => by
  rcases h with h | h
  ·rcases Zoy.1 h with q | q <;> omega
  ·have q := h.1
   rw [Zqq] at q
   by_cases e : Zfu x.Cost y.Cost = 0
   ·rw [Zfg] at e; omega
   ·rw [if_neg e] at q; exact absurd q e
 refine ⟨fun h hh => Zvf.1 (hmem h hh), Yhr most _ hm _, Zve most _ _, ?_, ?_, ?_⟩
 ·have h1 : (Zph most xs).Pairwise (ordR Zet fun _ _ => True) := hord.sublist hsub
  have h2 := Zve most (Zfv Zet xs xs.length) xs.length
  exact (h1.and h2).imp fun {x y} h => by
   rcases h.1 with q | q
   ·exact q
   ·have q1 := q.1
    rw [Zqq] at q1
    by_cases e : Zfu x.Cost y.Cost = 0
    ·rw [if_pos e, Zfh] at q1; exact absurd q1 h.2
    ·rw [if_neg e] at q1; exact absurd q1 e
 ·intro h hh x hx e
  obtain ⟨j, hj, q⟩ := List.getElem_of_mem (Zvf.2 hx)
  have := Ych most hco xs.length om h hh j hj (by rw [Zej hj, q]; exact e)
  rw [Zej hj, q] at this
  exact this
 ·intro h1 h2
  rcases Nat.eq_zero_or_pos (Zph most xs).length with e | e
  ·have := Zpj most (Zfv Zet xs xs.length) xs.length 0 h2 (by unfold Zph at e; omega)
   obtain ⟨h, hh, _⟩ := Zjg.1 this
   have : 0 < (Zph most xs).length := List.length_pos_of_mem hh
   omega
  ·exact e
theorem Yht {s : Store} {ik : Ink} {t : Setting} (hst : Zbw s = true) (okf : Zbr (feR ik t.Points).1 72 = true) (hset : Zfa t = true) (hsk : 1 ≤ ik.Strokes.length ∧ ik.Strokes.length ≤ 16) : Zsc (Zlh s ik t) ∧ ((Zlh s ik t).length : Int) ≤ t.Most ∧
  (∀ h ∈ Zlh s ik t, ∃ m ∈ mtS s (feR ik t.Points).1 s.Templates.length, Yev s (Zyy ik t) m = h) ∧
  (∀ h ∈ Zlh s ik t, ∀ m ∈ mtS s (feR ik t.Points).1 s.Templates.length, (Yev s (Zyy ik t) m).Label = h.Label → h.Cost ≤ (Yev s (Zyy ik t) m).Cost) ∧
  (0 < (mtS s (feR ik t.Points).1 s.Templates.length).length → 0 < (Zlh s ik t).length) := by
 have hse := Zhy.1 hset
 have f := Zsq (most := t.Most) (xs := Ybb s ik t) om
 have hb : 0 ≤ Zyy ik t ∧ Zyy ik t ≤ 15000 := Zyx hse.2.2 hsk
 have hx : ∀ h ∈ Zlh s ik t, ∃ m ∈ mtS s (feR ik t.Points).1 s.Templates.length, Yev s (Zyy ik t) m = h := fun h hh => by
  obtain ⟨m, hm, e⟩ := List.mem_map.1 (f.1 h hh)
  exact ⟨m, hm, e⟩
 refine ⟨⟨by have := f.2.1; show (Zph t.Most (Ybb s ik t)).length ≤ 8; omega, fun i hi => ?_, f.2.2.2.1, f.2.2.1⟩, f.2.1, hx, fun h hh m hm e => f.2.2.2.2.1 h hh _ (List.mem_map_of_mem hm) e, fun h0 => f.2.2.2.2.2 om (by unfold Ybb; rwa [List.length_map])⟩
 obtain ⟨m, hm, e⟩ := hx _ (Zdf hi)
 obtain ⟨j, hj, h2, h3⟩ := Zpt hm
 have ht := (Zea.1 hst).2.2 j hj
 have hc := Yfe okf ht h2
 rw [← e]
 subst h3
 simp only [Zfn, Bool.and_eq_true] at ht
 refine ⟨?_, ?_⟩
 ·show Zco (at_ s.Templates ((j : Nat) : Int).toNat).Label = true
  rw [Int.toNat_natCast]; exact ht.1
 ·have h4 : (Yev s (Zyy ik t) (mtM s (feR ik t.Points).1 j)).Cost = (mtM s (feR ik t.Points).1 j).Cost + Zyy ik t := rfl
  rw [h4]; omega
def okHb (xs : List Hyp) : Prop := (∀ h ∈ xs, Zco h.Label = true ∧ 0 ≤ h.Cost ∧ h.Cost ≤ 1000000) ∧ (xs.Pairwise fun x y => Zet x y < 0) ∧ xs.Pairwise fun x y => x.Label ≠ y.Label
def Zpr (l : ByteArray) (xs : List Hyp) (k : Nat) : List Hyp := (xs.take k).filter fun x => decide (x.Label ≠ l)
theorem oth_y {l : ByteArray} {xs : List Hyp} {k : Nat} (hk : k < xs.length) (h : (at_ xs k).Label ≠ l) : Zpr l xs (k + 1) = Zpr l xs k ++ [at_ xs k] := by
 unfold Zpr
 rw [List.take_succ_eq_append_getElem hk, List.filter_append, ← Zej hk]
 simp [h]
theorem oth_n {l : ByteArray} {xs : List Hyp} {k : Nat} (hk : k < xs.length) (h : (at_ xs k).Label = l) : Zpr l xs (k + 1) = Zpr l xs k := by
 unfold Zpr
 rw [List.take_succ_eq_append_getElem hk, List.filter_append, ← Zej hk]
 simp [h]
theorem oth_len (l : ByteArray) (xs : List Hyp) (k : Nat) : (Zpr l xs k).length ≤ k := by
 unfold Zpr
 exact Nat.le_trans (List.length_filter_le _ _) (by rw [List.length_take]; omega)
theorem Zzw (l : ByteArray) (xs : List Hyp) (k : Nat) : List.Sublist (Zpr l xs k) xs := List.filter_sublist.trans (List.take_sublist _ _)
theorem oth_ne {l : ByteArray} {xs : List Hyp} {k : Nat} : ∀ x ∈ Zpr l xs k, x.Label ≠ l := fun x hx => by
 have := (List.mem_filter.1 hx).2
 simpa using this
theorem okHb_oth {l : ByteArray} {xs : List Hyp} (h : okHb xs) (k : Nat) : okHb (Zpr l xs k) := ⟨fun x hx => h.1 x ((Zzw l xs k).subset hx), h.2.1.sublist (Zzw l xs k), h.2.2.sublist (Zzw l xs k)⟩
theorem Ztl {xs : List Hyp} {e : Hyp} {k : Nat} (h : okHb xs) (he : Zco e.Label = true ∧ 0 ≤ e.Cost ∧ e.Cost ≤ 1000000) (hn : ∀ x ∈ xs, x.Label ≠ e.Label) (hk : k ≤ xs.length) (hlo : k = 0 ∨ ¬ 0 < Zet (at_ xs (k - 1)) e) (hhi : ∀ j : Nat, k ≤ j → j < xs.length → 0 < Zet (at_ xs j) e) : okHb (xs.take k ++ [e] ++ xs.drop k) := by
 refine ⟨fun x hx => ?_, ins_ok cmpH_w h.2.1 hk hlo hhi (fun x hx q => hn x hx (by rw [cmpH_tot _ _ q])), ?_⟩
 ·rcases Yhu.1 hx with q | q
  ·rw [q]; exact he
  ·exact h.1 x q
 ·have hd := h.2.2
  rw [← List.take_append_drop k xs, List.pairwise_append] at hd
  rw [List.append_assoc, List.pairwise_append]
  refine ⟨hd.1, List.pairwise_cons.2 ⟨fun y hy => Ne.symm (hn y (List.mem_of_mem_drop hy)), hd.2.1⟩, fun a ha b hb => ?_⟩
  rcases List.mem_cons.1 hb with q | q
  ·rw [q]; exact hn a (List.mem_of_mem_take ha)
  ·exact hd.2.2 a ha b q
def chH (P I : List Hyp) : Prop := okHb I ∧ ∀ x, x ∈ I ↔ (x ∈ P ∧ ∀ y ∈ P, y.Label = x.Label → x.Cost ≤ y.Cost)
theorem exmin : ∀ (P : List Hyp) (l : ByteArray), (∃ y ∈ P, y.Label = l) → ∃ m ∈ P, m.Label = l ∧ ∀ z ∈ P, z.Label = l → m.Cost ≤ z.Cost
 | [], l, h => by obtain ⟨y, hy, _⟩ := h; simp at hy
 | p :: r, l, h => by
  by_cases hr : ∃ y ∈ r, y.Label = l
  ·obtain ⟨m, hm, h1, h2⟩ := exmin r l hr
   by_cases hp : p.Label = l ∧ p.Cost ≤ m.Cost
   ·refine ⟨p, List.mem_cons_self, hp.1, fun z hz e => ?_⟩
    rcases List.mem_cons.1 hz with q | q
    ·rw [q]; exact Int.le_refl _
    ·exact Int.le_trans hp.2 (h2 z q e)
   ·refine ⟨m, List.mem_cons_of_mem _ hm, h1, fun z hz e => ?_⟩
    rcases List.mem_cons.1 hz with q | q
    ·subst q
     exact Classical.byContradiction fun q2 => hp ⟨e, by omega⟩
    ·exact h2 z q e
  ·obtain ⟨y, hy, e⟩ := h
   rcases List.mem_cons.1 hy with q | q
   ·subst q
    refine ⟨y, List.mem_cons_self, e, fun z hz e2 => ?_⟩
    rcases List.mem_cons.1 hz with q2 | q2
    ·rw [q2]; exact Int.le_refl _
    ·exact absurd ⟨z, q2, e2⟩ hr
   ·exact absurd ⟨y, q, e⟩ hr
theorem ch_nil : chH [] [] := ⟨⟨by simp, List.Pairwise.nil, List.Pairwise.nil⟩, fun x => by simp⟩
theorem Zyv {P I : List Hyp} {h e : Hyp} (hc : chH P I) (hm : e ∈ I) (hl : e.Label = h.Label) (hcs : e.Cost ≤ h.Cost) : chH (P ++ [h]) I := by
 have he := (hc.2 e).1 hm
 refine ⟨hc.1, fun x => ⟨fun hx => ?_, fun ⟨hx, hmn⟩ => ?_⟩⟩
 ·have q := (hc.2 x).1 hx
  refine ⟨List.mem_append_left _ q.1, fun y hy e2 => ?_⟩
  rcases List.mem_append.1 hy with hy | hy
  ·exact q.2 y hy e2
  ·rw [List.mem_singleton] at hy
   subst hy
   exact Int.le_trans (q.2 e he.1 (hl.trans e2)) hcs
 ·rcases List.mem_append.1 hx with q | q
  ·exact (hc.2 x).2 ⟨q, fun y hy e2 => hmn y (List.mem_append_left _ hy) e2⟩
  ·rw [List.mem_singleton] at q
   subst q
   have := hmn e (List.mem_append_left _ he.1) hl
   rw [← Yhq hl (show e.Cost = x.Cost by omega)]
   exact hm
theorem Yff {P I : List Hyp} {h : Hyp} {k : Nat} (hc : chH P I) (hz : ∀ x ∈ I, x.Label = h.Label → h.Cost < x.Cost) (hk : okHb ((Zpr h.Label I I.length).take k ++ [h] ++ (Zpr h.Label I I.length).drop k)) : chH (P ++ [h]) ((Zpr h.Label I I.length).take k ++ [h] ++ (Zpr h.Label I I.length).drop k) := by
 have ho : ∀ x, x ∈ Zpr h.Label I I.length ↔ x ∈ I ∧ x.Label ≠ h.Label := fun x => by
  unfold Zpr
  rw [List.take_length, List.mem_filter]
  simp
 refine ⟨hk, fun x => ?_⟩
 rw [Yhu, ho]
 constructor
 ·rintro (q | ⟨q, q2⟩)
  ·subst q
   refine ⟨by simp, fun y hy e2 => ?_⟩
   rcases List.mem_append.1 hy with hy | hy
   ·obtain ⟨m, hm, h1, h2⟩ := exmin P x.Label ⟨y, hy, e2⟩
    have hmI := (hc.2 m).2 ⟨hm, fun z hz e => h2 z hz (e.trans h1)⟩
    have a := hz m hmI h1
    have b := h2 y hy e2
    omega
   ·rw [List.mem_singleton] at hy
    rw [hy]; exact Int.le_refl _
  ·have w := (hc.2 x).1 q
   refine ⟨List.mem_append_left _ w.1, fun y hy e2 => ?_⟩
   rcases List.mem_append.1 hy with hy | hy
   ·exact w.2 y hy e2
   ·rw [List.mem_singleton] at hy
    subst hy
    exact absurd e2.symm q2
 ·rintro ⟨hx, hmn⟩
  rcases List.mem_append.1 hx with q | q
  ·have hI := (hc.2 x).2 ⟨q, fun y hy e2 => hmn y (List.mem_append_left _ hy) e2⟩
   by_cases e : x.Label = h.Label
   ·have a := hz x hI e
    have b := hmn h (by simp) e.symm
    omega
   ·exact .inr ⟨hI, e⟩
  ·rw [List.mem_singleton] at q
   exact .inl q
theorem ch_eq {P I : List Hyp} (hc : chH P I) {N : Int} (hN : (P.length : Int) < N) : I = Zph N P := by
 have f := Zsq (most := N) (xs := P) om
 have hlen := Zmv N (Zfv Zet P P.length) P.length
 have hm : ∀ x, x ∈ I ↔ x ∈ Zph N P := fun x => by
  rw [hc.2 x]
  constructor
  ·rintro ⟨hx, hmn⟩
   obtain ⟨j, hj, q⟩ := List.getElem_of_mem (Zvf (c := Zet).2 hx)
   have hl := Zhm Zet P P.length
   have h2 := Zpj N (Zfv Zet P P.length) P.length j om (by unfold Zph at *; omega)
   obtain ⟨h, hh, e⟩ := Zjg.1 h2
   rw [Zej hj, q] at e
   have a := f.2.2.2.2.1 h hh x hx e.symm
   have b := hmn h (f.1 h hh) e
   rw [← Yhq e (show h.Cost = x.Cost by omega)]
   exact hh
  ·intro hx
   exact ⟨f.1 x hx, fun y hy e => f.2.2.2.2.1 x hx y hy e⟩
 have nd : ∀ {l : List Hyp}, (l.Pairwise fun x y => x.Label ≠ y.Label) → l.Nodup := fun {l} h => h.imp fun {x y} q e => q (by rw [e])
 have hp : I.Perm (Zph N P) := (List.perm_ext_iff_of_nodup (nd hc.1.2.2) (nd f.2.2.1)).2 hm
 refine List.Perm.eq_of_pairwise (le := fun x y => Zet x y < 0) (fun a b _ _ q1 q2 => ?_) hc.1.2.1 f.2.2.2.1 hp
 have := (cmpH_w.anti a b).1 q1
 omega
theorem Zxr {most N : Int} (hm : 0 ≤ most) {ys : List Hyp} (hN : (ys.length : Int) < N) : ∀ k, k ≤ ys.length → Zda most ys k = (Zda N ys k).take most.toNat
 | 0, _ => by simp [Zda]
 | k + 1, hk => by
  have ih := Zxr hm hN k om
  have hl := Zmv N ys k
  by_cases hA : ((Zda N ys k).length : Int) < most
  ·have e : Zda most ys k = Zda N ys k := by rw [ih, List.take_of_length_le om]
   by_cases hh : Zop (Zda N ys k) (at_ ys k).Label = false
   ·have a : Zda most ys (k + 1) = Zda N ys k ++ [at_ ys k] := by
     show (if _ then _ else _) = _
     rw [e, if_pos ⟨hA, hh⟩]
    have b : Zda N ys (k + 1) = Zda N ys k ++ [at_ ys k] := if_pos ⟨by omega, hh⟩
    rw [a, b, List.take_of_length_le (by simp; omega)]
   ·have a : Zda most ys (k + 1) = Zda N ys k := by
     show (if _ then _ else _) = _
     rw [e, if_neg fun q => hh q.2]
    have b : Zda N ys (k + 1) = Zda N ys k := if_neg fun q => hh q.2
    rw [a, b, List.take_of_length_le om]
  ·have a : Zda most ys (k + 1) = Zda most ys k := if_neg fun q => by
    have := q.1
    rw [ih, List.length_take] at this
    omega
   rw [a, ih]
   rcases Zma N ys k with q | q
   ·rw [q.1, List.take_append_of_le_length om]
   ·rw [q.1]
theorem ch_most {P I : List Hyp} (hc : chH P I) {most : Int} (hm : 0 ≤ most) : Zph most P = I.take most.toNat := by
 have e := ch_eq hc (N := (P.length : Int) + 1) om
 rw [e]
 have hl := Zhm Zet P P.length
 unfold Zph
 exact Zxr hm om _ om
def mkE (g : Group) (h : Hyp) : Edge := ⟨g.From, g.To, h.Label, h.Cost⟩
def edK (s : Store) (ik : Ink) (t : Setting) (gs : List Group) : Nat → List Edge
 | 0 => []
 | k + 1 => edK s ik t gs k ++ (Zlh s (Zlc ik (at_ gs k)) t).map (mkE (at_ gs k))
def okGs (n : Int) (gs : List Group) : Prop := (∀ g ∈ gs, okG n g ∧ g.To ≤ g.From + 3) ∧ gs.Pairwise fun x y => x.From < y.From ∨ (x.From = y.From ∧ x.To < y.To)
theorem Zts {s : Store} {ik : Ink} {t : Setting} (hst : Zbw s = true) (ok : Zbp ik = true) (hset : Zfa t = true) {g : Group} (hg : okG (ik.Strokes.length : Int) g) (h3 : g.To ≤ g.From + 3) (hp : t.Points ≤ 6) : Zsc (Zlh s (Zlc ik g) t) ∧ ((Zlh s (Zlc ik g) t).length : Int) ≤ t.Most ∧ 1 ≤ (Zlc ik g).Strokes.length ∧ ((Zlc ik g).Strokes.length : Int) * t.Points ≤ 72 := by
 have hl := Ycj hg
 have ho := Ztt ok hg
 have h1 := hg.2.1
 have hse := Zhy.1 hset
 have h72 : ((Zlc ik g).Strokes.length : Int) * t.Points ≤ 72 := by
  have : ((Zlc ik g).Strokes.length : Int) * t.Points ≤ 3 * 6 := Int.mul_le_mul om hp om om
  omega
 have f := fe_72 ho hse.1 om h72
 have hil := Zgp ho
 have r := Yht hst f.2 hset (ik := Zlc ik g) om
 exact ⟨r.1, r.2.1, by omega, h72⟩
theorem Zzx {s : Store} {ik : Ink} {t : Setting} {gs : List Group} {e : Edge} : ∀ k, e ∈ edK s ik t gs k → ∃ j, j < k ∧ ∃ h ∈ Zlh s (Zlc ik (at_ gs j)) t, e = mkE (at_ gs j) h
 | 0, he => by simp [edK] at he
 | k + 1, he => by
  unfold edK at he
  rcases List.mem_append.1 he with q | q
  ·obtain ⟨j, hj, w⟩ := Zzx k q
   exact ⟨j, by omega, w⟩
  ·obtain ⟨h, hh, e2⟩ := List.mem_map.1 q
   exact ⟨k, by omega, h, hh, e2.symm⟩
theorem Yhv {a b : Edge} (h : a.From ≠ b.From ∨ a.To ≠ b.To ∨ a.Label ≠ b.Label) : Zxs a b ≠ 0 := fun e => by
 rw [Zmb] at e
 by_cases h1 : Zfu a.From b.From = 0
 ·rw [if_pos h1] at e
  by_cases h2 : Zfu a.To b.To = 0
  ·rw [if_pos h2, Zfh] at e
   rw [Zfg] at h1 h2
   rcases h with q | q | q
   ·exact q h1
   ·exact q h2
   ·exact q e
  ·rw [if_neg h2] at e; exact h2 e
 ·rw [if_neg h1] at e; exact h1 e
theorem Yck {s : Store} {ik : Ink} {t : Setting} {gs : List Group} (hst : Zbw s = true) (ok : Zbp ik = true) (hset : Zfa t = true) (hp : t.Points ≤ 6) (hg : okGs (ik.Strokes.length : Int) gs) : ∀ k, k ≤ gs.length → (edK s ik t gs k).Pairwise (fun x y => Zxs x y ≠ 0) ∧ ((edK s ik t gs k).length : Int) ≤ t.Most * k
 | 0, _ => ⟨List.Pairwise.nil, by simp [edK]⟩
 | k + 1, hk => by
  have ih := Yck hst ok hset hp hg k om
  have hgk := hg.1 _ (Zdf (show k < gs.length by omega))
  have hr := Zts hst ok hset hgk.1 hgk.2 hp
  unfold edK
  constructor
  ·rw [List.pairwise_append]
   refine ⟨ih.1, ?_, fun a ha b hb => ?_⟩
   ·rw [List.pairwise_map]
    exact hr.1.2.2.2.imp fun {x y} q => Yhv (.inr (.inr q))
   ·obtain ⟨j, hj, h, _, rfl⟩ := Zzx k ha
    obtain ⟨h2, _, rfl⟩ := List.mem_map.1 hb
    have hlt := (List.pairwise_iff_getElem.1 hg.2) j k om om hj
    rw [← Zej om, ← Zej om] at hlt
    refine Yhv ?_
    rcases hlt with q | q
    ·exact .inl (fun e => by have : (at_ gs j).From = (at_ gs k).From := e; omega)
    ·exact .inr (.inl (fun e => by have : (at_ gs j).To = (at_ gs k).To := e; omega))
  ·rw [List.length_append, List.length_map]
   have e : t.Most * ((k + 1 : Nat) : Int) = t.Most * k + t.Most := by rw [Int.natCast_add, Int.mul_add]; simp
   rw [e]
   have h1 := ih.2
   have h2 := hr.2.1
   omega
theorem edK_lat {s : Store} {ik : Ink} {t : Setting} {gs : List Group} {es : List Edge} (hst : Zbw s = true) (ok : Zbp ik = true) (hset : Zfa t = true) (hp : t.Points ≤ 6) (hg : okGs (ik.Strokes.length : Int) gs) (hl : es.length ≤ 200) (hn : (ik.Strokes.length : Int) ≤ 3)
  (hperm : es.Perm (edK s ik t gs gs.length)) (hsort : es.Pairwise fun x_ y_ => ¬ Zxs y_ x_ < 0) : Zzy ⟨(ik.Strokes.length : Int) + 1, es⟩ ∧ ∀ e ∈ es, ∃ g, (okG (ik.Strokes.length : Int) g ∧ g.To ≤ g.From + 3) ∧ e.From = g.From ∧ e.To = g.To ∧ ∃ h ∈ Zlh s (Zlc ik g) t, h.Label = e.Label ∧ h.Cost = e.Cost := by
 have hmem : ∀ e ∈ es, ∃ g, (okG (ik.Strokes.length : Int) g ∧ g.To ≤ g.From + 3) ∧ e.From = g.From ∧ e.To = g.To ∧ ∃ h ∈ Zlh s (Zlc ik g) t, h.Label = e.Label ∧ h.Cost = e.Cost := fun e he => by
  obtain ⟨j, hj, h, hh, rfl⟩ := Zzx _ (hperm.mem_iff.1 he)
  exact ⟨at_ gs j, hg.1 _ (Zdf hj), rfl, rfl, h, hh, rfl, rfl⟩
 refine ⟨⟨⟨by show 1 ≤ (ik.Strokes.length : Int) + 1; omega, by show (ik.Strokes.length : Int) + 1 ≤ 20; omega⟩, hl, fun i hi => ?_, ?_⟩, hmem⟩
 ·obtain ⟨g, hg1, e1, e2, h, hh, e3, e4⟩ := hmem _ (Zdf hi)
  have hr := (Zts hst ok hset hg1.1 hg1.2 hp).1
  obtain ⟨j, hj, q⟩ := List.getElem_of_mem hh
  have ho := hr.2.1 j hj
  rw [Zej hj, q] at ho
  have a := hg1.1.1
  have b := hg1.1.2.1
  have c := hg1.1.2.2
  refine ⟨⟨by show 0 ≤ (at_ es i).From; omega, by show (at_ es i).From < (at_ es i).To; omega, by show (at_ es i).To < (ik.Strokes.length : Int) + 1; omega⟩, ⟨by show 0 ≤ (at_ es i).Cost; omega, by show (at_ es i).Cost ≤ 1000000; omega⟩, by show Zco (at_ es i).Label = true; rw [← e3]; exact ho.1⟩
 ·have hne : es.Pairwise fun x y => Zxs x y ≠ 0 := (hperm.pairwise_iff (fun {x y} h e => h (cmpE_w.zero e))).2 (Yck hst ok hset hp hg gs.length (Nat.le_refl _)).1
  refine (hsort.and hne).imp fun {x y} q => ?_
  have a1 := cmpE_w.anti y x
  have a2 := cmpE_w.anti x y
  have := q.1
  have := q.2
  omega
theorem Ycl {α : Type} {c : α → α → Int} (h : CmpW c) : Go.Sort.SWO (ltOf c) := ⟨fun x => decide_eq_false (by have := h.refl x; omega), fun x y z h1 h2 => decide_eq_true (h.trans x y z (Int.le_of_lt (of_decide_eq_true (p := c x y < 0) h1)) (of_decide_eq_true (p := c y z < 0) h2)), fun x y z h1 h2 => decide_eq_false fun h3 => by
 have q1 := of_decide_eq_false h1
 have q2 := of_decide_eq_false h2
 have a1 := h.anti y x
 have a2 := h.anti z y
 have a3 := h.anti x z
 have b1 := h.anti x y
 have b2 := h.anti y z
 have := h.le (x := z) (y := y) (z := x) om om
 omega⟩
theorem tl_inj {a b : ByteArray} (q : a.toList = b.toList) : a = b := by
 rw [Lib.toList_data, Lib.toList_data] at q
 cases a; cases b
 simp only [ByteArray.mk.injEq]
 exact Array.toList_inj.1 q
theorem sfNI (x : Int) (w : World) : Calls Tryz.prog 97 #[.int .i64 x] w fun e w' => e = .returned (.bool false) ∧ w' = w := by
 go_enter Tryz.func97, Tryz.ntmps97
 go_wp2
 go_ret
 exact ⟨by simp, rfl⟩
theorem sfCI (x y : Int) (w : World) : Calls Tryz.prog 51 #[.int .i64 x, .int .i64 y] w fun e w' => e = .returned (.int .i64 (Zfu x y)) ∧ w' = w := by
 go_enter Tryz.func51, Tryz.ntmps51
 go_wp2_with (go_at_call 97; refine (sfNI _ _).mono ?_; rintro e w' ⟨rfl, hw⟩; rw [hw])
 all_goals (go_ret; refine ⟨?_, rfl⟩; congr 2; unfold Zfu; (repeat' split) <;> first | rfl | (exfalso; omega))
theorem sfNS (x : ByteArray) (w : World) : Calls Tryz.prog 98 #[.string x] w fun e w' => e = .returned (.bool false) ∧ w' = w := by
 go_enter Tryz.func98, Tryz.ntmps98
 go_wp2
 go_ret
 exact ⟨by simp, rfl⟩
theorem sfCS (x y : ByteArray) (w : World) : Calls Tryz.prog 52 #[.string x, .string y] w fun e w' => e = .returned (.int .i64 (Ziv x y)) ∧ w' = w := by
 go_enter Tryz.func52, Tryz.ntmps52
 go_wp2_with (go_at_call 98; refine (sfNS _ _).mono ?_; rintro e w' ⟨rfl, hw⟩; rw [hw])
 all_goals (go_ret; refine ⟨?_, rfl⟩; congr 2; unfold Ziv Zgc; (repeat' split) <;> first | rfl | (exfalso; simp_all; done) | (exfalso; rename_i h1 h2 h3; exact h3.2 (tl_inj (by simpa using h1))))
theorem sfOr (b n c : Nat) (xs : List Int) (w : World) (hn : n = xs.length) (hc : n ≤ 9223372036854775807) (h : ∀ j, j < xs.length → w.cell? ⟨b, j, none⟩ = some (.int .i64 (at_ xs j))) : Calls Tryz.prog 50 #[.slice (some ⟨b, 0, none⟩) n c] w fun e w' => e = .returned (.int .i64 (orL xs)) ∧ w' = w := by
 go_enter Tryz.func50, Tryz.ntmps50
 go_wp2
 go_loop [8] (fun i => ∃ k : Nat, k ≤ n ∧ i = .int .i64 k ∧ ∀ j, j < k → at_ xs j = 0) (fun i => n - (intOf i).toNat)
 case atStart => exact ⟨0, Nat.zero_le _, rfl, fun j hj => absurd hj (Nat.not_lt_zero _)⟩
 case round =>
  obtain ⟨k, hk, rfl, hz⟩ := hrel
  by_cases hlt : k < n
  ·have ck := h k om
   have S : Hid (at_ xs k = 0 → ∀ j, j < k + 1 → at_ xs j = 0) := fun q j hj => by
    by_cases e : j = k
    ·rw [e]; exact q
    ·exact hz j om
   have T : Hid (at_ xs k ≠ 0 → orL xs = at_ xs k) := fun q => Zxo om hz q
   generalize at_ xs k = v at ck S T
   clear h hz
   by_cases hv : v = 0
   ·have S2 : Hid (∀ j, j < k + 1 → at_ xs j = 0) := S.out hv
    clear S T
    subst hv
    go_wp2
    exact ⟨⟨k + 1, by omega, rfl, S2.out⟩, by simp [intOf]; omega⟩
   ·have T2 : Hid (orL xs = v) := T.out hv
    clear S T
    go_wp2
    go_ret
    exact ⟨by rw [T2.out]; rfl, rfl⟩
  ·have : k = n := by omega
   subst this
   have T : Hid (orL xs = 0) := Zva (fun j hj => hz j om)
   clear h hz
   go_wp2
   all_goals (go_ret; exact ⟨by rw [T.out]; rfl, rfl⟩)
def Zsr (x : Edge) : List Value := [.int .i64 x.From, .int .i64 x.To, .string x.Label, .int .i64 x.Cost]
theorem stEcmp (x y : Edge) (w : World) : Calls Tryz.prog 21 (#[.agg (Zsr x).toArray, .agg (Zsr y).toArray] ++ #[]) w fun e w' => e = .returned (.int .i64 (Zxs x y)) ∧ ∃ q os', w' = Go.Sort.grow (w.drewN q) os' := by
 show Calls Tryz.prog 21 #[.agg #[.int .i64 x.From, .int .i64 x.To, .string x.Label, .int .i64 x.Cost], .agg #[.int .i64 y.From, .int .i64 y.To, .string y.Label, .int .i64 y.Cost]] w _
 go_enter Tryz.func21, Tryz.ntmps21
 go_wp2
 refine Zlx 15 (by kernel_rfl) (by kernel_rfl) (by kernel_rfl) ?_
 repeat (quiet_step (first | (go_at_call 51; exact Calls.quiet_of_same (sfCI _ _ _)) | (go_at_call 52; exact Calls.quiet_of_same (sfCS _ _ _))))
 refine wpQuiet_nil ?_
 intro _ hw'
 obtain ⟨nq, hw''⟩ := hw'
 subst hw''
 simp only [List.drop_succ_cons, List.drop_zero]
 go_wp2_with fail
 refine (sfOr _ _ _ [Zfu x.From y.From, Zfu x.To y.To, Ziv x.Label y.Label] _ rfl (by simp) (fun j hj => ?_)).mono ?_
 ·have hj2 : j = 0 ∨ j = 1 ∨ j = 2 := by
   simp at hj; omega
  have e : ∀ (a b c : Obj), (((w.heap.push a).push b).push c)[w.heap.size + 1 + 1]? = some c := fun a b c => by rw [Array.getElem?_push, if_pos (by simp)]
  unfold World.cell?
  rcases hj2 with rfl | rfl | rfl <;> (erw [e]; rfl)
 rintro e w' ⟨rfl, rfl⟩
 go_wp2
 go_ret
 refine ⟨rfl, nq, #[.cells #[Value.int IntKind.i64 x.From, Value.int IntKind.i64 x.To, Value.string x.Label, Value.int IntKind.i64 x.Cost] 41 (0, 0), .cells #[Value.int IntKind.i64 y.From, Value.int IntKind.i64 y.To, Value.string y.Label, Value.int IntKind.i64 y.Cost] 41 (0, 0), .cells #[Value.int IntKind.i64 (Zfu x.From y.From), Value.int IntKind.i64 (Zfu x.To y.To), Value.int IntKind.i64 (Ziv x.Label y.Label)] 3 (0, 0)], ?_⟩
 have e : ∀ (a b c : Obj), ((w.heap.push a).push b).push c = w.heap ++ #[a, b, c] := fun a b c => Array.toList_inj.1 (by simp)
 unfold Go.Sort.grow
 show World.mk (((w.heap.push _).push _).push _) w.tape (w.drawn + nq) w.os w.output = World.mk (w.heap ++ #[_, _, _]) w.tape (w.drawn + nq) w.os w.output
 rw [e]
theorem Yeb (data : List Edge) (hl : data.length ≤ 4000000) : ∃ (data' : List Edge), (data'.Perm data) ∧ (data'.Pairwise fun x_ y_ => ¬ Zxs y_ x_ < 0) ∧ Zbb Tryz.prog 20 [.arr 8611, .fn 21 []] (Zaf [(8611, Zfe data)]) true (.tup []) (Zaf [(8611, Zfe data')]) := by
 refine ⟨Zoc Zxs data, srt_perm (Ycl cmpE_w) data, srt_pw (Ycl cmpE_w) data, ?_⟩
 exact Zxh (enc := Zsr) (kc := 4) (by decide) (fun _ => rfl) (fun x v hv => by simp only [Zsr, List.mem_cons, List.not_mem_nil, or_false] at hv; rcases hv with rfl | rfl | rfl | rfl <;> rfl) (cf := Zxs) (Ycl cmpE_w)
  (fun blk off cap d w h1 h2 h3 => AnyQ.slices_SortFunc_eq Tryz.laysSfEdg 4 (fun w => Zie (by kernel_rfl) w) (fun w => Zcg (by kernel_rfl) w) Zsr (fun _ => rfl) (fun x v hv => by simp only [Zsr, List.mem_cons, List.not_mem_nil, or_false] at hv; rcases hv with rfl | rfl | rfl | rfl <;> rfl) Zxs (Ycl cmpE_w) 21 #[] blk off cap d w (enters_of Tryz.func21 (by kernel_rfl) rfl) (fun m os dk hdk x y => stEcmp x y _) h1 h2 h3)
  (fun p cap fv w => AnyF.slices_SortFunc_none Tryz.laysSfEdg p cap fv w) 8611 data om
theorem Zwd (s : Store) (ik : Ink) (t : Setting) (hst : Zbw s = true) (ok : Zbp ik = true) (hset : Zfa t = true) (h12 : s.Templates.length ≤ 12) (hn3 : (ik.Strokes.length : Int) ≤ 3) (hp6 : t.Points ≤ 6) (oks_ : Zpo s) : ∃ (v : Lattice) (c : Int), (Zzy v ∧ v.Nodes = (ik.Strokes.length : Int) + 1 ∧ ∀ e ∈ v.Edges, ∃ g_, (okG (ik.Strokes.length : Int) g_ ∧ g_.To ≤ g_.From + 3) ∧ e.From = g_.From ∧ e.To = g_.To ∧ ∃ h_ ∈ Zlh s (Zlc ik g_) t, h_.Label = e.Label ∧ h_.Cost = e.Cost) ∧ (c = 0) ∧ Con Tryz.prog 6 [Zfb s, .agg [Zae false ik.Strokes], Zeg t] true (.tup [Zku v, I c]) := by
  have hil := Zgp ok
  have hse := Zhy.1 hset
  have hs40 := (Zea.1 hst).2.1
  have hh : ∃ r : Lattice × Int, ((Zzy r.1 ∧ r.1.Nodes = (ik.Strokes.length : Int) + 1 ∧ ∀ e ∈ r.1.Edges, ∃ g_, (okG (ik.Strokes.length : Int) g_ ∧ g_.To ≤ g_.From + 3) ∧ e.From = g_.From ∧ e.To = g_.To ∧ ∃ h_ ∈ Zlh s (Zlc ik g_) t, h_.Label = e.Label ∧ h_.Cost = e.Cost) ∧ (r.2 = 0) ∧ (True)) ∧ Zbb Tryz.prog 6 [Zfb s, .agg [Zae false ik.Strokes], Zeg t] (Zaf []) true (.tup [Zku r.1, I r.2]) (Zaf []) := by
    refine Zdv (Φ := fun r : Lattice × Int => (Zzy r.1 ∧ r.1.Nodes = (ik.Strokes.length : Int) + 1 ∧ ∀ e ∈ r.1.Edges, ∃ g_, (okG (ik.Strokes.length : Int) g_ ∧ g_.To ≤ g_.From + 3) ∧ e.From = g_.From ∧ e.To = g_.To ∧ ∃ h_ ∈ Zlh s (Zlc ik g_) t, h_.Label = e.Label ∧ h_.Cost = e.Cost) ∧ (r.2 = 0) ∧ (True)) [] (fun r => []) (fn := Tryz.f6) (nt := 86) Tryz.func6 rfl rfl (args := [Zfb s, .agg [Zae false ik.Strokes], Zeg t]) rfl (Zbd (.inl ⟨rfl, by simp [Zaj, Zag, Zdz]⟩) (Zbd (.inl ⟨rfl, by simp [Zaj, Zag, Zck]⟩) (Zbd (.inl ⟨rfl, by simp [Zaj, Zag]⟩) Zdp))) (res := fun r => .tup [Zku r.1, I r.2]) ?_
    refine xQ [(0, .new 3), (1, .new 4), (2, .new 5), (3, .new 6)] [3, 4, 5, 6] [3, 4, 5, 6] [] trivial ?_
    refine Zat ?_
    refine xQ [(1, .call [(true, .any)] true (Bv true)), (5, .call [(true, .any)] true (Bv true)), (10, .call [(true, .any)] true (Bv true))] [3, 4, 5, 6, 25] [3, 4, 5, 6] [Con Tryz.prog 14 [Zfb s] true (Bv true) ∧ True, Con Tryz.prog 15 [.agg [Zae false ik.Strokes]] true (Bv true) ∧ True, Con Tryz.prog 16 [Zeg t] true (Bv true) ∧ True] ⟨⟨(Zap hst (Zvg s oks_)), trivial⟩, ⟨(Zap ok (Zmc ik)), trivial⟩, ⟨(Zap hset (Zqr t)), trivial⟩, trivial⟩ ?_
    refine Zkr ?_
    refine Zbv ?_
    refine Zad ?_
    refine xQ [(5, .new 8)] [3, 4, 5, 6, 8] [3, 4, 5, 6, 8] [inR .i64 ((ik.Strokes.length : Int) + 1)] ⟨(Zac om om), trivial⟩ ?_
    refine Zat ?_
    refine Zat ?_
    obtain ⟨ls_1, hx1_0, hx1_1, hx1_2, hc1⟩ := Zzz (ik.Strokes.length : Int) om
    have hgs : okGs (ik.Strokes.length : Int) ls_1 := ⟨hx1_0, hx1_1⟩
    have hgl := hx1_2
    refine x_r [(3, .call [(true, .any)] true (Zfd true ls_1))] [3, 4, 5, 6, 8, 35, 36, 37] [3, 4, 5, 6, 8] [.ref 3 0, .ref 4 0, .ref 5 0, .ref 6 0, .ref 8 0, Zfd true ls_1, I (ls_1.length : Int), I 0] [some (Zdt s), some (.box [Zae false ik.Strokes]), some (Zcu t), some (.box [I 0, Zcr]), some (.box [I ((ik.Strokes.length : Int) + 1), Zcr])] [_ ∧ True] ⟨⟨hc1, trivial⟩, trivial⟩ ?_
    refine Zad ?_
    refine Zbn ?_
    refine Zmk 8 1 781 4 (fun _ => []) rfl (by kernel_rfl) ?_
    refine Zcw [] (T := [(3, .ref 3 0), (4, .ref 4 0), (5, .ref 5 0), (6, .ref 6 0), (8, .ref 8 0), (35, Zfd true ls_1), (36, I (ls_1.length : Int)), (37, I 0)]) (O := [(3, Zdt s), (4, .box [Zae false ik.Strokes]), (5, Zcu t), (6, .box [I 0, Zcr]), (8, .box [I ((ik.Strokes.length : Int) + 1), .arr 781]), (781, Zfe ([] : List Edge))]) rfl (⟨.inl rfl, .inl rfl, .inl rfl, .inl rfl, .inl rfl, .inl rfl, .inl rfl, .inl rfl, trivial⟩) (⟨.inl rfl, .inl rfl, .inl rfl, .inl rfl, .inl rfl, .inr ⟨rfl, (by first | rfl | (simp; done) | (simp; omega) | omega), fun i_ hi_ => absurd hi_ (Nat.not_lt_zero _)⟩, trivial⟩) ?_
    refine Zeb (X := Int × (List Edge)) (fun x => mkS [(3, .ref 3 0), (4, .ref 4 0), (5, .ref 5 0), (6, .ref 6 0), (8, .ref 8 0), (35, Zfd true ls_1), (36, I (ls_1.length : Int)), (37, I x.1)] [(3, Zdt s), (4, .box [Zae false ik.Strokes]), (5, Zcu t), (6, .box [I 0, Zcr]), (8, .box [I ((ik.Strokes.length : Int) + 1), .arr 781]), (781, Zfe x.2)]) (fun x => (0 ≤ x.1 ∧ x.1 ≤ (ls_1.length : Int)) ∧ (x.2 = edK s ik t ls_1 x.1.toNat) ∧ True) (fun x => ((ls_1.length : Int) - x.1).toNat) (0, ([] : List Edge)) rfl (show (0 ≤ (0 : Int) ∧ (0 : Int) ≤ (ls_1.length : Int)) ∧ (([] : List Edge) = edK s ik t ls_1 (0 : Int).toNat) ∧ True from ⟨om, (by rfl), trivial⟩) (fun x hI => ?_)
    obtain ⟨t37, es⟩ := x
    obtain ⟨hi0, hes, _⟩ : (0 ≤ t37 ∧ t37 ≤ (ls_1.length : Int)) ∧ (es = edK s ik t ls_1 t37.toNat) ∧ True := hI
    show XW _ _ _ _ (mkS [(3, .ref 3 0), (4, .ref 4 0), (5, .ref 5 0), (6, .ref 6 0), (8, .ref 8 0), (35, Zfd true ls_1), (36, I (ls_1.length : Int)), (37, I t37)] [(3, Zdt s), (4, .box [Zae false ik.Strokes]), (5, Zcu t), (6, .box [I 0, Zcr]), (8, .box [I ((ik.Strokes.length : Int) + 1), .arr 781]), (781, Zfe es)]) _ _
    refine Zat ?_
    by_cases h1 : t37 < (ls_1.length : Int)
    ·have hi : t37.toNat < ls_1.length := by omega
     have hgm := hgs.1 _ (Zdf hi)
     have ga := hgm.1.1
     have gb := hgm.1.2.1
     have gc := hgm.1.2.2
     have gd := hgm.2
     have hr := Zts hst ok hset hgm.1 hgm.2 hp6
     have hml : 0 ≤ ((at_ ls_1 t37.toNat).To - (at_ ls_1 t37.toNat).From) * t.Points ∧ ((at_ ls_1 t37.toNat).To - (at_ ls_1 t37.toNat).From) * t.Points ≤ 3 * 6 := ⟨Int.mul_nonneg om om, Int.mul_le_mul om hp6 om om⟩
     have hii : (t37 + 1).toNat = t37.toNat + 1 := by omega
     have hek := (Yck hst ok hset hp6 hgs t37.toNat om).2
     have hek2 : t.Most * ((t37.toNat : Nat) : Int) ≤ 8 * 9 := Int.mul_le_mul om om om om
     have hesl : es.length ≤ 72 := by rw [hes]; omega
     refine x_q [(0, .dec true)] [3, 4, 5, 6, 8, 35, 36, 37, 38] [3, 4, 5, 6, 8, 781] [_] ⟨h1, trivial⟩ ?_
     refine Zad ?_
     refine Zat ?_
     refine Zfl ?_
     refine Zbv ?_
     refine Zad ?_
     refine Zat ?_
     refine Zbn ?_
     refine xQ [(2, .new 10)] [3, 4, 5, 6, 8, 10, 35, 36, 37] [3, 4, 5, 6, 8, 10, 781] [(0 : Int) ≤ t37 ∧ t37 < (ls_1.length : Int)] ⟨⟨om, om⟩, trivial⟩ ?_
     refine Zat ?_
     refine xQ [(8, .dec false)] [3, 4, 5, 6, 8, 10, 35, 36, 37, 49] [3, 4, 5, 6, 8, 10, 781] [inR .i64 (((at_ ls_1 t37.toNat).To) - ((at_ ls_1 t37.toNat).From)), inR .i64 ((((at_ ls_1 t37.toNat).To) - ((at_ ls_1 t37.toNat).From)) * t.Points), ¬ (72 < ((((at_ ls_1 t37.toNat).To) - ((at_ ls_1 t37.toNat).From)) * t.Points))] ⟨(Zac om om), (Zac om om), om, trivial⟩ ?_
     refine Zkr ?_
     refine Zbv ?_
     refine Zad ?_
     refine Zat ?_
     obtain ⟨v_2, hx2_0, hc2⟩ := Zvh ik (at_ ls_1 t37.toNat) ok hgm.1
     have hgi := hx2_0
     have hgi1 : 1 ≤ v_2.Strokes.length := by rw [hgi]; exact hr.2.2.1
     have hgi2 : (v_2.Strokes.length : Int) * t.Points ≤ 72 := by rw [hgi]; exact hr.2.2.2
     have hgi3 : Zbp v_2 = true := by rw [hgi]; exact Ztt ok hgm.1
     obtain ⟨v_3, hx3_0, hc3⟩ := Zvd s v_2 t hst hgi3 hset h12 hgi1 hgi2
     have hrc : v_3 = Zlh s (Zlc ik (at_ ls_1 t37.toNat)) t := by rw [hx3_0, hgi]
     have hrl : (v_3.length : Int) ≤ t.Most := by rw [hrc]; exact hr.2.1
     refine x_r [(3, .call [(true, .any), (true, .any)] true (.agg [Zae true v_2.Strokes])), (5, .call [(true, .any), (false, .agg [Zae false v_2.Strokes]), (true, .any)] true (Zbs true v_3))] [3, 4, 5, 6, 8, 10, 35, 36, 37, 55, 56, 57] [3, 4, 5, 6, 8, 10, 781] [.ref 3 0, .ref 4 0, .ref 5 0, .ref 6 0, .ref 8 0, .ref 10 0, Zfd true ls_1, I (ls_1.length : Int), I t37, Zbs true v_3, I (v_3.length : Int), I 0] [some (Zdt s), some (.box [Zae false ik.Strokes]), some (Zcu t), some (.box [I 0, Zcr]), some (.box [I ((ik.Strokes.length : Int) + 1), .arr 781]), some (.box [I ((at_ ls_1 t37.toNat).From), I ((at_ ls_1 t37.toNat).To)]), some (Zfe es)] [_ ∧ True, _ ∧ (((false = true → true = true) ∧ 1 = 1 ∧ v_2.Strokes.length = v_2.Strokes.length ∧ ∀ i_, i_ < v_2.Strokes.length → (Zbl true v_2.Strokes) i_ = (Zbl false v_2.Strokes) i_ ∨ (AV.idsL ((Zbl false v_2.Strokes) i_) = [] ∧ leL (fun _ => none) false ((Zbl true v_2.Strokes) i_) ((Zbl false v_2.Strokes) i_))) ∧ ([] : List AV) = []) ∧ True] ⟨⟨hc2, trivial⟩, ⟨hc3, ⟨⟨(fun h => by cases h), rfl, rfl, fun i _ => .inr ⟨Zml _ _, Zoz _ _ _⟩⟩, rfl⟩, trivial⟩, trivial⟩ ?_
     refine Zad ?_
     refine Zbn ?_
     refine Zeb (X := Int × (List Edge)) (fun x => mkS [(3, .ref 3 0), (4, .ref 4 0), (5, .ref 5 0), (6, .ref 6 0), (8, .ref 8 0), (10, .ref 10 0), (35, Zfd true ls_1), (36, I (ls_1.length : Int)), (37, I t37), (55, Zbs true v_3), (56, I (v_3.length : Int)), (57, I x.1)] [(3, Zdt s), (4, .box [Zae false ik.Strokes]), (5, Zcu t), (6, .box [I 0, Zcr]), (8, .box [I ((ik.Strokes.length : Int) + 1), .arr 781]), (10, .box [I ((at_ ls_1 t37.toNat).From), I ((at_ ls_1 t37.toNat).To)]), (781, Zfe x.2)]) (fun x => (0 ≤ x.1 ∧ x.1 ≤ (v_3.length : Int)) ∧ (x.2 = edK s ik t ls_1 t37.toNat ++ (v_3.take x.1.toNat).map (mkE (at_ ls_1 t37.toNat))) ∧ ((x.2.length : Int) ≤ 72 + x.1) ∧ True) (fun x => ((v_3.length : Int) - x.1).toNat) (0, es) rfl (show (0 ≤ (0 : Int) ∧ (0 : Int) ≤ (v_3.length : Int)) ∧ (es = edK s ik t ls_1 t37.toNat ++ (v_3.take (0 : Int).toNat).map (mkE (at_ ls_1 t37.toNat))) ∧ ((es.length : Int) ≤ 72 + (0 : Int)) ∧ True from ⟨om, (by simp [hes]), om, trivial⟩) (fun x hI => ?_)
     obtain ⟨t57, es2⟩ := x
     obtain ⟨hj0, hes2, hel2, _⟩ : (0 ≤ t57 ∧ t57 ≤ (v_3.length : Int)) ∧ (es2 = edK s ik t ls_1 t37.toNat ++ (v_3.take t57.toNat).map (mkE (at_ ls_1 t37.toNat))) ∧ ((es2.length : Int) ≤ 72 + t57) ∧ True := hI
     show XW _ _ _ _ (mkS [(3, .ref 3 0), (4, .ref 4 0), (5, .ref 5 0), (6, .ref 6 0), (8, .ref 8 0), (10, .ref 10 0), (35, Zfd true ls_1), (36, I (ls_1.length : Int)), (37, I t37), (55, Zbs true v_3), (56, I (v_3.length : Int)), (57, I t57)] [(3, Zdt s), (4, .box [Zae false ik.Strokes]), (5, Zcu t), (6, .box [I 0, Zcr]), (8, .box [I ((ik.Strokes.length : Int) + 1), .arr 781]), (10, .box [I ((at_ ls_1 t37.toNat).From), I ((at_ ls_1 t37.toNat).To)]), (781, Zfe es2)]) _ _
     refine Zat ?_
     by_cases h2 : t57 < (v_3.length : Int)
     ·have hi2 : t57.toNat < v_3.length := by omega
      have hjj : (t57 + 1).toNat = t57.toNat + 1 := by omega
      refine x_q [(0, .dec true)] [3, 4, 5, 6, 8, 10, 35, 36, 37, 55, 56, 57, 58] [3, 4, 5, 6, 8, 10, 781] [_] ⟨h2, trivial⟩ ?_
      refine Zad ?_
      refine Zat ?_
      refine Zfl ?_
      refine Zbv ?_
      refine Zad ?_
      refine Zat ?_
      refine Zbn ?_
      refine xQ [(2, .new 12)] [3, 4, 5, 6, 8, 10, 12, 35, 36, 37, 55, 56, 57] [3, 4, 5, 6, 8, 10, 12, 781] [(0 : Int) ≤ t57 ∧ t57 < (v_3.length : Int)] ⟨⟨om, om⟩, trivial⟩ ?_
      refine x_q [(11, .new 72), (12, .new 73)] [3, 4, 5, 6, 8, 10, 35, 36, 37, 55, 56, 57] [3, 4, 5, 6, 8, 10, 73] [(es2.length + 1) * 40 ≤ 140737488355328] ⟨om, trivial⟩ ?_
      refine Zbo 3 ?_
      refine Zad ?_
      refine x_r [] [3, 4, 5, 6, 8, 10, 35, 36, 37, 55, 56, 57] [3, 4, 5, 6, 8, 10, 73] [.ref 3 0, .ref 4 0, .ref 5 0, .ref 6 0, .ref 8 0, .ref 10 0, Zfd true ls_1, I (ls_1.length : Int), I t37, Zbs true v_3, I (v_3.length : Int), I (t57 + 1)] [some (Zdt s), some (.box [Zae false ik.Strokes]), some (Zcu t), some (.box [I 0, Zcr]), some (.box [I ((ik.Strokes.length : Int) + 1), .arr 73]), some (.box [I ((at_ ls_1 t37.toNat).From), I ((at_ ls_1 t37.toNat).To)]), some (.arr 4 (es2.length + 1) (Zgb es2.length (Zle es2) (Zgm [I ((at_ ls_1 t37.toNat).From), I ((at_ ls_1 t37.toNat).To), Sv ((at_ v_3 t57.toNat).Label), I ((at_ v_3 t57.toNat).Cost)] 4)))] [inR .i64 (t57 + 1)] ⟨(Zac om om), trivial⟩ ?_
      refine Zcl [(781, 73)] (T := [(3, .ref 3 0), (4, .ref 4 0), (5, .ref 5 0), (6, .ref 6 0), (8, .ref 8 0), (10, .ref 10 0), (35, Zfd true ls_1), (36, I (ls_1.length : Int)), (37, I t37), (55, Zbs true v_3), (56, I (v_3.length : Int)), (57, I (t57 + 1))]) (O := [(3, Zdt s), (4, .box [Zae false ik.Strokes]), (5, Zcu t), (6, .box [I 0, Zcr]), (8, .box [I ((ik.Strokes.length : Int) + 1), .arr 781]), (10, .box [I ((at_ ls_1 t37.toNat).From), I ((at_ ls_1 t37.toNat).To)]), (781, Zfe (es2 ++ [(Edge.mk ((at_ ls_1 t37.toNat).From) ((at_ ls_1 t37.toNat).To) ((at_ v_3 t57.toNat).Label) ((at_ v_3 t57.toNat).Cost))]))]) rfl (⟨.inl rfl, .inl rfl, .inl rfl, .inl rfl, .inl rfl, .inl rfl, .inl rfl, .inl rfl, .inl rfl, .inl rfl, .inl rfl, .inl rfl, trivial⟩) (⟨.inl rfl, .inl rfl, .inl rfl, .inl rfl, .inl rfl, .inl rfl, .inr ⟨rfl, (by first | rfl | (simp; done) | (simp; omega) | omega), fun i_ hi_ => .inl (Zcm (enc := Yaa) (xs := es2) rfl i_ hi_)⟩, trivial⟩) (Zbh ((t57 + 1), (es2 ++ [(Edge.mk ((at_ ls_1 t37.toNat).From) ((at_ ls_1 t37.toNat).To) ((at_ v_3 t57.toNat).Label) ((at_ v_3 t57.toNat).Cost))])) rfl (show (0 ≤ (t57 + 1) ∧ (t57 + 1) ≤ (v_3.length : Int)) ∧ ((es2 ++ [(Edge.mk ((at_ ls_1 t37.toNat).From) ((at_ ls_1 t37.toNat).To) ((at_ v_3 t57.toNat).Label) ((at_ v_3 t57.toNat).Cost))]) = edK s ik t ls_1 t37.toNat ++ (v_3.take (t57 + 1).toNat).map (mkE (at_ ls_1 t37.toNat))) ∧ (((es2 ++ [(Edge.mk ((at_ ls_1 t37.toNat).From) ((at_ ls_1 t37.toNat).To) ((at_ v_3 t57.toNat).Label) ((at_ v_3 t57.toNat).Cost))]).length : Int) ≤ 72 + (t57 + 1)) ∧ True from ⟨om, (by rw [hes2, hjj, List.take_succ_eq_append_getElem hi2, List.map_append, ← Zej hi2, List.append_assoc]; rfl), (by (simp; omega)), trivial⟩) (by first | (show (((v_3.length : Int) - (t57 + 1)).toNat : Nat) < ((v_3.length : Int) - t57).toNat; omega) | (dsimp only; omega)))
     have hes3 : es2 = edK s ik t ls_1 (t37.toNat + 1) := by rw [hes2, List.take_of_length_le om, hrc]; rfl
     refine x_r [(0, .dec false)] [3, 4, 5, 6, 8, 10, 35, 36, 37, 55, 56, 57, 58] [3, 4, 5, 6, 8, 10, 781] [.ref 3 0, .ref 4 0, .ref 5 0, .ref 6 0, .ref 8 0, .ref 10 0, Zfd true ls_1, I (ls_1.length : Int), I t37, Zbs true v_3, I (v_3.length : Int), I t57, Bv false] [some (Zdt s), some (.box [Zae false ik.Strokes]), some (Zcu t), some (.box [I 0, Zcr]), some (.box [I ((ik.Strokes.length : Int) + 1), .arr 781]), some (.box [I ((at_ ls_1 t37.toNat).From), I ((at_ ls_1 t37.toNat).To)]), some (Zfe es2)] [_] ⟨h2, trivial⟩ ?_
     refine Zad ?_
     refine Zat ?_
     refine Zcd rfl ?_
     refine Zde ?_
     refine Zax ?_
     refine Zbe ?_
     refine Zay ?_
     refine Zbo 1 ?_
     refine Zad ?_
     refine x_r [] [3, 4, 5, 6, 8, 35, 36, 37] [3, 4, 5, 6, 8, 781] [.ref 3 0, .ref 4 0, .ref 5 0, .ref 6 0, .ref 8 0, Zfd true ls_1, I (ls_1.length : Int), I (t37 + 1)] [some (Zdt s), some (.box [Zae false ik.Strokes]), some (Zcu t), some (.box [I 0, Zcr]), some (.box [I ((ik.Strokes.length : Int) + 1), .arr 781]), some (Zfe es2)] [inR .i64 (t37 + 1)] ⟨(Zac om om), trivial⟩ ?_
     exact Zbh ((t37 + 1), es2) rfl (show (0 ≤ (t37 + 1) ∧ (t37 + 1) ≤ (ls_1.length : Int)) ∧ (es2 = edK s ik t ls_1 (t37 + 1).toNat) ∧ True from ⟨om, (by rw [hii]; exact hes3), trivial⟩) (by first | (show (((ls_1.length : Int) - (t37 + 1)).toNat : Nat) < ((ls_1.length : Int) - t37).toNat; omega) | (dsimp only; omega))
    have hek := (Yck hst ok hset hp6 hgs t37.toNat om).2
    have hek2 : t.Most * ((t37.toNat : Nat) : Int) ≤ 8 * 9 := Int.mul_le_mul om om om om
    have hesl : es.length ≤ 72 := by rw [hes]; omega
    refine x_r [(0, .dec false)] [3, 4, 5, 6, 8, 35, 36, 37, 38] [3, 4, 5, 6, 8, 781] [.ref 3 0, .ref 4 0, .ref 5 0, .ref 6 0, .ref 8 0, Zfd true ls_1, I (ls_1.length : Int), I t37, Bv false] [some (Zdt s), some (.box [Zae false ik.Strokes]), some (Zcu t), some (.box [I 0, Zcr]), some (.box [I ((ik.Strokes.length : Int) + 1), .arr 781]), some (Zfe es)] [_] ⟨h1, trivial⟩ ?_
    refine Zad ?_
    refine Zat ?_
    refine Zcd rfl ?_
    refine Zde ?_
    refine Zax ?_
    refine Zbe ?_
    refine Zay ?_
    refine Zad ?_
    refine Zat ?_
    refine xR [(3, .dec false)] [6, 8, 80] [6, 8, 781] [.ref 6 0, .ref 8 0, Bv false] [some (.box [I 0, Zcr]), some (.box [I ((ik.Strokes.length : Int) + 1), .arr 781]), some (Zfe es)] [¬ (200 < (es.length : Int))] ⟨om, trivial⟩ ?_
    refine Zcd rfl ?_
    refine Zbv ?_
    refine Zad ?_
    refine Zat ?_
    refine Zcw [(8611, 781)] (T := [(6, .ref 6 0), (8, .ref 8 0), (80, Bv false)]) (O := [(6, .box [I 0, Zcr]), (8, .box [I ((ik.Strokes.length : Int) + 1), .arr 8611]), (8611, Zfe es)]) rfl (⟨.inl rfl, .inl rfl, .inl rfl, trivial⟩) (⟨.inl rfl, .inl rfl, .inl rfl, trivial⟩) ?_
    obtain ⟨data'_4, hx4_0, hx4_1, hc4⟩ := Yeb es om
    have hpm1 := hx4_0
    have hpm2 := hx4_1
    have hpl := hpm1.length_eq
    have hlt := edK_lat hst ok hset hp6 hgs om hn3 (by rw [hes, show t37.toNat = ls_1.length from by omega] at hpm1; exact hpm1) hpm2
    refine x_q [(2, .lend [(8611, Zfe es, Zfe data'_4)] [] [(true, .any), (true, .any)] true (.tup []))] [6, 8] [6, 8, 8611] [Zbb Tryz.prog 20 [.arr 8611, .fn 21 []] (Zaf [(8611, Zfe es)]) true (.tup []) (Zaf [(8611, Zfe data'_4)]) ∧ (((Zfe es : Ob) = Zfe es ∨ Zhk Zgd true (Zfe es) (Zfe es)) ∧ Zbc false (Zfe es)) ∧ True] ⟨⟨hc4, ⟨.inl rfl, fun _ _ => Ycm false _⟩, trivial⟩, trivial⟩ ?_
    refine Zad ?_
    refine xR [] [6, 7] [6, 8611] [.ref 6 0, I 0] [some (.box [I ((ik.Strokes.length : Int) + 1), .arr 8611]), some (Zfe data'_4)] [] trivial ?_
    refine Zem ?_
    refine Zcz ((Lattice.mk ((ik.Strokes.length : Int) + 1) data'_4), 0) (show (Zzy (Lattice.mk ((ik.Strokes.length : Int) + 1) data'_4) ∧ (Lattice.mk ((ik.Strokes.length : Int) + 1) data'_4).Nodes = (ik.Strokes.length : Int) + 1 ∧ ∀ e ∈ (Lattice.mk ((ik.Strokes.length : Int) + 1) data'_4).Edges, ∃ g_, (okG (ik.Strokes.length : Int) g_ ∧ g_.To ≤ g_.From + 3) ∧ e.From = g_.From ∧ e.To = g_.To ∧ ∃ h_ ∈ Zlh s (Zlc ik g_) t, h_.Label = e.Label ∧ h_.Cost = e.Cost) ∧ (0 = 0) ∧ (True) from ⟨(by exact ⟨hlt.1, rfl, hlt.2⟩), (by rfl), trivial⟩) (trivial) (.tup [.agg [I ((ik.Strokes.length : Int) + 1), .arr 8611], I 0]) (by kernel_rfl) (.inr ⟨⟨rfl, ⟨⟨(fun _ => rfl), rfl, rfl, fun i _ => .inl rfl⟩, rfl⟩⟩, ⟨rfl, rfl⟩⟩) (fun _ => rfl) (fun _ => (by simp [Zaj, Zag, Zvi]))
  obtain ⟨⟨v, c⟩, ⟨hh0, hh1, _⟩, hc⟩ := hh
  exact ⟨v, c, hh0, hh1, hc⟩
theorem Zcp (n : Int) (low : Int) (high : Int) : Con Tryz.prog 53 [I n, I low, I high] true (Bv (inB n low high)) := by
  refine Zbu (fn := Tryz.f53) (nt := 15) Tryz.func53 rfl rfl rfl rfl (by simp [Zag, Zaj]) fun B hB => ?_
  refine aQ [] [0, 1, 2] [] [] hB trivial ?_
  refine Zah ?_
  by_cases h1 : low ≤ n
  ·refine Zdg [(2, .dec true)] [6] [] [Bv (decide (n ≤ high))] [] [_] hB ⟨h1, trivial⟩ ?_
   refine Zaa ?_
   refine Zam ?_
   refine Zan hB (Bv (decide (n ≤ high))) (by kernel_rfl) (.inl (by first | rfl | (refine congrArg Bv ?_; simp [inB, *]; done) | (refine congrArg Bv ?_; simp [inB, *]; omega) | (refine congrArg Bv ?_; simp_all [inB]; done) | (refine congrArg Bv ?_; simp_all [inB]; omega))) rfl (fun _ => trivial)
  refine Zdg [(2, .dec false)] [6] [] [Bv false] [] [_] hB ⟨h1, trivial⟩ ?_
  refine Zaa ?_
  refine Zam ?_
  refine Zan hB (Bv false) (by kernel_rfl) (.inl (by first | rfl | (refine congrArg Bv ?_; simp [inB, *]; done) | (refine congrArg Bv ?_; simp [inB, *]; omega) | (refine congrArg Bv ?_; simp_all [inB]; done) | (refine congrArg Bv ?_; simp_all [inB]; omega))) rfl (fun _ => trivial)
theorem Zss (l : Lattice) (e : Edge) (he : okEd l e) (hn : l.Nodes ≤ 20) : Con Tryz.prog 54 [.ptr false [I l.Nodes, Zgk false l.Edges], .ptr false [I e.From, I e.To, Sv e.Label, I e.Cost]] true (Bv true) := by
 have h1 := he.1
 have h2 := he.2.1
 refine Zbu (fn := Tryz.f54) (nt := 40) Tryz.func54 rfl rfl rfl rfl (by simp [Zag, Zaj, Zvi]) fun B hB => ?_
 refine Zbt (x := .ptr false [I l.Nodes, Zgk false l.Edges]) 0 rfl (fun len_l => ?_)
 simp [Zdk, Zgf, Yaa, Zle, Zgk] at len_l
 refine aQ [] [0, 1] [] [] hB trivial ?_
 refine aR [(4, .dec true), (14, .dec true), (26, .dec true), (33, .call [(true, .any), (true, .any), (true, .any)] true (Bv (inB e.Cost 0 1000000)))] [4] [] [Bv (inB e.Cost 0 1000000)] [] [0 ≤ e.From, e.From < e.To, inR .i64 (l.Nodes - 1), e.To ≤ (l.Nodes - 1), _ ∧ True] hB ⟨om, om, (Zac om om), om, ⟨(Zcp e.Cost 0 1000000), trivial⟩, trivial⟩ ?_
 refine Zam ?_
 refine Zan hB (Bv (inB e.Cost 0 1000000)) (by kernel_rfl) (.inl (by first | rfl | (simp [inB]; omega))) rfl (fun _ => trivial)
theorem Zmd (c : Int) : Con Tryz.prog 141 [.val (.int .u8 c)] true (Bv (inB c 97 122)) := by
  refine Zbu (fn := Tryz.f141) (nt := 9) Tryz.func141 rfl rfl rfl rfl (by simp [Zag, Zaj]) fun B hB => ?_
  refine aQ [] [0] [] [] hB trivial ?_
  refine Zah ?_
  by_cases h1 : 97 ≤ c
  ·refine Zdg [(1, .dec true)] [2] [] [Bv (decide (c ≤ 122))] [] [_] hB ⟨h1, trivial⟩ ?_
   refine Zaa ?_
   refine Zam ?_
   refine Zan hB (Bv (decide (c ≤ 122))) (by kernel_rfl) (.inl (by first | rfl | (refine congrArg Bv ?_; simp [inB, *]; done) | (refine congrArg Bv ?_; simp [inB, *]; omega) | (refine congrArg Bv ?_; simp_all [inB]; done) | (refine congrArg Bv ?_; simp_all [inB]; omega))) rfl (fun _ => trivial)
  refine Zdg [(1, .dec false)] [2] [] [Bv false] [] [_] hB ⟨h1, trivial⟩ ?_
  refine Zaa ?_
  refine Zam ?_
  refine Zan hB (Bv false) (by kernel_rfl) (.inl (by first | rfl | (refine congrArg Bv ?_; simp [inB, *]; done) | (refine congrArg Bv ?_; simp [inB, *]; omega) | (refine congrArg Bv ?_; simp_all [inB]; done) | (refine congrArg Bv ?_; simp_all [inB]; omega))) rfl (fun _ => trivial)
theorem Yab (c : Int) : Con Tryz.prog 99 [.val (.int .u8 c)] true (Bv (Zgl c)) := by
  refine Zbu (fn := Tryz.f99) (nt := 24) Tryz.func99 rfl rfl rfl rfl (by simp [Zag, Zaj]) fun B hB => ?_
  refine aQ [] [0] [] [] hB trivial ?_
  refine Zah ?_
  refine aQ [] [0, 3] [] [] hB trivial ?_
  refine Zau ?_
  refine Zah ?_
  refine Zah ?_
  by_cases h1 : c = 43
  ·refine Zbm [(0, .dec true)] [0, 3, 4] [] [_] hB ⟨h1, trivial⟩ ?_
   refine Zaa ?_
   refine Zbq ?_
   refine Zas ?_
   refine Zaa ?_
   refine Zbq ?_
   refine aR [] [2] [] [Bv true] [] [] hB trivial ?_
   refine Zam ?_
   refine Zao (Zak ?_)
   refine Zan hB (Bv true) (by kernel_rfl) (.inl (by first | rfl | (refine congrArg Bv ?_; simp [Zgl, inB, *]; done) | (refine congrArg Bv ?_; simp [Zgl, inB, *]; omega) | (refine congrArg Bv ?_; simp_all [Zgl, inB]; done) | (refine congrArg Bv ?_; simp_all [Zgl, inB]; omega))) rfl (fun _ => trivial)
  refine Zbm [(0, .dec false)] [0, 3, 4] [] [_] hB ⟨h1, trivial⟩ ?_
  refine Zaa ?_
  refine Zbj ?_
  refine Zah ?_
  by_cases h2 : c = 45
  ·refine Zbm [(0, .dec true)] [0, 3, 4] [] [_] hB ⟨h2, trivial⟩ ?_
   refine Zaa ?_
   refine Zbq ?_
   refine Zas ?_
   refine Zaa ?_
   refine Zbq ?_
   refine aR [] [2] [] [Bv true] [] [] hB trivial ?_
   refine Zam ?_
   refine Zao (Zak ?_)
   refine Zan hB (Bv true) (by kernel_rfl) (.inl (by first | rfl | (refine congrArg Bv ?_; simp [Zgl, inB, *]; done) | (refine congrArg Bv ?_; simp [Zgl, inB, *]; omega) | (refine congrArg Bv ?_; simp_all [Zgl, inB]; done) | (refine congrArg Bv ?_; simp_all [Zgl, inB]; omega))) rfl (fun _ => trivial)
  refine Zbm [(0, .dec false)] [0, 3, 4] [] [_] hB ⟨h2, trivial⟩ ?_
  refine Zaa ?_
  refine Zbj ?_
  refine Zah ?_
  by_cases h3 : c = 42
  ·refine Zbm [(0, .dec true)] [0, 3, 4] [] [_] hB ⟨h3, trivial⟩ ?_
   refine Zaa ?_
   refine Zbq ?_
   refine Zas ?_
   refine Zaa ?_
   refine Zbq ?_
   refine aR [] [2] [] [Bv true] [] [] hB trivial ?_
   refine Zam ?_
   refine Zao (Zak ?_)
   refine Zan hB (Bv true) (by kernel_rfl) (.inl (by first | rfl | (refine congrArg Bv ?_; simp [Zgl, inB, *]; done) | (refine congrArg Bv ?_; simp [Zgl, inB, *]; omega) | (refine congrArg Bv ?_; simp_all [Zgl, inB]; done) | (refine congrArg Bv ?_; simp_all [Zgl, inB]; omega))) rfl (fun _ => trivial)
  refine Zbm [(0, .dec false)] [0, 3, 4] [] [_] hB ⟨h3, trivial⟩ ?_
  refine Zaa ?_
  refine Zbj ?_
  refine Zah ?_
  by_cases h4 : c = 47
  ·refine Zbm [(0, .dec true)] [0, 3, 4] [] [_] hB ⟨h4, trivial⟩ ?_
   refine Zaa ?_
   refine Zbq ?_
   refine Zas ?_
   refine Zaa ?_
   refine Zbq ?_
   refine aR [] [2] [] [Bv true] [] [] hB trivial ?_
   refine Zam ?_
   refine Zao (Zak ?_)
   refine Zan hB (Bv true) (by kernel_rfl) (.inl (by first | rfl | (refine congrArg Bv ?_; simp [Zgl, inB, *]; done) | (refine congrArg Bv ?_; simp [Zgl, inB, *]; omega) | (refine congrArg Bv ?_; simp_all [Zgl, inB]; done) | (refine congrArg Bv ?_; simp_all [Zgl, inB]; omega))) rfl (fun _ => trivial)
  refine Zbm [(0, .dec false)] [0, 3, 4] [] [_] hB ⟨h4, trivial⟩ ?_
  refine Zaa ?_
  refine Zbj ?_
  refine Zah ?_
  by_cases h5 : c = 61
  ·refine Zbm [(0, .dec true)] [0, 3, 4] [] [_] hB ⟨h5, trivial⟩ ?_
   refine Zaa ?_
   refine Zbq ?_
   refine Zas ?_
   refine Zaa ?_
   refine Zbq ?_
   refine aR [] [2] [] [Bv true] [] [] hB trivial ?_
   refine Zam ?_
   refine Zao (Zak ?_)
   refine Zan hB (Bv true) (by kernel_rfl) (.inl (by first | rfl | (refine congrArg Bv ?_; simp [Zgl, inB, *]; done) | (refine congrArg Bv ?_; simp [Zgl, inB, *]; omega) | (refine congrArg Bv ?_; simp_all [Zgl, inB]; done) | (refine congrArg Bv ?_; simp_all [Zgl, inB]; omega))) rfl (fun _ => trivial)
  refine Zbm [(0, .dec false)] [0, 3, 4] [] [_] hB ⟨h5, trivial⟩ ?_
  refine Zaa ?_
  refine Zbj ?_
  refine Zah ?_
  by_cases h6 : c = 40
  ·refine Zbm [(0, .dec true)] [0, 3, 4] [] [_] hB ⟨h6, trivial⟩ ?_
   refine Zaa ?_
   refine Zbq ?_
   refine Zas ?_
   refine Zaa ?_
   refine Zbq ?_
   refine aR [] [2] [] [Bv true] [] [] hB trivial ?_
   refine Zam ?_
   refine Zao (Zak ?_)
   refine Zan hB (Bv true) (by kernel_rfl) (.inl (by first | rfl | (refine congrArg Bv ?_; simp [Zgl, inB, *]; done) | (refine congrArg Bv ?_; simp [Zgl, inB, *]; omega) | (refine congrArg Bv ?_; simp_all [Zgl, inB]; done) | (refine congrArg Bv ?_; simp_all [Zgl, inB]; omega))) rfl (fun _ => trivial)
  refine Zbm [(0, .dec false)] [0, 3, 4] [] [_] hB ⟨h6, trivial⟩ ?_
  refine Zaa ?_
  refine Zbj ?_
  refine Zah ?_
  by_cases h7 : c = 41
  ·refine Zbm [(0, .dec true)] [0, 3, 4] [] [_] hB ⟨h7, trivial⟩ ?_
   refine Zaa ?_
   refine Zbq ?_
   refine Zas ?_
   refine Zaa ?_
   refine Zbq ?_
   refine aR [] [2] [] [Bv true] [] [] hB trivial ?_
   refine Zam ?_
   refine Zao (Zak ?_)
   refine Zan hB (Bv true) (by kernel_rfl) (.inl (by first | rfl | (refine congrArg Bv ?_; simp [Zgl, inB, *]; done) | (refine congrArg Bv ?_; simp [Zgl, inB, *]; omega) | (refine congrArg Bv ?_; simp_all [Zgl, inB]; done) | (refine congrArg Bv ?_; simp_all [Zgl, inB]; omega))) rfl (fun _ => trivial)
  refine Zbm [(0, .dec false)] [0, 3, 4] [] [_] hB ⟨h7, trivial⟩ ?_
  refine Zaa ?_
  refine Zbj ?_
  refine Zah ?_
  by_cases h8 : c = 46
  ·refine Zbm [(0, .dec true)] [0, 3, 4] [] [_] hB ⟨h8, trivial⟩ ?_
   refine Zaa ?_
   refine Zbq ?_
   refine Zas ?_
   refine Zaa ?_
   refine Zbq ?_
   refine aR [] [2] [] [Bv true] [] [] hB trivial ?_
   refine Zam ?_
   refine Zao (Zak ?_)
   refine Zan hB (Bv true) (by kernel_rfl) (.inl (by first | rfl | (refine congrArg Bv ?_; simp [Zgl, inB, *]; done) | (refine congrArg Bv ?_; simp [Zgl, inB, *]; omega) | (refine congrArg Bv ?_; simp_all [Zgl, inB]; done) | (refine congrArg Bv ?_; simp_all [Zgl, inB]; omega))) rfl (fun _ => trivial)
  refine Zbm [(0, .dec false)] [0, 3, 4] [] [_] hB ⟨h8, trivial⟩ ?_
  refine Zaa ?_
  refine Zbj ?_
  by_cases h9 : c = 44
  ·refine Zbm [(0, .dec true)] [0, 4] [] [_] hB ⟨h9, trivial⟩ ?_
   refine Zaa ?_
   refine Zbq ?_
   refine aR [] [2] [] [Bv true] [] [] hB trivial ?_
   refine Zam ?_
   refine Zao (Zak ?_)
   refine Zan hB (Bv true) (by kernel_rfl) (.inl (by first | rfl | (refine congrArg Bv ?_; simp [Zgl, inB, *]; done) | (refine congrArg Bv ?_; simp [Zgl, inB, *]; omega) | (refine congrArg Bv ?_; simp_all [Zgl, inB]; done) | (refine congrArg Bv ?_; simp_all [Zgl, inB]; omega))) rfl (fun _ => trivial)
  refine Zbm [(0, .dec false)] [0, 4] [] [_] hB ⟨h9, trivial⟩ ?_
  refine Zaa ?_
  refine Zbj ?_
  refine Zas ?_
  refine Zba 0 ?_
  refine Zaa ?_
  refine Zah ?_
  rcases Bool.eq_false_or_eq_true (inB c 97 122) with h10 | h10
  ·refine Zdg [(1, .call [(true, .any)] true (Bv true))] [2] [] [Bv true] [] [Con Tryz.prog 141 [.val (.int .u8 c)] true (Bv true) ∧ True] hB ⟨⟨(Zap h10 (Zmd c)), trivial⟩, trivial⟩ ?_
   refine Zaa ?_
   refine Zam ?_
   refine Zan hB (Bv true) (by kernel_rfl) (.inl (by first | rfl | (refine congrArg Bv ?_; simp [Zgl, inB, *]; done) | (refine congrArg Bv ?_; simp [Zgl, inB, *]; omega) | (refine congrArg Bv ?_; simp_all [Zgl, inB]; done) | (refine congrArg Bv ?_; simp_all [Zgl, inB]; omega))) rfl (fun _ => trivial)
  by_cases h11 : 48 ≤ c
  ·refine Zdg [(1, .call [(true, .any)] true (Bv false)), (4, .dec true)] [2] [] [Bv (decide (c ≤ 57))] [] [Con Tryz.prog 141 [.val (.int .u8 c)] true (Bv false) ∧ True, _] hB ⟨⟨(Zap h10 (Zmd c)), trivial⟩, h11, trivial⟩ ?_
   refine Zaa ?_
   refine Zam ?_
   refine Zan hB (Bv (decide (c ≤ 57))) (by kernel_rfl) (.inl (by first | rfl | (refine congrArg Bv ?_; simp [Zgl, inB, *]; done) | (refine congrArg Bv ?_; simp [Zgl, inB, *]; omega) | (refine congrArg Bv ?_; simp_all [Zgl, inB]; done) | (refine congrArg Bv ?_; simp_all [Zgl, inB]; omega))) rfl (fun _ => trivial)
  refine Zdg [(1, .call [(true, .any)] true (Bv false)), (4, .dec false)] [2] [] [Bv false] [] [Con Tryz.prog 141 [.val (.int .u8 c)] true (Bv false) ∧ True, _] hB ⟨⟨(Zap h10 (Zmd c)), trivial⟩, h11, trivial⟩ ?_
  refine Zaa ?_
  refine Zam ?_
  refine Zan hB (Bv false) (by kernel_rfl) (.inl (by first | rfl | (refine congrArg Bv ?_; simp [Zgl, inB, *]; done) | (refine congrArg Bv ?_; simp [Zgl, inB, *]; omega) | (refine congrArg Bv ?_; simp_all [Zgl, inB]; done) | (refine congrArg Bv ?_; simp_all [Zgl, inB]; omega))) rfl (fun _ => trivial)
theorem Zey (s : ByteArray) (ok : s.size ≤ 9223372036854775807) : Con Tryz.prog 55 [Sv s] true (Bv (Zco s)) := by
  refine Zbu (fn := Tryz.f55) (nt := 11) Tryz.func55 rfl rfl rfl rfl (by simp [Zag, Zaj]) fun B hB => ?_
  refine aQ [] [0] [] [] hB trivial ?_
  refine Zah ?_
  by_cases h1 : (s.size : Int) = 1
  ·refine Zdg [(2, .dec true), (6, .call [(true, .any)] true (Bv (Zgl (bAt s 0))))] [2] [] [Bv (Zgl (bAt s 0))] [] [_, (0 : Int) ≤ 0 ∧ 0 < (s.size : Int), _ ∧ True] hB ⟨h1, ⟨om, om⟩, ⟨(Yab (bAt s 0)), trivial⟩, trivial⟩ ?_
   refine Zaa ?_
   refine Zam ?_
   refine Zan hB (Bv (Zgl (bAt s 0))) (by kernel_rfl) (.inl (by first | rfl | (refine congrArg Bv ?_; simp [Zco, *]; done) | (refine congrArg Bv ?_; simp [Zco, *]; omega) | (refine congrArg Bv ?_; simp_all [Zco]; done) | (refine congrArg Bv ?_; simp_all [Zco]; omega))) rfl (fun _ => trivial)
  refine Zdg [(2, .dec false)] [2] [] [Bv false] [] [_] hB ⟨h1, trivial⟩ ?_
  refine Zaa ?_
  refine Zam ?_
  refine Zan hB (Bv false) (by kernel_rfl) (.inl (by first | rfl | (refine congrArg Bv ?_; simp [Zco, *]; done) | (refine congrArg Bv ?_; simp [Zco, *]; omega) | (refine congrArg Bv ?_; simp_all [Zco]; done) | (refine congrArg Bv ?_; simp_all [Zco]; omega))) rfl (fun _ => trivial)
theorem Zst (a : Int) (b : Int) : Con Tryz.prog 100 [I a, I b] true (I (Zfu a b)) := by
  refine Zbu (fn := Tryz.f100) (nt := 13) Tryz.func100 rfl rfl rfl rfl (by simp [Zag, Zaj]) fun B hB => ?_
  refine aQ [] [0, 1] [] [] hB trivial ?_
  refine Zah ?_
  refine Zau ?_
  refine Zah ?_
  by_cases h1 : a < b
  ·refine Zbm [(2, .dec true)] [0, 1, 5] [] [_] hB ⟨h1, trivial⟩ ?_
   refine Zaa ?_
   refine Zbq ?_
   refine aR [] [4] [] [I (-1)] [] [] hB trivial ?_
   refine Zam ?_
   refine Zao (Zak ?_)
   refine Zan hB (I (-1)) (by kernel_rfl) (.inl (by refine congrArg I ?_; unfold Zfu; first | (rw [if_pos om]; done) | (rw [if_neg om, if_pos om]; done) | (rw [if_neg om, if_neg om]; done))) rfl (fun _ => trivial)
  refine Zbm [(2, .dec false)] [0, 1, 5] [] [_] hB ⟨h1, trivial⟩ ?_
  refine Zaa ?_
  refine Zbj ?_
  refine Zah ?_
  by_cases h2 : b < a
  ·refine Zbm [(2, .dec true)] [9] [] [_] hB ⟨h2, trivial⟩ ?_
   refine Zaa ?_
   refine Zbq ?_
   refine aR [] [4] [] [I 1] [] [] hB trivial ?_
   refine Zam ?_
   refine Zao (Zak ?_)
   refine Zan hB (I 1) (by kernel_rfl) (.inl (by refine congrArg I ?_; unfold Zfu; first | (rw [if_pos om]; done) | (rw [if_neg om, if_pos om]; done) | (rw [if_neg om, if_neg om]; done))) rfl (fun _ => trivial)
  refine Zbm [(2, .dec false)] [9] [] [_] hB ⟨h2, trivial⟩ ?_
  refine Zaa ?_
  refine Zbj ?_
  refine Zas ?_
  refine Zba 0 ?_
  refine Zaa ?_
  refine aR [] [4] [] [I 0] [] [] hB trivial ?_
  refine Zam ?_
  refine Zan hB (I 0) (by kernel_rfl) (.inl (by refine congrArg I ?_; unfold Zfu; first | (rw [if_pos om]; done) | (rw [if_neg om, if_pos om]; done) | (rw [if_neg om, if_neg om]; done))) rfl (fun _ => trivial)
theorem Yac (a : Edge) (b : Edge) : Con Tryz.prog 56 [.ptr false [I a.From, I a.To, Sv a.Label, I a.Cost], .ptr false [I b.From, I b.To, Sv b.Label, I b.Cost]] true (I (Zxs a b)) := by
  refine Zbu (fn := Tryz.f56) (nt := 61) Tryz.func56 rfl rfl rfl rfl (by simp [Zag, Zaj]) fun B hB => ?_
  refine aQ [] [0, 1] [] [] hB trivial ?_
  refine Zah ?_
  refine Zah ?_
  by_cases h1 : a.From = b.From
  ·refine Zbm [(8, .dec false)] [0, 1, 13] [] [¬ (a.From ≠ b.From)] hB ⟨(fun hq => hq h1), trivial⟩ ?_
   refine Zaa ?_
   refine Zbj ?_
   refine Zas ?_
   refine Zaa ?_
   refine Zah ?_
   refine Zah ?_
   by_cases h2 : a.To = b.To
   ·refine Zbm [(8, .dec false)] [0, 1, 31] [] [¬ (a.To ≠ b.To)] hB ⟨(fun hq => hq h2), trivial⟩ ?_
    refine Zaa ?_
    refine Zbj ?_
    refine Zas ?_
    refine Zaa ?_
    refine Zah ?_
    refine Zau ?_
    refine Zah ?_
    by_cases h3 : Zgc a.Label b.Label = true
    ·refine Zbm [(8, .dec true)] [0, 1, 41] [] [_] hB ⟨h3, trivial⟩ ?_
     refine Zaa ?_
     refine Zbq ?_
     refine aR [] [4] [] [I (-1)] [] [] hB trivial ?_
     refine Zam ?_
     refine Zao (Zak ?_)
     refine Zan hB (I (-1)) (by kernel_rfl) (.inl (by refine congrArg I ?_; rw [Zmb]; simp only [Zfg, *]; first | rfl | (simp; done) | (unfold Ziv; simp [*]; done) | (have hq : a.Label = b.Label := by (by_cases q : a.Label = b.Label; (exact q); (simp_all))); (simp [Zfh.2 hq]))) rfl (fun _ => trivial)
    refine Zbm [(8, .dec false)] [0, 1, 41] [] [_] hB ⟨h3, trivial⟩ ?_
    refine Zaa ?_
    refine Zbj ?_
    refine Zah ?_
    by_cases h4 : Zgc a.Label b.Label = false ∧ a.Label ≠ b.Label
    ·refine Zbm [(8, .dec true)] [51] [] [_] hB ⟨h4, trivial⟩ ?_
     refine Zaa ?_
     refine Zbq ?_
     refine aR [] [4] [] [I 1] [] [] hB trivial ?_
     refine Zam ?_
     refine Zao (Zak ?_)
     refine Zan hB (I 1) (by kernel_rfl) (.inl (by refine congrArg I ?_; rw [Zmb]; simp only [Zfg, *]; first | rfl | (simp; done) | (unfold Ziv; simp [*]; done) | (have hq : a.Label = b.Label := by (by_cases q : a.Label = b.Label; (exact q); (simp_all))); (simp [Zfh.2 hq]))) rfl (fun _ => trivial)
    refine Zbm [(8, .dec false)] [51] [] [_] hB ⟨h4, trivial⟩ ?_
    refine Zaa ?_
    refine Zbj ?_
    refine Zas ?_
    refine Zba 0 ?_
    refine Zaa ?_
    refine aR [] [4] [] [I 0] [] [] hB trivial ?_
    refine Zam ?_
    refine Zan hB (I 0) (by kernel_rfl) (.inl (by refine congrArg I ?_; rw [Zmb]; simp only [Zfg, *]; first | rfl | (simp; done) | (unfold Ziv; simp [*]; done) | (have hq : a.Label = b.Label := by (by_cases q : a.Label = b.Label; (exact q); (simp_all))); (simp [Zfh.2 hq]))) rfl (fun _ => trivial)
   refine Zbm [(8, .dec true)] [0, 1, 31] [] [_] hB ⟨h2, trivial⟩ ?_
   refine Zaa ?_
   refine Zbq ?_
   refine aR [(8, .call [(true, .any), (true, .any)] true (I (Zfu a.To b.To)))] [4] [] [I (Zfu a.To b.To)] [] [_ ∧ True] hB ⟨⟨(Zst a.To b.To), trivial⟩, trivial⟩ ?_
   refine Zam ?_
   refine Zak ?_
   refine Zan hB (I (Zfu a.To b.To)) (by kernel_rfl) (.inl (by refine congrArg I ?_; rw [Zmb]; simp only [Zfg, *]; first | rfl | (simp; done) | (unfold Ziv; simp [*]; done) | (have hq : a.Label = b.Label := by (by_cases q : a.Label = b.Label; (exact q); (simp_all))); (simp [Zfh.2 hq]))) rfl (fun _ => trivial)
  refine Zbm [(8, .dec true)] [0, 1, 13] [] [_] hB ⟨h1, trivial⟩ ?_
  refine Zaa ?_
  refine Zbq ?_
  refine aR [(8, .call [(true, .any), (true, .any)] true (I (Zfu a.From b.From)))] [4] [] [I (Zfu a.From b.From)] [] [_ ∧ True] hB ⟨⟨(Zst a.From b.From), trivial⟩, trivial⟩ ?_
  refine Zam ?_
  refine Zak ?_
  refine Zan hB (I (Zfu a.From b.From)) (by kernel_rfl) (.inl (by refine congrArg I ?_; rw [Zmb]; simp only [Zfg, *]; first | rfl | (simp; done) | (unfold Ziv; simp [*]; done) | (have hq : a.Label = b.Label := by (by_cases q : a.Label = b.Label; (exact q); (simp_all))); (simp [Zfh.2 hq]))) rfl (fun _ => trivial)
theorem l15Ok_ok (l : Lattice) (hl : Zzy l) : Con Tryz.prog 22 [.ptr false [I l.Nodes, Zgk false l.Edges]] true (Bv true) := by
  have hn := hl.1
  have hc := hl.2.1
  refine Zbu (fn := Tryz.f22) (nt := 69) Tryz.func22 rfl rfl rfl rfl (by simp [Zag, Zaj, Zvi]) fun B hB => ?_
  refine Zbt (x := .ptr false [I l.Nodes, Zgk false l.Edges]) 0 rfl (fun len_l => ?_)
  simp [Zdk, Zgf, Yaa, Zle, Zgk] at len_l
  refine aQ [] [0] [] [] hB trivial ?_
  refine Zah ?_
  refine aQ [(4, .call [(true, .any), (true, .any), (true, .any)] true (Bv true)), (12, .dec false)] [0, 17] [] [Con Tryz.prog 53 [I l.Nodes, I 1, I 20] true (Bv true) ∧ True, ¬ (200 < (l.Edges.length : Int))] hB ⟨⟨(Zap (Zjk.2 hl.1) (Zcp l.Nodes 1 20)), trivial⟩, om, trivial⟩ ?_
  refine Zbj ?_
  refine Zas ?_
  refine Zaa ?_
  refine Zah ?_
  refine aR [] [0, 3] [] [.ptr false [I l.Nodes, Zgk false l.Edges], I 0] [] [] hB trivial ?_
  refine Zau ?_
  refine Zcn (fun gn gσ => ∃ (i : Int), gn = ((l.Edges.length : Int) - i).toNat ∧ (0 ≤ i ∧ i ≤ (l.Edges.length : Int)) ∧ gσ = mkS [(0, .ptr false [I l.Nodes, Zgk false l.Edges]), (3, I i)] []) (((l.Edges.length : Int) - 0).toNat) ⟨0, rfl, om, rfl⟩ (fun gn gσ hI => ?_)
  obtain ⟨i, rfl, hi0, rfl⟩ := hI
  refine Zah ?_
  refine Zah ?_
  by_cases h1 : i < (l.Edges.length : Int)
  ·have hi : i.toNat < l.Edges.length := by omega
   have hed := hl.2.2.1 _ hi
   refine Zbm [(6, .dec true)] [0, 3, 24] [] [_] hB ⟨h1, trivial⟩ ?_
   refine Zaa ?_
   refine Zbq ?_
   refine Zas ?_
   refine Zaa ?_
   refine Zah ?_
   refine Zau ?_
   refine Zah ?_
   by_cases h2 : 0 < i
   ·have hpr := Zsd hl.2.2.2 (show (i - 1).toNat < i.toNat by omega) hi
    refine Zbm [(7, .call [(true, .any), (true, .any)] true (Bv true)), (18, .call [(true, .any)] true (Bv true)), (23, .dec true), (38, .call [(true, .any), (true, .any)] true (I (Zxs (at_ l.Edges ((i - 1).toNat)) (at_ l.Edges i.toNat)))), (39, .dec false)] [0, 3, 68] [] [(0 : Int) ≤ i ∧ i < (l.Edges.length : Int), _ ∧ True, (0 : Int) ≤ i ∧ i < (l.Edges.length : Int), Con Tryz.prog 55 [Sv ((at_ l.Edges i.toNat).Label)] true (Bv true) ∧ True, _, inR .i64 (i - 1), (0 : Int) ≤ (i - 1) ∧ (i - 1) < (l.Edges.length : Int), (0 : Int) ≤ i ∧ i < (l.Edges.length : Int), _ ∧ True, ¬ (0 ≤ (Zxs (at_ l.Edges ((i - 1).toNat)) (at_ l.Edges i.toNat)))] hB ⟨⟨om, om⟩, ⟨(Zss l (at_ l.Edges i.toNat) hed om), trivial⟩, ⟨om, om⟩, ⟨(Zap hed.2.2 (Zey ((at_ l.Edges i.toNat).Label) (by have := Ycn hed.2.2; omega))), trivial⟩, h2, (Zac om om), ⟨om, om⟩, ⟨om, om⟩, ⟨(Yac (at_ l.Edges ((i - 1).toNat)) (at_ l.Edges i.toNat)), trivial⟩, om, trivial⟩ ?_
    refine Zaa ?_
    refine Zbj ?_
    refine Zas ?_
    refine Zba 1 ?_
    refine Zaa ?_
    refine Zdg [] [0, 3] [] [.ptr false [I l.Nodes, Zgk false l.Edges], I (i + 1)] [] [inR .i64 (i + 1)] hB ⟨(Zac om om), trivial⟩ ?_
    exact Zbf _ om ⟨(i + 1), rfl, om, rfl⟩
   refine Zbm [(7, .call [(true, .any), (true, .any)] true (Bv true)), (18, .call [(true, .any)] true (Bv true)), (23, .dec false)] [0, 3, 68] [] [(0 : Int) ≤ i ∧ i < (l.Edges.length : Int), _ ∧ True, (0 : Int) ≤ i ∧ i < (l.Edges.length : Int), Con Tryz.prog 55 [Sv ((at_ l.Edges i.toNat).Label)] true (Bv true) ∧ True, _] hB ⟨⟨om, om⟩, ⟨(Zss l (at_ l.Edges i.toNat) hed om), trivial⟩, ⟨om, om⟩, ⟨(Zap hed.2.2 (Zey ((at_ l.Edges i.toNat).Label) (by have := Ycn hed.2.2; omega))), trivial⟩, h2, trivial⟩ ?_
   refine Zaa ?_
   refine Zbj ?_
   refine Zas ?_
   refine Zba 1 ?_
   refine Zaa ?_
   refine Zdg [] [0, 3] [] [.ptr false [I l.Nodes, Zgk false l.Edges], I (i + 1)] [] [inR .i64 (i + 1)] hB ⟨(Zac om om), trivial⟩ ?_
   exact Zbf _ om ⟨(i + 1), rfl, om, rfl⟩
  refine Zbm [(6, .dec false)] [0, 3, 24] [] [_] hB ⟨h1, trivial⟩ ?_
  refine Zaa ?_
  refine Zbj ?_
  refine Zcj ?_
  refine Zal ?_
  refine Zal ?_
  refine Zaw ?_
  refine Zaa ?_
  refine aR [] [2] [] [Bv true] [] [] hB trivial ?_
  refine Zam ?_
  refine Zan hB (Bv true) (by kernel_rfl) (.inl rfl) rfl (fun _ => trivial)
theorem Zlr (l : Lattice) (hl : Zzy l) : Con Tryz.prog 7 [Zpv l] true (Bv true) := by
 refine Zbu (fn := Tryz.f7) (nt := 4) Tryz.func7 rfl rfl rfl rfl (by simp [Zag, Zaj, Zvi]) fun B hB => ?_
 refine Zbt (x := Zpv l) 0 rfl (fun len_l => ?_)
 simp [Zdk, Zgf, Yaa, Zle, Zgk] at len_l
 refine aQ [(0, .new 1)] [1] [1] [] hB trivial ?_
 refine aR [(0, .call [(false, .ptr false [I l.Nodes, Zgk false l.Edges])] true (Bv true))] [2] [] [Bv true] [] [_ ∧ ((false = true → true = true) ∧ AV.idsL [I l.Nodes, Zgk false l.Edges] = [] ∧ (Zen (I l.Nodes) = Zen (I l.Nodes)) ∧ ((false = true → false = true) ∧ 4 = 4 ∧ l.Edges.length = l.Edges.length ∧ ∀ i_, i_ < l.Edges.length → (Zle l.Edges) i_ = (Zle l.Edges) i_ ∨ (AV.idsL ((Zle l.Edges) i_) = [] ∧ leL (fun _ => none) false ((Zle l.Edges) i_) ((Zle l.Edges) i_))) ∧ ([] : List AV) = []) ∧ True] hB ⟨⟨(l15Ok_ok l hl), ⟨(fun h => by cases h), rfl, ⟨rfl, ⟨⟨(fun h => by cases h), rfl, rfl, fun i _ => .inl rfl⟩, rfl⟩⟩⟩, trivial⟩, trivial⟩ ?_
 refine Zam ?_
 refine Zan hB (Bv true) (by kernel_rfl) (.inl rfl) rfl (fun _ => trivial)
theorem Zjs (p : Point) : Con Tryz.prog 101 [Zct p] true (Bv (okP p)) := by
  refine Zbu (fn := Tryz.f101) (nt := 16) Tryz.func101 rfl rfl rfl rfl (by simp [Zag, Zaj]) fun B hB => ?_
  refine aQ [(0, .new 1)] [1] [1] [] hB trivial ?_
  refine Zah ?_
  rcases Bool.eq_false_or_eq_true (inB p.X 0 4095) with h1 | h1
  ·rcases Bool.eq_false_or_eq_true (inB p.Y 0 4095) with h2 | h2
   ·refine Zdg [(2, .call [(true, .any), (true, .any), (true, .any)] true (Bv true)), (6, .call [(true, .any), (true, .any), (true, .any)] true (Bv true)), (11, .call [(true, .any), (true, .any), (true, .any)] true (Bv (inB p.T 0 3600000)))] [2] [] [Bv (inB p.T 0 3600000)] [] [Con Tryz.prog 53 [I p.X, I 0, I 4095] true (Bv true) ∧ True, Con Tryz.prog 53 [I p.Y, I 0, I 4095] true (Bv true) ∧ True, _ ∧ True] hB ⟨⟨(Zap h1 (Zcp p.X 0 4095)), trivial⟩, ⟨(Zap h2 (Zcp p.Y 0 4095)), trivial⟩, ⟨(Zcp p.T 0 3600000), trivial⟩, trivial⟩ ?_
    refine Zaa ?_
    refine Zam ?_
    refine Zan hB (Bv (inB p.T 0 3600000)) (by kernel_rfl) (.inl (by first | rfl | (refine congrArg Bv ?_; simp [okP, *]; done) | (refine congrArg Bv ?_; simp [okP, *]; omega) | (refine congrArg Bv ?_; simp_all [okP]; done) | (refine congrArg Bv ?_; simp_all [okP]; omega))) rfl (fun _ => trivial)
   refine Zdg [(2, .call [(true, .any), (true, .any), (true, .any)] true (Bv true)), (6, .call [(true, .any), (true, .any), (true, .any)] true (Bv false))] [2] [] [Bv false] [] [Con Tryz.prog 53 [I p.X, I 0, I 4095] true (Bv true) ∧ True, Con Tryz.prog 53 [I p.Y, I 0, I 4095] true (Bv false) ∧ True] hB ⟨⟨(Zap h1 (Zcp p.X 0 4095)), trivial⟩, ⟨(Zap h2 (Zcp p.Y 0 4095)), trivial⟩, trivial⟩ ?_
   refine Zaa ?_
   refine Zam ?_
   refine Zan hB (Bv false) (by kernel_rfl) (.inl (by first | rfl | (refine congrArg Bv ?_; simp [okP, *]; done) | (refine congrArg Bv ?_; simp [okP, *]; omega) | (refine congrArg Bv ?_; simp_all [okP]; done) | (refine congrArg Bv ?_; simp_all [okP]; omega))) rfl (fun _ => trivial)
  refine Zdg [(2, .call [(true, .any), (true, .any), (true, .any)] true (Bv false))] [2] [] [Bv false] [] [Con Tryz.prog 53 [I p.X, I 0, I 4095] true (Bv false) ∧ True] hB ⟨⟨(Zap h1 (Zcp p.X 0 4095)), trivial⟩, trivial⟩ ?_
  refine Zaa ?_
  refine Zam ?_
  refine Zan hB (Bv false) (by kernel_rfl) (.inl (by first | rfl | (refine congrArg Bv ?_; simp [okP, *]; done) | (refine congrArg Bv ?_; simp [okP, *]; omega) | (refine congrArg Bv ?_; simp_all [okP]; done) | (refine congrArg Bv ?_; simp_all [okP]; omega))) rfl (fun _ => trivial)
theorem Zim (s : Stroke) : Con Tryz.prog 57 [.ptr false [Zaq false s.Points]] true (Bv (Zar s)) := by
  refine Zbu (fn := Tryz.f57) (nt := 52) Tryz.func57 rfl rfl rfl rfl (by simp [Zag, Zaj, Zec]) fun B hB => ?_
  refine Zbt (x := .ptr false [Zaq false s.Points]) 0 rfl (fun len_s => ?_)
  simp [Zdk, Zgf, Zee, Zdl, Zaq] at len_s
  refine aQ [] [0] [] [] hB trivial ?_
  refine Zah ?_
  refine aR [] [0, 3] [] [.ptr false [Zaq false s.Points], I 0] [] [] hB trivial ?_
  refine Zau ?_
  refine Zcn (fun gn gσ => ∃ (i : Int), gn = ((s.Points.length : Int) - i).toNat ∧ (0 ≤ i ∧ i ≤ (s.Points.length : Int)) ∧ (∀ j : Nat, (j : Int) < i → Zsu s.Points j = true) ∧ gσ = mkS [(0, .ptr false [Zaq false s.Points]), (3, I i)] []) (((s.Points.length : Int) - 0).toNat) ⟨0, rfl, om, (by intro j hj; omega), rfl⟩ (fun gn gσ hI => ?_)
  obtain ⟨i, rfl, hi0, hall0, rfl⟩ := hI
  refine Zah ?_
  refine Zah ?_
  by_cases h1 : i < (s.Points.length : Int)
  ·have hi : i.toNat < s.Points.length := by omega
   refine Zbm [(6, .dec true)] [0, 3, 10] [] [_] hB ⟨h1, trivial⟩ ?_
   refine Zaa ?_
   refine Zbq ?_
   refine Zas ?_
   refine Zaa ?_
   refine Zah ?_
   refine Zau ?_
   refine Zah ?_
   rcases Bool.eq_false_or_eq_true (okP (at_ s.Points i.toNat)) with h2 | h2
   ·by_cases h3 : 0 < i
    ·by_cases h4 : ((at_ s.Points i.toNat).T) ≤ ((at_ s.Points ((i - 1).toNat)).T)
     ·have hall : Znc s.Points.length (Zsu s.Points) = false := Zgg hi (Yhw h3 h4)
      refine Zbm [(7, .call [(true, .any)] true (Bv true)), (11, .dec true), (30, .dec true)] [0, 3, 45] [] [(0 : Int) ≤ i ∧ i < (s.Points.length : Int), Con Tryz.prog 101 [Zct (at_ s.Points i.toNat)] true (Bv true) ∧ True, _, (0 : Int) ≤ i ∧ i < (s.Points.length : Int), inR .i64 (i - 1), (0 : Int) ≤ (i - 1) ∧ (i - 1) < (s.Points.length : Int), _] hB ⟨⟨om, om⟩, ⟨(Zap h2 (Zjs (at_ s.Points i.toNat))), trivial⟩, h3, ⟨om, om⟩, (Zac om om), ⟨om, om⟩, h4, trivial⟩ ?_
      refine Zaa ?_
      refine Zbq ?_
      refine aR [] [2] [] [Bv false] [] [] hB trivial ?_
      refine Zam ?_
      refine Zao (Zak (Zak (Zao (Zak ?_))))
      refine Zan hB (Bv false) (by kernel_rfl) (.inl (by first | rfl | (refine congrArg Bv ?_; simp [Zar, inB, *]; done) | (refine congrArg Bv ?_; simp [Zar, inB, *]; omega) | (refine congrArg Bv ?_; simp_all [Zar, inB]; done) | (refine congrArg Bv ?_; simp_all [Zar, inB]; omega))) rfl (fun _ => trivial)
     have hok := Yco h2 h3 h4
     refine Zbm [(7, .call [(true, .any)] true (Bv true)), (11, .dec true), (30, .dec false)] [0, 3, 45] [] [(0 : Int) ≤ i ∧ i < (s.Points.length : Int), Con Tryz.prog 101 [Zct (at_ s.Points i.toNat)] true (Bv true) ∧ True, _, (0 : Int) ≤ i ∧ i < (s.Points.length : Int), inR .i64 (i - 1), (0 : Int) ≤ (i - 1) ∧ (i - 1) < (s.Points.length : Int), _] hB ⟨⟨om, om⟩, ⟨(Zap h2 (Zjs (at_ s.Points i.toNat))), trivial⟩, h3, ⟨om, om⟩, (Zac om om), ⟨om, om⟩, h4, trivial⟩ ?_
     refine Zaa ?_
     refine Zbj ?_
     refine Zas ?_
     refine Zba 1 ?_
     refine Zaa ?_
     refine Zdg [] [0, 3] [] [.ptr false [Zaq false s.Points], I (i + 1)] [] [inR .i64 (i + 1)] hB ⟨(Zac om om), trivial⟩ ?_
     exact Zbf _ om ⟨(i + 1), rfl, om, (by intro j hj; by_cases ej : j = i.toNat; (subst ej; first | assumption | exact hok); exact hall0 j om), rfl⟩
    have hok := Zxt h2 hi0.1 h3
    refine Zbm [(7, .call [(true, .any)] true (Bv true)), (11, .dec false)] [0, 3, 45] [] [(0 : Int) ≤ i ∧ i < (s.Points.length : Int), Con Tryz.prog 101 [Zct (at_ s.Points i.toNat)] true (Bv true) ∧ True, _] hB ⟨⟨om, om⟩, ⟨(Zap h2 (Zjs (at_ s.Points i.toNat))), trivial⟩, h3, trivial⟩ ?_
    refine Zaa ?_
    refine Zbj ?_
    refine Zas ?_
    refine Zba 1 ?_
    refine Zaa ?_
    refine Zdg [] [0, 3] [] [.ptr false [Zaq false s.Points], I (i + 1)] [] [inR .i64 (i + 1)] hB ⟨(Zac om om), trivial⟩ ?_
    exact Zbf _ om ⟨(i + 1), rfl, om, (by intro j hj; by_cases ej : j = i.toNat; (subst ej; first | assumption | exact hok); exact hall0 j om), rfl⟩
   have hall : Znc s.Points.length (Zsu s.Points) = false := Zgg hi (Ycp h2)
   refine Zbm [(7, .call [(true, .any)] true (Bv false))] [0, 3, 45] [] [(0 : Int) ≤ i ∧ i < (s.Points.length : Int), Con Tryz.prog 101 [Zct (at_ s.Points i.toNat)] true (Bv false) ∧ True] hB ⟨⟨om, om⟩, ⟨(Zap h2 (Zjs (at_ s.Points i.toNat))), trivial⟩, trivial⟩ ?_
   refine Zaa ?_
   refine Zbq ?_
   refine aR [] [2] [] [Bv false] [] [] hB trivial ?_
   refine Zam ?_
   refine Zao (Zak (Zak (Zao (Zak ?_))))
   refine Zan hB (Bv false) (by kernel_rfl) (.inl (by first | rfl | (refine congrArg Bv ?_; simp [Zar, inB, *]; done) | (refine congrArg Bv ?_; simp [Zar, inB, *]; omega) | (refine congrArg Bv ?_; simp_all [Zar, inB]; done) | (refine congrArg Bv ?_; simp_all [Zar, inB]; omega))) rfl (fun _ => trivial)
  have hall : Znc s.Points.length (Zsu s.Points) = true := Zit (fun j hj => hall0 j om)
  refine Zbm [(6, .dec false)] [0, 3, 10] [] [_] hB ⟨h1, trivial⟩ ?_
  refine Zaa ?_
  refine Zbj ?_
  refine Zcj ?_
  refine Zal ?_
  refine Zal ?_
  refine Zaw ?_
  refine Zaa ?_
  refine aR [(5, .call [(true, .any), (true, .any), (true, .any)] true (Bv (inB (s.Points.length : Int) 1 60)))] [2] [] [Bv (inB (s.Points.length : Int) 1 60)] [] [_ ∧ True] hB ⟨⟨(Zcp (s.Points.length : Int) 1 60), trivial⟩, trivial⟩ ?_
  refine Zam ?_
  refine Zan hB (Bv (inB (s.Points.length : Int) 1 60)) (by kernel_rfl) (.inl (by first | rfl | (refine congrArg Bv ?_; simp [Zar, inB, *]; done) | (refine congrArg Bv ?_; simp [Zar, inB, *]; omega) | (refine congrArg Bv ?_; simp_all [Zar, inB]; done) | (refine congrArg Bv ?_; simp_all [Zar, inB]; omega))) rfl (fun _ => trivial)
end Go.Proofs.YtapmeemeciigdaaGreat.Ax
