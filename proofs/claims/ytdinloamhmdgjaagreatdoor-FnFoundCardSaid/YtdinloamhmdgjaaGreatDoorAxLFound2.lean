/- Contracts that the statement FnFound reaches, part 2. No conditions. -/
import Derived.Test.YtdinloamhmdgjaaGreatDoorAxLFound1
import Derived.LaidMore
import Derived.Lay
import Derived.Lib.IndexBytes
import Derived.Lib.ItoaNum
import Derived.Lib.ParseIntBCases
import Derived.Lib.SplitLaws
import Derived.OpenShut
import Derived.SevenTiedAt
import Derived.Stop.Joined
import Derived.Test.YtdinloamhmdgjaaGreatDoorAxBd
import Derived.Test.YtdinloamhmdgjaaGreatDoorAxIN
import Derived.Test.YtdinloamhmdgjaaGreatDoorAxR
import Derived.Test.YtdinloamhmdgjaaGreatDoorAxS
import Derived.Test.YtdinloamhmdgjaaGreatDoorAxSF
import Derived.Test.YtdinloamhmdgjaaGreatDoorAxVc
import Derived.Test.YtdinloamhmdgjaaGreatDoorSfFndShelf
import Derived.Test.YtdinloamhmdgjaaGreatDoorSfRdgShelf
namespace Go.Proofs.YtdinloamhmdgjaaGreatDoor.Ax
open Go.RowKit Go.ChangeShapes Go.WideShapes
set_option linter.unusedVariables false
set_option linter.unusedSimpArgs false
theorem Zil (s : ByteArray) (ok : s.size ≤ 9223372036854775807) : Con Tryz.prog 92 [Sv s] true (Bv (Zdt s)) := by
  refine Zeb (fn := Tryz.f92) (nt := 15) Tryz.func92 rfl rfl rfl rfl (by simp [Zaj, Zan]) fun B hB => ?_
  refine aR [] [0] [] [Sv s] [] [] hB trivial ?_
  refine Zam ?_
  by_cases h1 : (s.size : Int) = 1
  ·rcases Bool.eq_false_or_eq_true (inB (bAt s 0) 97 122) with h2 | h2
   ·refine Zbs [(2, .dec true), (6, .call [(true, .any)] true (Bv true))] [2] [] [Bv true] [] [(s.size : Int) = 1, (0 : Int) ≤ 0 ∧ 0 < (s.size : Int), Con Tryz.prog 112 [.val (.int .u8 (bAt s 0))] true (Bv true) ∧ True] hB ⟨h1, ⟨(by omega), (by omega)⟩, ⟨(Zbv h2 (Zhh (bAt s 0))), trivial⟩, trivial⟩ ?_
    refine Zae ?_
    refine Zba ?_
    refine Zbb hB (Bv true) (by kernel_rfl) (.inl (by first | (refine congrArg Bv ?_; simp_all [Zdt, Zev, inB]; done) | (refine congrArg Bv ?_; have hbd := Ybk s 0; rw [Bool.eq_iff_iff]; simp_all [Zdt, hasB, Zev, inB]; omega))) rfl (fun _ => trivial)
   refine Zbs [(2, .dec true), (6, .call [(true, .any)] true (Bv false)), (9, .call [(true, .any), (true, .any)] true (Bv (hasB (⟨#[48, 49, 50, 51, 52, 53, 54, 55, 56, 57, 43, 45, 42, 47, 61, 40, 41, 46, 44]⟩ : ByteArray) (bAt s 0))))] [2] [] [Bv (hasB (⟨#[48, 49, 50, 51, 52, 53, 54, 55, 56, 57, 43, 45, 42, 47, 61, 40, 41, 46, 44]⟩ : ByteArray) (bAt s 0))] [] [(s.size : Int) = 1, (0 : Int) ≤ 0 ∧ 0 < (s.size : Int), Con Tryz.prog 112 [.val (.int .u8 (bAt s 0))] true (Bv false) ∧ True, Con Tryz.prog 146 [Sv (⟨#[48, 49, 50, 51, 52, 53, 54, 55, 56, 57, 43, 45, 42, 47, 61, 40, 41, 46, 44]⟩ : ByteArray), Sv s] true (Bv (hasB (⟨#[48, 49, 50, 51, 52, 53, 54, 55, 56, 57, 43, 45, 42, 47, 61, 40, 41, 46, 44]⟩ : ByteArray) (bAt s 0))) ∧ True] hB ⟨h1, ⟨(by omega), (by omega)⟩, ⟨(Zbv h2 (Zhh (bAt s 0))), trivial⟩, ⟨(Zur (⟨#[48, 49, 50, 51, 52, 53, 54, 55, 56, 57, 43, 45, 42, 47, 61, 40, 41, 46, 44]⟩ : ByteArray) s (by omega)), trivial⟩, trivial⟩ ?_
   refine Zae ?_
   refine Zba ?_
   refine Zbb hB (Bv (hasB (⟨#[48, 49, 50, 51, 52, 53, 54, 55, 56, 57, 43, 45, 42, 47, 61, 40, 41, 46, 44]⟩ : ByteArray) (bAt s 0))) (by kernel_rfl) (.inl (by first | (refine congrArg Bv ?_; simp_all [Zdt, Zev, inB]; done) | (refine congrArg Bv ?_; have hbd := Ybk s 0; rw [Bool.eq_iff_iff]; simp_all [Zdt, hasB, Zev, inB]; omega))) rfl (fun _ => trivial)
  refine Zbs [(2, .dec false)] [2] [] [Bv false] [] [¬ ((s.size : Int) = 1)] hB ⟨h1, trivial⟩ ?_
  refine Zae ?_
  refine Zba ?_
  refine Zbb hB (Bv false) (by kernel_rfl) (.inl (by first | (refine congrArg Bv ?_; simp_all [Zdt, Zev, inB]; done) | (refine congrArg Bv ?_; have hbd := Ybk s 0; rw [Bool.eq_iff_iff]; simp_all [Zdt, hasB, Zev, inB]; omega))) rfl (fun _ => trivial)
theorem Zta (x : Int) : Con Tryz.prog 183 [I x] true (Bv false) := by
  refine Zeb (fn := Tryz.f183) (nt := 6) Tryz.func183 rfl rfl rfl rfl (by simp [Zaj, Zan]) fun B hB => ?_
  refine aR [] [0] [] [I x] [] [] hB trivial ?_
  refine aR [(2, .dec false)] [2] [] [Bv false] [] [¬ (x ≠ x)] hB ⟨(fun hq => hq rfl), trivial⟩ ?_
  refine Zba ?_
  refine Zbb hB (Bv false) (by kernel_rfl) (.inl rfl) rfl (fun _ => trivial)
theorem Zmv (x : Int) (y : Int) : Con Tryz.prog 148 [I x, I y] true (I (Zdd x y)) := by
  refine Zeb (fn := Tryz.f148) (nt := 20) Tryz.func148 rfl rfl rfl rfl (by simp [Zaj, Zan]) fun B hB => ?_
  refine aR [] [0, 1] [] [I x, I y] [] [] hB trivial ?_
  refine aR [(1, .call [(true, .any)] true (Bv false))] [0, 1, 5] [] [I x, I y, Bv false] [] [Con Tryz.prog 183 [I x] true (Bv false) ∧ True] hB ⟨⟨(Zta x), trivial⟩, trivial⟩ ?_
  refine aR [(1, .call [(true, .any)] true (Bv false))] [0, 1, 5, 6] [] [I x, I y, Bv false, Bv false] [] [Con Tryz.prog 183 [I y] true (Bv false) ∧ True] hB ⟨⟨(Zta y), trivial⟩, trivial⟩ ?_
  refine Zam ?_
  refine aR [] [0, 1, 6, 11] [] [I x, I y, Bv false, Bv false] [] [] hB trivial ?_
  refine Zat rfl ?_
  refine Zaz ?_
  refine Zae ?_
  refine Zam ?_
  refine aR [] [0, 1, 13] [] [I x, I y, Bv false] [] [] hB trivial ?_
  refine Zat rfl ?_
  refine Zaz ?_
  refine Zae ?_
  refine Zam ?_
  refine Zam ?_
  by_cases h1 : x < y
  ·refine Zbs [(2, .dec true)] [0, 1, 16] [] [I x, I y, Bv true] [] [x < y] hB ⟨h1, trivial⟩ ?_
   refine Zae ?_
   refine Zbg rfl ?_
   refine aR [] [4] [] [I (-1)] [] [] hB trivial ?_
   refine Zba ?_
   refine Zaq ?_
   refine Zbb hB (I (-1)) (by kernel_rfl) (.inl (by refine congrArg I ?_; unfold Zdd; first | (rw [if_pos (by omega)]; done) | (rw [if_neg (by omega), if_pos (by omega)]; done) | (rw [if_neg (by omega), if_neg (by omega)]; done))) rfl (fun _ => trivial)
  refine Zbs [(2, .dec false)] [0, 1, 16] [] [I x, I y, Bv false] [] [¬ (x < y)] hB ⟨h1, trivial⟩ ?_
  refine Zae ?_
  refine Zat rfl ?_
  refine Zaz ?_
  refine Zae ?_
  refine Zam ?_
  refine Zam ?_
  by_cases h2 : y < x
  ·refine Zbs [(2, .dec true)] [19] [] [Bv true] [] [y < x] hB ⟨h2, trivial⟩ ?_
   refine Zae ?_
   refine Zbg rfl ?_
   refine aR [] [4] [] [I 1] [] [] hB trivial ?_
   refine Zba ?_
   refine Zaq ?_
   refine Zbb hB (I 1) (by kernel_rfl) (.inl (by refine congrArg I ?_; unfold Zdd; first | (rw [if_pos (by omega)]; done) | (rw [if_neg (by omega), if_pos (by omega)]; done) | (rw [if_neg (by omega), if_neg (by omega)]; done))) rfl (fun _ => trivial)
  refine Zbs [(2, .dec false)] [19] [] [Bv false] [] [¬ (y < x)] hB ⟨h2, trivial⟩ ?_
  refine Zae ?_
  refine Zat rfl ?_
  refine Zaz ?_
  refine Zae ?_
  refine aR [] [4] [] [I 0] [] [] hB trivial ?_
  refine Zba ?_
  refine Zbb hB (I 0) (by kernel_rfl) (.inl (by refine congrArg I ?_; unfold Zdd; first | (rw [if_pos (by omega)]; done) | (rw [if_neg (by omega), if_pos (by omega)]; done) | (rw [if_neg (by omega), if_neg (by omega)]; done))) rfl (fun _ => trivial)
theorem Ztb (x : ByteArray) : Con Tryz.prog 164 [Sv x] true (Bv false) := by
  refine Zeb (fn := Tryz.f164) (nt := 6) Tryz.func164 rfl rfl rfl rfl (by simp [Zaj, Zan]) fun B hB => ?_
  refine aR [] [0] [] [Sv x] [] [] hB trivial ?_
  refine aR [(2, .dec false)] [2] [] [Bv false] [] [¬ (x ≠ x)] hB ⟨(fun hq => hq rfl), trivial⟩ ?_
  refine Zba ?_
  refine Zbb hB (Bv false) (by kernel_rfl) (.inl rfl) rfl (fun _ => trivial)
theorem Zmw (x : ByteArray) (y : ByteArray) : Con Tryz.prog 115 [Sv x, Sv y] true (I (Zdm x y)) := by
  refine Zeb (fn := Tryz.f115) (nt := 20) Tryz.func115 rfl rfl rfl rfl (by simp [Zaj, Zan]) fun B hB => ?_
  refine aR [] [0, 1] [] [Sv x, Sv y] [] [] hB trivial ?_
  refine aR [(1, .call [(true, .any)] true (Bv false))] [0, 1, 5] [] [Sv x, Sv y, Bv false] [] [Con Tryz.prog 164 [Sv x] true (Bv false) ∧ True] hB ⟨⟨(Ztb x), trivial⟩, trivial⟩ ?_
  refine aR [(1, .call [(true, .any)] true (Bv false))] [0, 1, 5, 6] [] [Sv x, Sv y, Bv false, Bv false] [] [Con Tryz.prog 164 [Sv y] true (Bv false) ∧ True] hB ⟨⟨(Ztb y), trivial⟩, trivial⟩ ?_
  refine Zam ?_
  refine aR [] [0, 1, 6, 11] [] [Sv x, Sv y, Bv false, Bv false] [] [] hB trivial ?_
  refine Zat rfl ?_
  refine Zaz ?_
  refine Zae ?_
  refine Zam ?_
  refine aR [] [0, 1, 13] [] [Sv x, Sv y, Bv false] [] [] hB trivial ?_
  refine Zat rfl ?_
  refine Zaz ?_
  refine Zae ?_
  refine Zam ?_
  refine Zam ?_
  by_cases h1 : Zds x y = true
  ·refine Zbs [(2, .dec true)] [0, 1, 16] [] [Sv x, Sv y, Bv true] [] [Zds x y = true] hB ⟨h1, trivial⟩ ?_
   refine Zae ?_
   refine Zbg rfl ?_
   refine aR [] [4] [] [I (-1)] [] [] hB trivial ?_
   refine Zba ?_
   refine Zaq ?_
   refine Zbb hB (I (-1)) (by kernel_rfl) (.inl (by refine congrArg I ?_; unfold Zdm; first | (rw [if_pos (by assumption)]; done) | (rw [if_neg (by assumption), if_pos (by assumption)]; done) | (rw [if_neg (by assumption), if_neg (by assumption)]; done))) rfl (fun _ => trivial)
  refine Zbs [(2, .dec false)] [0, 1, 16] [] [Sv x, Sv y, Bv false] [] [¬ (Zds x y = true)] hB ⟨h1, trivial⟩ ?_
  refine Zae ?_
  refine Zat rfl ?_
  refine Zaz ?_
  refine Zae ?_
  refine Zam ?_
  refine Zam ?_
  by_cases h2 : Zds x y = false ∧ x ≠ y
  ·refine Zbs [(2, .dec true)] [19] [] [Bv true] [] [Zds x y = false ∧ x ≠ y] hB ⟨h2, trivial⟩ ?_
   refine Zae ?_
   refine Zbg rfl ?_
   refine aR [] [4] [] [I 1] [] [] hB trivial ?_
   refine Zba ?_
   refine Zaq ?_
   refine Zbb hB (I 1) (by kernel_rfl) (.inl (by refine congrArg I ?_; unfold Zdm; first | (rw [if_pos (by assumption)]; done) | (rw [if_neg (by assumption), if_pos (by assumption)]; done) | (rw [if_neg (by assumption), if_neg (by assumption)]; done))) rfl (fun _ => trivial)
  refine Zbs [(2, .dec false)] [19] [] [Bv false] [] [¬ (Zds x y = false ∧ x ≠ y)] hB ⟨h2, trivial⟩ ?_
  refine Zae ?_
  refine Zat rfl ?_
  refine Zaz ?_
  refine Zae ?_
  refine aR [] [4] [] [I 0] [] [] hB trivial ?_
  refine Zba ?_
  refine Zbb hB (I 0) (by kernel_rfl) (.inl (by refine congrArg I ?_; unfold Zdm; first | (rw [if_pos (by assumption)]; done) | (rw [if_neg (by assumption), if_pos (by assumption)]; done) | (rw [if_neg (by assumption), if_neg (by assumption)]; done))) rfl (fun _ => trivial)
theorem OrI_ok (vals : List Int) : Con Tryz.prog 147 [slI false vals] true (I (orL vals)) := by
  refine Zeb (fn := Tryz.f147) (nt := 18) Tryz.func147 rfl rfl rfl rfl (by simp [Zaj, Zan, tagI]) fun B hB => ?_
  refine Zea (x := slI false vals) 0 rfl (fun len_vals => ?_)
  simp [Zfx, Zkq, cI, fI, slI] at len_vals
  refine aR [] [0] [] [slI false vals] [] [] hB trivial ?_
  refine aR [] [0, 3] [] [slI false vals, I 0] [] [] hB trivial ?_
  refine Zam ?_
  refine aR [] [3, 6, 7, 8] [] [I 0, slI false vals, I (vals.length : Int), I 0] [] [] hB trivial ?_
  refine Zbo ?_
  refine Zed (fun gn gσ => ∃ (t8 : Int), gn = ((vals.length : Int) - t8).toNat ∧ (0 ≤ t8 ∧ t8 ≤ (vals.length : Int)) ∧ (∀ j : Nat, (j : Int) < t8 → at_ vals j = 0) ∧ gσ = mkS [(3, I 0), (6, slI false vals), (7, I (vals.length : Int)), (8, I t8)] []) (((vals.length : Int) - 0).toNat) ⟨0, rfl, (by omega), (by intro j hj; omega), rfl⟩ (fun gn gσ hI => ?_)
  obtain ⟨t8, rfl, hi0, hz0, rfl⟩ := hI
  refine Zam ?_
  by_cases h1 : t8 < (vals.length : Int)
  ·have hi : t8.toNat < vals.length := by omega
   refine Zbs [(0, .dec true)] [3, 6, 7, 8, 9] [] [I 0, slI false vals, I (vals.length : Int), I t8, Bv true] [] [t8 < (vals.length : Int)] hB ⟨h1, trivial⟩ ?_
   refine Zae ?_
   refine Zam ?_
   refine Zbg rfl ?_
   refine Zaz ?_
   refine Zae ?_
   refine Zam ?_
   refine Zbo ?_
   refine aR [] [3, 5, 6, 7, 8] [] [I 0, I (at_ vals t8.toNat), slI false vals, I (vals.length : Int), I t8] [] [(0 : Int) ≤ t8 ∧ t8 < (vals.length : Int)] hB ⟨⟨(by omega), (by omega)⟩, trivial⟩ ?_
   refine Zam ?_
   by_cases h2 : (at_ vals t8.toNat) = 0
   ·refine Zbs [(2, .dec false)] [3, 5, 6, 7, 8, 14] [] [I 0, I (at_ vals t8.toNat), slI false vals, I (vals.length : Int), I t8, Bv false] [] [¬ ((at_ vals t8.toNat) ≠ 0)] hB ⟨(fun hq => hq h2), trivial⟩ ?_
    refine Zae ?_
    refine Zat rfl ?_
    refine Zaz ?_
    refine Zbz 1 ?_
    refine Zae ?_
    refine Zbs [] [3, 6, 7, 8] [] [I 0, slI false vals, I (vals.length : Int), I (t8 + 1)] [] [inR .i64 (t8 + 1)] hB ⟨(Zah (by omega) (by omega)), trivial⟩ ?_
    exact Zcc _ (by omega) ⟨(t8 + 1), rfl, (by omega), (by intro j hj; by_cases ej : j = t8.toNat; (subst ej; assumption); exact hz0 j (by omega)), rfl⟩
   refine Zbs [(2, .dec true)] [3, 5, 6, 7, 8, 14] [] [I 0, I (at_ vals t8.toNat), slI false vals, I (vals.length : Int), I t8, Bv true] [] [(at_ vals t8.toNat) ≠ 0] hB ⟨h2, trivial⟩ ?_
   refine Zae ?_
   refine Zbg rfl ?_
   refine aR [] [2] [] [I (at_ vals t8.toNat)] [] [] hB trivial ?_
   refine Zba ?_
   refine Zay (Zaq (Zaq (Zay (Zaq ?_))))
   refine Zbb hB (I (at_ vals t8.toNat)) (by kernel_rfl) (.inl (by refine congrArg I ?_; first | (rw [Zqq (fun j hj => hz0 j (by omega))]; done) | (rw [Ztc hi (fun j hj => hz0 j (by omega)) (by assumption)]; done) | (rw [Ztc hi (fun j hj => hz0 j (by omega)) (by assumption)]))) rfl (fun _ => trivial)
  refine Zbs [(0, .dec false)] [3, 6, 7, 8, 9] [] [I 0, slI false vals, I (vals.length : Int), I t8, Bv false] [] [¬ (t8 < (vals.length : Int))] hB ⟨h1, trivial⟩ ?_
  refine Zae ?_
  refine Zam ?_
  refine Zat rfl ?_
  refine Zee ?_
  refine Zau ?_
  refine Zau ?_
  refine Zca ?_
  refine Zae ?_
  refine aR [] [2] [] [I 0] [] [] hB trivial ?_
  refine Zba ?_
  refine Zbb hB (I 0) (by kernel_rfl) (.inl (by refine congrArg I ?_; first | (rw [Zqq (fun j hj => hz0 j (by omega))]; done) | (rw [Ztc hi (fun j hj => hz0 j (by omega)) (by assumption)]; done) | (rw [Ztc hi (fun j hj => hz0 j (by omega)) (by assumption)]))) rfl (fun _ => trivial)
theorem Zmx (a : Edge) (b : Edge) : Con Tryz.prog 93 [Zgj a, Zgj b] true (I (Zfu a b)) := by
  refine Zeb (fn := Tryz.f93) (nt := 22) Tryz.func93 rfl rfl rfl rfl (by simp [Zaj, Zan]) fun B hB => ?_
  refine aR [(0, .new 2), (1, .new 3)] [2, 3] [2, 3] [.ref 2 0, .ref 3 0] [some (Zbj a), some (Zbj b)] [] hB trivial ?_
  refine aR [(4, .call [(true, .any), (true, .any)] true (I (Zdd a.From b.From))), (9, .call [(true, .any), (true, .any)] true (I (Zdd a.To b.To))), (14, .call [(true, .any), (true, .any)] true (I (Zdm a.Label b.Label))), (15, .new 20), (16, .call [(false, slI false ([(Zdd a.From b.From), (Zdd a.To b.To), (Zdm a.Label b.Label)]))] true (I (orL ([(Zdd a.From b.From), (Zdd a.To b.To), (Zdm a.Label b.Label)]))))] [4] [] [I (orL ([(Zdd a.From b.From), (Zdd a.To b.To), (Zdm a.Label b.Label)]))] [] [Con Tryz.prog 148 [I a.From, I b.From] true (I (Zdd a.From b.From)) ∧ True, Con Tryz.prog 148 [I a.To, I b.To] true (I (Zdd a.To b.To)) ∧ True, Con Tryz.prog 115 [Sv a.Label, Sv b.Label] true (I (Zdm a.Label b.Label)) ∧ True, Con Tryz.prog 147 [slI false ([(Zdd a.From b.From), (Zdd a.To b.To), (Zdm a.Label b.Label)])] true (I (orL ([(Zdd a.From b.From), (Zdd a.To b.To), (Zdm a.Label b.Label)]))) ∧ ((false = true → true = true) ∧ 1 = 1 ∧ 3 = (([(Zdd a.From b.From), (Zdd a.To b.To), (Zdm a.Label b.Label)]).length) ∧ ∀ i_, i_ < (([(Zdd a.From b.From), (Zdd a.To b.To), (Zdm a.Label b.Label)]).length) → (Zgd [I (Zdd a.From b.From), I (Zdd a.To b.To), I (Zdm a.Label b.Label)] 1) i_ = (fI ([(Zdd a.From b.From), (Zdd a.To b.To), (Zdm a.Label b.Label)])) i_ ∨ (AV.idsL ((fI ([(Zdd a.From b.From), (Zdd a.To b.To), (Zdm a.Label b.Label)])) i_) = [] ∧ leL (fun _ => none) false ((Zgd [I (Zdd a.From b.From), I (Zdd a.To b.To), I (Zdm a.Label b.Label)] 1) i_) ((fI ([(Zdd a.From b.From), (Zdd a.To b.To), (Zdm a.Label b.Label)])) i_))) ∧ True] hB ⟨⟨(Zmv a.From b.From), trivial⟩, ⟨(Zmv a.To b.To), trivial⟩, ⟨(Zmw a.Label b.Label), trivial⟩, ⟨(OrI_ok ([(Zdd a.From b.From), (Zdd a.To b.To), (Zdm a.Label b.Label)])), ⟨(fun h => by cases h), rfl, (by first | rfl | (simp; done) | (simp; omega) | omega), fun i_ hi_ => .inl (match i_, hi_ with | 0, _ => rfl | 1, _ => rfl | 2, _ => rfl | (i + 3), h => absurd h (by simp))⟩, trivial⟩, trivial⟩ ?_
  refine Zba ?_
  refine Zbb hB (I (orL ([(Zdd a.From b.From), (Zdd a.To b.To), (Zdm a.Label b.Label)]))) (by kernel_rfl) (.inl (by rfl)) rfl (fun _ => trivial)
theorem Zhv (l : Lattice) (hl : Zcg l) : Con Tryz.prog 39 [Zbh l] true (Bv true) := by
  have hn := hl.1
  have hc := hl.2.1
  refine Zeb (fn := Tryz.f39) (nt := 48) Tryz.func39 rfl rfl rfl rfl (by simp [Zaj, Zan, Zdv]) fun B hB => ?_
  refine Zea (x := Zbh l) 0 rfl (fun len_l => ?_)
  simp [Zfx, Zkq, Zie, Zcv, Zag] at len_l
  refine aR [(0, .new 1)] [1] [1] [.ref 1 0] [some (Zac l)] [] hB trivial ?_
  refine Zam ?_
  refine aR [] [1, 6, 7, 8] [1] [.ref 1 0, Zag false l.Edges, I (l.Edges.length : Int), I 0] [some (Zac l)] [] hB trivial ?_
  refine Zbo ?_
  refine Zed (fun gn gσ => ∃ (t8 : Int), gn = ((l.Edges.length : Int) - t8).toNat ∧ (0 ≤ t8 ∧ t8 ≤ (l.Edges.length : Int)) ∧ gσ = mkS [(1, .ref 1 0), (6, Zag false l.Edges), (7, I (l.Edges.length : Int)), (8, I t8)] [(1, Zac l)]) (((l.Edges.length : Int) - 0).toNat) ⟨0, rfl, (by omega), rfl⟩ (fun gn gσ hI => ?_)
  obtain ⟨t8, rfl, hi0, rfl⟩ := hI
  refine Zam ?_
  by_cases h1 : t8 < (l.Edges.length : Int)
  ·have hi : t8.toNat < l.Edges.length := by omega
   have hed := hl.2.2.1 _ hi
   refine Zbs [(0, .dec true)] [1, 6, 7, 8, 9] [1] [.ref 1 0, Zag false l.Edges, I (l.Edges.length : Int), I t8, Bv true] [some (Zac l)] [t8 < (l.Edges.length : Int)] hB ⟨h1, trivial⟩ ?_
   refine Zae ?_
   refine Zam ?_
   refine Zbg rfl ?_
   refine Zaz ?_
   refine Zae ?_
   refine Zam ?_
   refine Zbo ?_
   refine aR [(3, .new 4)] [1, 3, 4, 6, 7, 8] [1, 4] [.ref 1 0, I t8, .ref 4 0, Zag false l.Edges, I (l.Edges.length : Int), I t8] [some (Zac l), some (Zbj (at_ l.Edges t8.toNat))] [(0 : Int) ≤ t8 ∧ t8 < (l.Edges.length : Int)] hB ⟨⟨(by omega), (by omega)⟩, trivial⟩ ?_
   refine Zam ?_
   by_cases h2 : 0 < t8
   ·have hpr := Zgq hl.2.2.2 (show (t8 - 1).toNat < t8.toNat by omega) hi
    refine Zbs [(2, .call [(true, .any), (true, .any)] true (Bv true)), (7, .call [(true, .any)] true (Bv true)), (12, .dec true), (21, .call [(true, .any), (true, .any)] true (I (Zfu (at_ l.Edges ((t8 - 1).toNat)) (at_ l.Edges t8.toNat)))), (22, .dec false)] [1, 6, 7, 8, 37] [1] [.ref 1 0, Zag false l.Edges, I (l.Edges.length : Int), I t8, Bv false] [some (Zac l)] [Con Tryz.prog 91 [Zbh l, Zgj (at_ l.Edges t8.toNat)] true (Bv true) ∧ True, Con Tryz.prog 92 [Sv ((at_ l.Edges t8.toNat).Label)] true (Bv true) ∧ True, 0 < t8, inR .i64 (t8 - 1), (0 : Int) ≤ (t8 - 1) ∧ (t8 - 1) < (l.Edges.length : Int), Con Tryz.prog 93 [Zgj (at_ l.Edges ((t8 - 1).toNat)), Zgj (at_ l.Edges t8.toNat)] true (I (Zfu (at_ l.Edges ((t8 - 1).toNat)) (at_ l.Edges t8.toNat))) ∧ True, ¬ (0 ≤ (Zfu (at_ l.Edges ((t8 - 1).toNat)) (at_ l.Edges t8.toNat)))] hB ⟨⟨(Zkn l (at_ l.Edges t8.toNat) hed (by omega)), trivial⟩, ⟨(Zbv hed.2.2 (Zil ((at_ l.Edges t8.toNat).Label) (by have := Zeh hed.2.2; omega))), trivial⟩, h2, (Zah (by omega) (by omega)), ⟨(by omega), (by omega)⟩, ⟨(Zmx (at_ l.Edges ((t8 - 1).toNat)) (at_ l.Edges t8.toNat)), trivial⟩, (by omega), trivial⟩ ?_
    refine Zae ?_
    refine Zat rfl ?_
    refine Zaz ?_
    refine Zbz 1 ?_
    refine Zae ?_
    refine Zbs [] [1, 6, 7, 8] [1] [.ref 1 0, Zag false l.Edges, I (l.Edges.length : Int), I (t8 + 1)] [some (Zac l)] [inR .i64 (t8 + 1)] hB ⟨(Zah (by omega) (by omega)), trivial⟩ ?_
    exact Zcc _ (by omega) ⟨(t8 + 1), rfl, (by omega), rfl⟩
   refine Zbs [(2, .call [(true, .any), (true, .any)] true (Bv true)), (7, .call [(true, .any)] true (Bv true)), (12, .dec false)] [1, 6, 7, 8, 37] [1] [.ref 1 0, Zag false l.Edges, I (l.Edges.length : Int), I t8, Bv false] [some (Zac l)] [Con Tryz.prog 91 [Zbh l, Zgj (at_ l.Edges t8.toNat)] true (Bv true) ∧ True, Con Tryz.prog 92 [Sv ((at_ l.Edges t8.toNat).Label)] true (Bv true) ∧ True, ¬ (0 < t8)] hB ⟨⟨(Zkn l (at_ l.Edges t8.toNat) hed (by omega)), trivial⟩, ⟨(Zbv hed.2.2 (Zil ((at_ l.Edges t8.toNat).Label) (by have := Zeh hed.2.2; omega))), trivial⟩, h2, trivial⟩ ?_
   refine Zae ?_
   refine Zat rfl ?_
   refine Zaz ?_
   refine Zbz 1 ?_
   refine Zae ?_
   refine Zbs [] [1, 6, 7, 8] [1] [.ref 1 0, Zag false l.Edges, I (l.Edges.length : Int), I (t8 + 1)] [some (Zac l)] [inR .i64 (t8 + 1)] hB ⟨(Zah (by omega) (by omega)), trivial⟩ ?_
   exact Zcc _ (by omega) ⟨(t8 + 1), rfl, (by omega), rfl⟩
  refine Zbs [(0, .dec false)] [1, 6, 7, 8, 9] [1] [.ref 1 0, Zag false l.Edges, I (l.Edges.length : Int), I t8, Bv false] [some (Zac l)] [¬ (t8 < (l.Edges.length : Int))] hB ⟨h1, trivial⟩ ?_
  refine Zae ?_
  refine Zam ?_
  refine Zat rfl ?_
  refine Zee ?_
  refine Zau ?_
  refine Zau ?_
  refine Zca ?_
  refine Zae ?_
  refine aR [(2, .call [(true, .any), (true, .any), (true, .any)] true (Bv true)), (7, .dec true)] [2] [] [Bv true] [] [Con Tryz.prog 40 [I l.Nodes, I 1, I 20] true (Bv true) ∧ True, (l.Edges.length : Int) ≤ 200] hB ⟨⟨(Zbv (Zgn.2 hl.1) (Zjg l.Nodes 1 20)), trivial⟩, (by omega), trivial⟩ ?_
  refine Zba ?_
  refine Zbb hB (Bv true) (by kernel_rfl) (.inl rfl) rfl (fun _ => trivial)
theorem Zms (s : ByteArray) (hs : s.size ≤ 1000) : Con Tryz.prog 61 [Sv s] true (Bv (Zew s)) := by
  refine Zeb (fn := Tryz.f61) (nt := 24) Tryz.func61 rfl rfl rfl rfl (by simp [Zaj, Zan]) fun B hB => ?_
  refine aR [] [0] [] [Sv s] [] [] hB trivial ?_
  refine Zam ?_
  refine aR [] [0, 6, 7, 8] [] [Sv s, .sl true 1 s.size (Zid s), I (s.size : Int), I 0] [] [s.size ≤ 140737488355328] hB ⟨(by omega), trivial⟩ ?_
  refine Zbo ?_
  refine Zed (fun gn gσ => ∃ (t8 : Int), gn = ((s.size : Int) - t8).toNat ∧ (0 ≤ t8 ∧ t8 ≤ (s.size : Int)) ∧ (∀ j : Nat, (j : Int) < t8 → letB (bAt s j) = true) ∧ gσ = mkS [(0, Sv s), (6, .sl true 1 s.size (Zid s)), (7, I (s.size : Int)), (8, I t8)] []) (((s.size : Int) - 0).toNat) ⟨0, rfl, (by omega), (by intro j hj; omega), rfl⟩ (fun gn gσ hI => ?_)
  obtain ⟨t8, rfl, hi0, hz0, rfl⟩ := hI
  refine Zam ?_
  by_cases h1 : t8 < (s.size : Int)
  ·refine Zbs [(0, .dec true)] [0, 6, 7, 8, 9] [] [Sv s, .sl true 1 s.size (Zid s), I (s.size : Int), I t8, Bv true] [] [t8 < (s.size : Int)] hB ⟨h1, trivial⟩ ?_
   refine Zae ?_
   refine Zam ?_
   refine Zbg rfl ?_
   refine Zaz ?_
   refine Zae ?_
   refine Zam ?_
   refine Zbo ?_
   refine aR [] [0, 4, 6, 7, 8] [] [Sv s, .val (.int .u8 (bAt s t8.toNat)), .sl true 1 s.size (Zid s), I (s.size : Int), I t8] [] [(0 : Int) ≤ t8 ∧ t8 < (s.size : Int)] hB ⟨⟨(by omega), (by omega)⟩, trivial⟩ ?_
   refine Zam ?_
   rcases Bool.eq_false_or_eq_true (inB (bAt s t8.toNat) 97 122) with h2 | h2
   ·refine Zbs [(1, .call [(true, .any)] true (Bv true))] [0, 6, 7, 8, 14] [] [Sv s, .sl true 1 s.size (Zid s), I (s.size : Int), I t8, Bv false] [] [Con Tryz.prog 112 [.val (.int .u8 (bAt s t8.toNat))] true (Bv true) ∧ True] hB ⟨⟨(Zbv h2 (Zhh (bAt s t8.toNat))), trivial⟩, trivial⟩ ?_
    refine Zae ?_
    refine Zat rfl ?_
    refine Zaz ?_
    refine Zbz 1 ?_
    refine Zae ?_
    refine Zbs [] [0, 6, 7, 8] [] [Sv s, .sl true 1 s.size (Zid s), I (s.size : Int), I (t8 + 1)] [] [inR .i64 (t8 + 1)] hB ⟨(Zah (by omega) (by omega)), trivial⟩ ?_
    exact Zcc _ (by omega) ⟨(t8 + 1), rfl, (by omega), (by intro j hj; by_cases ej : j = t8.toNat; (subst ej; assumption); exact hz0 j (by omega)), rfl⟩
   refine Zbs [(1, .call [(true, .any)] true (Bv false))] [0, 6, 7, 8, 14] [] [Sv s, .sl true 1 s.size (Zid s), I (s.size : Int), I t8, Bv true] [] [Con Tryz.prog 112 [.val (.int .u8 (bAt s t8.toNat))] true (Bv false) ∧ True] hB ⟨⟨(Zbv h2 (Zhh (bAt s t8.toNat))), trivial⟩, trivial⟩ ?_
   refine Zae ?_
   refine Zbg rfl ?_
   refine aR [] [2] [] [Bv false] [] [] hB trivial ?_
   refine Zba ?_
   refine Zay (Zaq (Zaq (Zay (Zaq ?_))))
   refine Zbb hB (Bv false) (by kernel_rfl) (.inl (by first | (refine congrArg Bv ?_; rw [Zmy (fun j hj => hz0 j (by omega))]; first | exact decide_eq_decide.2 ⟨fun _ => by omega, fun _ => by omega⟩ | exact (decide_eq_true (by omega)).symm | exact (decide_eq_false (by omega)).symm | (simp; omega)) | (refine congrArg Bv ?_; exact (Zmz (j := t8.toNat) (by omega) (by assumption)).symm))) rfl (fun _ => trivial)
  refine Zbs [(0, .dec false)] [0, 6, 7, 8, 9] [] [Sv s, .sl true 1 s.size (Zid s), I (s.size : Int), I t8, Bv false] [] [¬ (t8 < (s.size : Int))] hB ⟨h1, trivial⟩ ?_
  refine Zae ?_
  refine Zam ?_
  refine Zat rfl ?_
  refine Zee ?_
  refine Zau ?_
  refine Zau ?_
  refine Zca ?_
  refine Zae ?_
  refine Zam ?_
  by_cases h3 : 1 ≤ (s.size : Int)
  ·refine Zbs [(2, .dec true)] [2] [] [Bv (decide ((s.size : Int) ≤ 10))] [] [1 ≤ (s.size : Int)] hB ⟨h3, trivial⟩ ?_
   refine Zae ?_
   refine Zba ?_
   refine Zbb hB (Bv (decide ((s.size : Int) ≤ 10))) (by kernel_rfl) (.inl (by first | (refine congrArg Bv ?_; rw [Zmy (fun j hj => hz0 j (by omega))]; first | exact decide_eq_decide.2 ⟨fun _ => by omega, fun _ => by omega⟩ | exact (decide_eq_true (by omega)).symm | exact (decide_eq_false (by omega)).symm | (simp; omega)) | (refine congrArg Bv ?_; exact (Zmz (j := t8.toNat) (by omega) (by assumption)).symm))) rfl (fun _ => trivial)
  refine Zbs [(2, .dec false)] [2] [] [Bv false] [] [¬ (1 ≤ (s.size : Int))] hB ⟨h3, trivial⟩ ?_
  refine Zae ?_
  refine Zba ?_
  refine Zbb hB (Bv false) (by kernel_rfl) (.inl (by first | (refine congrArg Bv ?_; rw [Zmy (fun j hj => hz0 j (by omega))]; first | exact decide_eq_decide.2 ⟨fun _ => by omega, fun _ => by omega⟩ | exact (decide_eq_true (by omega)).symm | exact (decide_eq_false (by omega)).symm | (simp; omega)) | (refine congrArg Bv ?_; exact (Zmz (j := t8.toNat) (by omega) (by assumption)).symm))) rfl (fun _ => trivial)
theorem Zdi (lx : Lexicon) (hx : Zci lx) : Con Tryz.prog 51 [.agg [Zaa false lx.Entries]] true (Bv true) := by
  have hc := hx.1
  refine Zeb (fn := Tryz.f51) (nt := 44) Tryz.func51 rfl rfl rfl rfl (by simp [Zaj, Zan, Zcf]) fun B hB => ?_
  refine Zea (x := .agg [Zaa false lx.Entries]) 0 rfl (fun len_lx => ?_)
  simp [Zfx, Zkq, Zej, Zap, Zaa] at len_lx
  refine aR [(0, .new 1)] [1] [1] [.ref 1 0] [some (.box [Zaa false lx.Entries])] [] hB trivial ?_
  refine Zam ?_
  refine aR [] [1, 6, 7, 8] [1] [.ref 1 0, Zaa false lx.Entries, I (lx.Entries.length : Int), I 0] [some (.box [Zaa false lx.Entries])] [] hB trivial ?_
  refine Zbo ?_
  refine Zed (fun gn gσ => ∃ (t8 : Int), gn = ((lx.Entries.length : Int) - t8).toNat ∧ (0 ≤ t8 ∧ t8 ≤ (lx.Entries.length : Int)) ∧ gσ = mkS [(1, .ref 1 0), (6, Zaa false lx.Entries), (7, I (lx.Entries.length : Int)), (8, I t8)] [(1, .box [Zaa false lx.Entries])]) (((lx.Entries.length : Int) - 0).toNat) ⟨0, rfl, (by omega), rfl⟩ (fun gn gσ hI => ?_)
  obtain ⟨t8, rfl, hi0, rfl⟩ := hI
  refine Zam ?_
  by_cases h1 : t8 < (lx.Entries.length : Int)
  ·have hi : t8.toNat < lx.Entries.length := by omega
   have hen := hx.2.1 _ (Zcx hi)
   have hed := hen
   refine Zbs [(0, .dec true)] [1, 6, 7, 8, 9] [1] [.ref 1 0, Zaa false lx.Entries, I (lx.Entries.length : Int), I t8, Bv true] [some (.box [Zaa false lx.Entries])] [t8 < (lx.Entries.length : Int)] hB ⟨h1, trivial⟩ ?_
   refine Zae ?_
   refine Zam ?_
   refine Zbg rfl ?_
   refine Zaz ?_
   refine Zae ?_
   refine Zam ?_
   refine Zbo ?_
   refine aR [(3, .new 4)] [1, 3, 4, 6, 7, 8] [1, 4] [.ref 1 0, I t8, .ref 4 0, Zaa false lx.Entries, I (lx.Entries.length : Int), I t8] [some (.box [Zaa false lx.Entries]), some (Zcy (at_ lx.Entries t8.toNat))] [(0 : Int) ≤ t8 ∧ t8 < (lx.Entries.length : Int)] hB ⟨⟨(by omega), (by omega)⟩, trivial⟩ ?_
   refine Zam ?_
   by_cases h2 : 0 < t8
   ·have hpr := Zgq hx.2.2 (show (t8 - 1).toNat < t8.toNat by omega) hi
    have hpa := (cmpN_w.anti _ _).1 hpr
    refine Zbs [(2, .call [(true, .any)] true (Bv true)), (7, .call [(true, .any)] true (Bv true)), (12, .dec true), (23, .dec false)] [1, 6, 7, 8, 38] [1] [.ref 1 0, Zaa false lx.Entries, I (lx.Entries.length : Int), I t8, Bv false] [some (.box [Zaa false lx.Entries])] [Con Tryz.prog 61 [Sv ((at_ lx.Entries t8.toNat).Word)] true (Bv true) ∧ True, Con Tryz.prog 62 [I ((at_ lx.Entries t8.toNat).Cost)] true (Bv true) ∧ True, 0 < t8, inR .i64 (t8 - 1), (0 : Int) ≤ (t8 - 1) ∧ (t8 - 1) < (lx.Entries.length : Int), ¬ (Zds ((at_ lx.Entries t8.toNat).Word) ((at_ lx.Entries ((t8 - 1).toNat)).Word) = true ∨ ((at_ lx.Entries t8.toNat).Word) = ((at_ lx.Entries ((t8 - 1).toNat)).Word))] hB ⟨⟨(Zbv hen.1 (Zms ((at_ lx.Entries t8.toNat).Word) (by have := (Zdn.1 hen.1).1; omega))), trivial⟩, ⟨(Zbv (Zgn.2 hen.2) (Zjk ((at_ lx.Entries t8.toNat).Cost))), trivial⟩, h2, (Zah (by omega) (by omega)), ⟨(by omega), (by omega)⟩, (by have q := Zfe.1 (show Zdm _ _ < 0 from hpr); exact fun z => z.elim (fun a => by rw [Zmq q] at a; cases a) (fun a => Ybc q a.symm)), trivial⟩ ?_
    refine Zae ?_
    refine Zat rfl ?_
    refine Zaz ?_
    refine Zbz 1 ?_
    refine Zae ?_
    refine Zbs [] [1, 6, 7, 8] [1] [.ref 1 0, Zaa false lx.Entries, I (lx.Entries.length : Int), I (t8 + 1)] [some (.box [Zaa false lx.Entries])] [inR .i64 (t8 + 1)] hB ⟨(Zah (by omega) (by omega)), trivial⟩ ?_
    exact Zcc _ (by omega) ⟨(t8 + 1), rfl, (by omega), rfl⟩
   refine Zbs [(2, .call [(true, .any)] true (Bv true)), (7, .call [(true, .any)] true (Bv true)), (12, .dec false)] [1, 6, 7, 8, 38] [1] [.ref 1 0, Zaa false lx.Entries, I (lx.Entries.length : Int), I t8, Bv false] [some (.box [Zaa false lx.Entries])] [Con Tryz.prog 61 [Sv ((at_ lx.Entries t8.toNat).Word)] true (Bv true) ∧ True, Con Tryz.prog 62 [I ((at_ lx.Entries t8.toNat).Cost)] true (Bv true) ∧ True, ¬ (0 < t8)] hB ⟨⟨(Zbv hen.1 (Zms ((at_ lx.Entries t8.toNat).Word) (by have := (Zdn.1 hen.1).1; omega))), trivial⟩, ⟨(Zbv (Zgn.2 hen.2) (Zjk ((at_ lx.Entries t8.toNat).Cost))), trivial⟩, h2, trivial⟩ ?_
   refine Zae ?_
   refine Zat rfl ?_
   refine Zaz ?_
   refine Zbz 1 ?_
   refine Zae ?_
   refine Zbs [] [1, 6, 7, 8] [1] [.ref 1 0, Zaa false lx.Entries, I (lx.Entries.length : Int), I (t8 + 1)] [some (.box [Zaa false lx.Entries])] [inR .i64 (t8 + 1)] hB ⟨(Zah (by omega) (by omega)), trivial⟩ ?_
   exact Zcc _ (by omega) ⟨(t8 + 1), rfl, (by omega), rfl⟩
  refine Zbs [(0, .dec false)] [1, 6, 7, 8, 9] [1] [.ref 1 0, Zaa false lx.Entries, I (lx.Entries.length : Int), I t8, Bv false] [some (.box [Zaa false lx.Entries])] [¬ (t8 < (lx.Entries.length : Int))] hB ⟨h1, trivial⟩ ?_
  refine Zae ?_
  refine Zam ?_
  refine Zat rfl ?_
  refine Zee ?_
  refine Zau ?_
  refine Zau ?_
  refine Zca ?_
  refine Zae ?_
  refine aR [(3, .dec true)] [2] [] [Bv true] [] [(lx.Entries.length : Int) ≤ 60] hB ⟨(by omega), trivial⟩ ?_
  refine Zba ?_
  refine Zbb hB (Bv true) (by kernel_rfl) (.inl rfl) rfl (fun _ => trivial)
theorem Zus (l : Lattice) (w : ByteArray) (hl : Zcg l) (hw : w.size ≤ 1000) : Con Tryz.prog 42 [Zbh l, Sv w] true (I (tcF l w)) := by
  have hn := hl.1
  have hc := hl.2.1
  refine Zeb (fn := Tryz.f42) (nt := 96) Tryz.func42 rfl rfl rfl rfl (by simp [Zaj, Zan, Zdv]) fun B hB => ?_
  refine Zea (x := Zbh l) 0 rfl (fun len_l => ?_)
  simp [Zfx, Zkq, Zie, Zcv, Zag] at len_l
  refine aR [(0, .new 2)] [1, 2] [2] [Sv w, .ref 2 0] [some (Zac l)] [] hB trivial ?_
  refine aR [(2, .new 15)] [1, 2, 5] [2, 15] [Sv w, .ref 2 0, .arr 15] [some (Zac l), some (.arr 1 l.Nodes.toNat (fun _ => [I 0]))] [(0 : Int) ≤ l.Nodes ∧ (l.Nodes : Int) ≤ l.Nodes ∧ (8 : Int) * l.Nodes ≤ 281474976710656 ∧ l.Nodes ≤ 9223372036854775807] hB ⟨⟨(by omega), (by omega), (by omega), (by omega)⟩, trivial⟩ ?_
  refine Zam ?_
  refine aR [] [1, 2, 5, 17, 18] [2, 15] [Sv w, .ref 2 0, .arr 15, I (l.Nodes.toNat : Int), I 0] [some (Zac l), some (.arr 1 l.Nodes.toNat (fun _ => [I 0]))] [] hB trivial ?_
  refine Zbo ?_
  refine Zpi hB [] (T := [(1, Sv w), (2, .ref 2 0), (5, .arr 15), (17, I (l.Nodes.toNat : Int)), (18, I 0)]) (O := [(2, Zac l), (15, tAI (List.replicate l.Nodes.toNat (0 : Int)))]) rfl (⟨.inl rfl, .inl rfl, .inl rfl, .inl rfl, .inl rfl, trivial⟩) (⟨.inl rfl, .inr ⟨rfl, (by first | rfl | (simp; done) | (simp; omega) | omega), fun i_ hi_ => .inl (Zlx (enc := cI) rfl i_ hi_)⟩, trivial⟩) ?_
  refine Zed (fun gn gσ => ∃ (t18 : Int) (cs : List Int), gn = (l.Nodes - t18).toNat ∧ (0 ≤ t18 ∧ t18 ≤ l.Nodes) ∧ (cs = farN l.Nodes.toNat t18.toNat) ∧ (cs.length = l.Nodes.toNat) ∧ gσ = mkS [(1, Sv w), (2, .ref 2 0), (5, .arr 15), (17, I (l.Nodes.toNat : Int)), (18, I t18)] [(2, Zac l), (15, tAI cs)]) ((l.Nodes - 0).toNat) ⟨0, (List.replicate l.Nodes.toNat (0 : Int)), rfl, (by omega), (by exact far_0 rfl), (by simp), rfl⟩ (fun gn gσ hI => ?_)
  obtain ⟨t18, cs, rfl, hi0, hcs, hcl, rfl⟩ := hI
  refine Zam ?_
  by_cases h1 : t18 < (l.Nodes.toNat : Int)
  ·refine Zbs [(0, .dec true)] [1, 2, 5, 17, 18, 19] [2, 15] [Sv w, .ref 2 0, .arr 15, I (l.Nodes.toNat : Int), I t18, Bv true] [some (Zac l), some (tAI cs)] [t18 < (l.Nodes.toNat : Int)] hB ⟨h1, trivial⟩ ?_
   refine Zae ?_
   refine Zam ?_
   refine Zbg rfl ?_
   refine Zaz ?_
   refine Zae ?_
   refine Zam ?_
   refine Zbo ?_
   refine aR [] [1, 2, 5, 6, 17, 18] [2, 15] [Sv w, .ref 2 0, .arr 15, I t18, I (l.Nodes.toNat : Int), I t18] [some (Zac l), some (tAI cs)] [] hB trivial ?_
   refine Zbs [] [1, 2, 5, 17, 18] [2, 15] [Sv w, .ref 2 0, .arr 15, I (l.Nodes.toNat : Int), I t18] [some (Zac l), some (.arr 1 cs.length (fun q => bif Nat.beq q t18.toNat then [I 1099511627776] else (fI cs) q))] [(0 : Int) ≤ t18 ∧ t18 < (cs.length : Int), t18.toNat < cs.length] hB ⟨⟨(by omega), (by omega)⟩, (by omega), trivial⟩ ?_
   refine Zbz 1 ?_
   refine Zae ?_
   refine Zbs [] [1, 2, 5, 17, 18] [2, 15] [Sv w, .ref 2 0, .arr 15, I (l.Nodes.toNat : Int), I (t18 + 1)] [some (Zac l), some (.arr 1 cs.length (fun q => bif Nat.beq q t18.toNat then [I 1099511627776] else (fI cs) q))] [inR .i64 (t18 + 1)] hB ⟨(Zah (by omega) (by omega)), trivial⟩ ?_
   refine Zhl hB [] (T := [(1, Sv w), (2, .ref 2 0), (5, .arr 15), (17, I (l.Nodes.toNat : Int)), (18, I (t18 + 1))]) (O := [(2, Zac l), (15, tAI (cs.set t18.toNat 1099511627776))]) rfl (⟨.inl rfl, .inl rfl, .inl rfl, .inl rfl, .inl rfl, trivial⟩) (⟨.inl rfl, .inr ⟨rfl, (by first | rfl | (simp; done) | (simp; omega) | omega), fun i_ hi_ => .inl (Zhc (enc := cI) rfl i_ hi_)⟩, trivial⟩) (Zcc _ (by omega) ⟨(t18 + 1), (cs.set t18.toNat 1099511627776), rfl, (by omega), (by rw [hcs, Zwo (by omega), show (t18 + 1).toNat = t18.toNat + 1 from by omega]), (by rw [List.length_set]; exact hcl), rfl⟩)
  have hcf : cs = List.replicate l.Nodes.toNat 1099511627776 := by rw [hcs, show t18.toNat = l.Nodes.toNat from by omega, Ybl]
  refine Zbs [(0, .dec false)] [1, 2, 5, 17, 18, 19] [2, 15] [Sv w, .ref 2 0, .arr 15, I (l.Nodes.toNat : Int), I t18, Bv false] [some (Zac l), some (tAI cs)] [¬ (t18 < (l.Nodes.toNat : Int))] hB ⟨h1, trivial⟩ ?_
  refine Zae ?_
  refine Zam ?_
  refine Zat rfl ?_
  refine Zee ?_
  refine Zau ?_
  refine Zau ?_
  refine Zca ?_
  refine Zae ?_
  refine aR [] [1, 2, 5] [2, 15] [Sv w, .ref 2 0, .arr 15] [some (Zac l), some (.arr 1 cs.length (fun q => bif Nat.beq q 0 then [I 0] else (fI cs) q))] [(0 : Int) ≤ 0 ∧ 0 < (cs.length : Int), 0 < cs.length] hB ⟨⟨(by omega), (by omega)⟩, (by omega), trivial⟩ ?_
  refine Zam ?_
  refine aR [] [1, 2, 5, 28, 29] [2, 15] [Sv w, .ref 2 0, .arr 15, I (w.size : Int), I 0] [some (Zac l), some (.arr 1 cs.length (fun q => bif Nat.beq q 0 then [I 0] else (fI cs) q))] [] hB trivial ?_
  refine Zbo ?_
  refine Zpi hB [] (T := [(1, Sv w), (2, .ref 2 0), (5, .arr 15), (28, I (w.size : Int)), (29, I 0)]) (O := [(2, Zac l), (15, tAI (cs.set 0 0))]) rfl (⟨.inl rfl, .inl rfl, .inl rfl, .inl rfl, .inl rfl, trivial⟩) (⟨.inl rfl, .inr ⟨rfl, (by first | rfl | (simp; done) | (simp; omega) | omega), fun i_ hi_ => .inl (Zhc (enc := cI) rfl i_ hi_)⟩, trivial⟩) ?_
  refine Zed (fun gn gσ => ∃ (c2 : List Int) (t29 : Int), gn = ((w.size : Int) - t29).toNat ∧ (0 ≤ t29 ∧ t29 ≤ (w.size : Int)) ∧ (c2 = Zif l w t29.toNat) ∧ (∀ j : Nat, (j : Int) < t29 → tcA l w j = true) ∧ gσ = mkS [(1, Sv w), (2, .ref 2 0), (5, .arr 15), (28, I (w.size : Int)), (29, I t29)] [(2, Zac l), (15, tAI c2)]) (((w.size : Int) - 0).toNat) ⟨(cs.set 0 0), 0, rfl, (by omega), (by rw [hcf]; rfl), (by intro j hj; omega), rfl⟩ (fun gn gσ hI => ?_)
  obtain ⟨c2, t29, rfl, hi9, hc2, hal, rfl⟩ := hI
  have hrow := Zib hl w t29.toNat
  rw [← hc2] at hrow
  have hrl := hrow.1
  refine Zam ?_
  by_cases h2 : t29 < (w.size : Int)
  ·have hi9 : t29.toNat < w.size := by omega
   refine Zbs [(0, .dec true)] [1, 2, 5, 28, 29, 30] [2, 15] [Sv w, .ref 2 0, .arr 15, I (w.size : Int), I t29, Bv true] [some (Zac l), some (tAI c2)] [t29 < (w.size : Int)] hB ⟨h2, trivial⟩ ?_
   refine Zae ?_
   refine Zam ?_
   refine Zbg rfl ?_
   refine Zaz ?_
   refine Zae ?_
   refine Zam ?_
   refine Zbo ?_
   refine aR [] [1, 2, 5, 7, 28, 29] [2, 15] [Sv w, .ref 2 0, .arr 15, I t29, I (w.size : Int), I t29] [some (Zac l), some (tAI c2)] [] hB trivial ?_
   refine aR [(2, .new 34)] [1, 2, 5, 7, 8, 28, 29] [2, 15, 34] [Sv w, .ref 2 0, .arr 15, I t29, .arr 34, I (w.size : Int), I t29] [some (Zac l), some (tAI c2), some (.arr 1 l.Nodes.toNat (fun _ => [I 0]))] [(0 : Int) ≤ l.Nodes ∧ (l.Nodes : Int) ≤ l.Nodes ∧ (8 : Int) * l.Nodes ≤ 281474976710656 ∧ l.Nodes ≤ 9223372036854775807] hB ⟨⟨(by omega), (by omega), (by omega), (by omega)⟩, trivial⟩ ?_
   refine Zam ?_
   refine aR [] [1, 2, 5, 7, 8, 28, 29, 36, 37] [2, 15, 34] [Sv w, .ref 2 0, .arr 15, I t29, .arr 34, I (w.size : Int), I t29, I (l.Nodes.toNat : Int), I 0] [some (Zac l), some (tAI c2), some (.arr 1 l.Nodes.toNat (fun _ => [I 0]))] [] hB trivial ?_
   refine Zbo ?_
   refine Zpi hB [] (T := [(1, Sv w), (2, .ref 2 0), (5, .arr 15), (7, I t29), (8, .arr 34), (28, I (w.size : Int)), (29, I t29), (36, I (l.Nodes.toNat : Int)), (37, I 0)]) (O := [(2, Zac l), (15, tAI c2), (34, tAI (List.replicate l.Nodes.toNat (0 : Int)))]) rfl (⟨.inl rfl, .inl rfl, .inl rfl, .inl rfl, .inl rfl, .inl rfl, .inl rfl, .inl rfl, .inl rfl, trivial⟩) (⟨.inl rfl, .inl rfl, .inr ⟨rfl, (by first | rfl | (simp; done) | (simp; omega) | omega), fun i_ hi_ => .inl (Zlx (enc := cI) rfl i_ hi_)⟩, trivial⟩) ?_
   refine Zed (fun gn gσ => ∃ (t37 : Int) (nx : List Int), gn = (l.Nodes - t37).toNat ∧ (0 ≤ t37 ∧ t37 ≤ l.Nodes) ∧ (nx = farN l.Nodes.toNat t37.toNat) ∧ (nx.length = l.Nodes.toNat) ∧ gσ = mkS [(1, Sv w), (2, .ref 2 0), (5, .arr 15), (7, I t29), (8, .arr 34), (28, I (w.size : Int)), (29, I t29), (36, I (l.Nodes.toNat : Int)), (37, I t37)] [(2, Zac l), (15, tAI c2), (34, tAI nx)]) ((l.Nodes - 0).toNat) ⟨0, (List.replicate l.Nodes.toNat (0 : Int)), rfl, (by omega), (by exact far_0 rfl), (by simp), rfl⟩ (fun gn gσ hI => ?_)
   obtain ⟨t37, nx, rfl, hi7, hnx, hnl, rfl⟩ := hI
   refine Zam ?_
   by_cases h3 : t37 < (l.Nodes.toNat : Int)
   ·refine Zbs [(0, .dec true)] [1, 2, 5, 7, 8, 28, 29, 36, 37, 38] [2, 15, 34] [Sv w, .ref 2 0, .arr 15, I t29, .arr 34, I (w.size : Int), I t29, I (l.Nodes.toNat : Int), I t37, Bv true] [some (Zac l), some (tAI c2), some (tAI nx)] [t37 < (l.Nodes.toNat : Int)] hB ⟨h3, trivial⟩ ?_
    refine Zae ?_
    refine Zam ?_
    refine Zbg rfl ?_
    refine Zaz ?_
    refine Zae ?_
    refine Zam ?_
    refine Zbo ?_
    refine aR [] [1, 2, 5, 7, 8, 9, 28, 29, 36, 37] [2, 15, 34] [Sv w, .ref 2 0, .arr 15, I t29, .arr 34, I t37, I (w.size : Int), I t29, I (l.Nodes.toNat : Int), I t37] [some (Zac l), some (tAI c2), some (tAI nx)] [] hB trivial ?_
    refine Zbs [] [1, 2, 5, 7, 8, 28, 29, 36, 37] [2, 15, 34] [Sv w, .ref 2 0, .arr 15, I t29, .arr 34, I (w.size : Int), I t29, I (l.Nodes.toNat : Int), I t37] [some (Zac l), some (tAI c2), some (.arr 1 nx.length (fun q => bif Nat.beq q t37.toNat then [I 1099511627776] else (fI nx) q))] [(0 : Int) ≤ t37 ∧ t37 < (nx.length : Int), t37.toNat < nx.length] hB ⟨⟨(by omega), (by omega)⟩, (by omega), trivial⟩ ?_
    refine Zbz 5 ?_
    refine Zae ?_
    refine Zbs [] [1, 2, 5, 7, 8, 28, 29, 36, 37] [2, 15, 34] [Sv w, .ref 2 0, .arr 15, I t29, .arr 34, I (w.size : Int), I t29, I (l.Nodes.toNat : Int), I (t37 + 1)] [some (Zac l), some (tAI c2), some (.arr 1 nx.length (fun q => bif Nat.beq q t37.toNat then [I 1099511627776] else (fI nx) q))] [inR .i64 (t37 + 1)] hB ⟨(Zah (by omega) (by omega)), trivial⟩ ?_
    refine Zhl hB [] (T := [(1, Sv w), (2, .ref 2 0), (5, .arr 15), (7, I t29), (8, .arr 34), (28, I (w.size : Int)), (29, I t29), (36, I (l.Nodes.toNat : Int)), (37, I (t37 + 1))]) (O := [(2, Zac l), (15, tAI c2), (34, tAI (nx.set t37.toNat 1099511627776))]) rfl (⟨.inl rfl, .inl rfl, .inl rfl, .inl rfl, .inl rfl, .inl rfl, .inl rfl, .inl rfl, .inl rfl, trivial⟩) (⟨.inl rfl, .inl rfl, .inr ⟨rfl, (by first | rfl | (simp; done) | (simp; omega) | omega), fun i_ hi_ => .inl (Zhc (enc := cI) rfl i_ hi_)⟩, trivial⟩) (Zcc _ (by omega) ⟨(t37 + 1), (nx.set t37.toNat 1099511627776), rfl, (by omega), (by rw [hnx, Zwo (by omega), show (t37 + 1).toNat = t37.toNat + 1 from by omega]), (by rw [List.length_set]; exact hnl), rfl⟩)
   have hnf : nx = List.replicate l.Nodes.toNat 1099511627776 := by rw [hnx, show t37.toNat = l.Nodes.toNat from by omega, Ybl]
   refine Zbs [(0, .dec false)] [1, 2, 5, 7, 8, 28, 29, 36, 37, 38] [2, 15, 34] [Sv w, .ref 2 0, .arr 15, I t29, .arr 34, I (w.size : Int), I t29, I (l.Nodes.toNat : Int), I t37, Bv false] [some (Zac l), some (tAI c2), some (tAI nx)] [¬ (t37 < (l.Nodes.toNat : Int))] hB ⟨h3, trivial⟩ ?_
   refine Zae ?_
   refine Zam ?_
   refine Zat rfl ?_
   refine Zee ?_
   refine Zau ?_
   refine Zau ?_
   refine Zca ?_
   refine Zae ?_
   refine aR [] [1, 2, 5, 7, 8, 10, 28, 29] [2, 15, 34] [Sv w, .ref 2 0, .arr 15, I t29, .arr 34, Bv false, I (w.size : Int), I t29] [some (Zac l), some (tAI c2), some (tAI nx)] [] hB trivial ?_
   refine Zam ?_
   refine aR [] [1, 2, 5, 7, 8, 10, 28, 29, 45, 46, 47] [2, 15, 34] [Sv w, .ref 2 0, .arr 15, I t29, .arr 34, Bv false, I (w.size : Int), I t29, Zag false l.Edges, I (l.Edges.length : Int), I 0] [some (Zac l), some (tAI c2), some (tAI nx)] [] hB trivial ?_
   refine Zbo ?_
   refine Zed (fun gn gσ => ∃ (alive : Bool) (t47 : Int) (n2 : List Int), gn = ((l.Edges.length : Int) - t47).toNat ∧ (0 ≤ t47 ∧ t47 ≤ (l.Edges.length : Int)) ∧ ((n2, alive) = Znc l c2 (chA w t29.toNat) t47.toNat) ∧ gσ = mkS [(1, Sv w), (2, .ref 2 0), (5, .arr 15), (7, I t29), (8, .arr 34), (10, Bv alive), (28, I (w.size : Int)), (29, I t29), (45, Zag false l.Edges), (46, I (l.Edges.length : Int)), (47, I t47)] [(2, Zac l), (15, tAI c2), (34, tAI n2)]) (((l.Edges.length : Int) - 0).toNat) ⟨false, 0, nx, rfl, (by omega), (by rw [hnf]; rfl), rfl⟩ (fun gn gσ hI => ?_)
   obtain ⟨alive, t47, n2, rfl, hi4, hn2, rfl⟩ := hI
   have hre := Zqr hl (by omega) hrow (chA w t29.toNat) t47.toNat (by omega)
   rw [← hn2] at hre
   replace hre : Ztd l.Nodes.toNat _ n2 := hre
   have hnl2 := hre.1
   refine Zam ?_
   by_cases h4 : t47 < (l.Edges.length : Int)
   ·have hi : t47.toNat < l.Edges.length := by omega
    have hed := hl.2.2.1 _ hi
    have hee := hed.1
    have hec := hed.2.1
    have hr1 := hrow.2 (at_ l.Edges t47.toNat).From.toNat (by omega)
    have hr2 := hre.2 (at_ l.Edges t47.toNat).To.toNat (by omega)
    refine Zbs [(0, .dec true)] [1, 2, 5, 7, 8, 10, 28, 29, 45, 46, 47, 48] [2, 15, 34] [Sv w, .ref 2 0, .arr 15, I t29, .arr 34, Bv alive, I (w.size : Int), I t29, Zag false l.Edges, I (l.Edges.length : Int), I t47, Bv true] [some (Zac l), some (tAI c2), some (tAI n2)] [t47 < (l.Edges.length : Int)] hB ⟨h4, trivial⟩ ?_
    refine Zae ?_
    refine Zam ?_
    refine Zbg rfl ?_
    refine Zaz ?_
    refine Zae ?_
    refine Zam ?_
    refine Zbo ?_
    refine aR [(2, .new 12)] [1, 2, 5, 7, 8, 10, 12, 28, 29, 45, 46, 47] [2, 12, 15, 34] [Sv w, .ref 2 0, .arr 15, I t29, .arr 34, Bv alive, .ref 12 0, I (w.size : Int), I t29, Zag false l.Edges, I (l.Edges.length : Int), I t47] [some (Zac l), some (Zbj (at_ l.Edges t47.toNat)), some (tAI c2), some (tAI n2)] [(0 : Int) ≤ t47 ∧ t47 < (l.Edges.length : Int)] hB ⟨⟨(by omega), (by omega)⟩, trivial⟩ ?_
    refine Zam ?_
    by_cases h5 : ((at_ l.Edges t47.toNat).Label) = (w.extract t29.toNat (t29 + 1).toNat)
    ·have hlb := h5
     rw [show w.extract t29.toNat (t29 + 1).toNat = chA w t29.toNat from by rw [show (t29 + 1).toNat = t29.toNat + 1 from by omega]; rfl] at hlb
     by_cases h6 : (at_ c2 (((at_ l.Edges t47.toNat).From).toNat)) < 1099511627776
     ·refine Zbs [(7, .dec true), (14, .dec true)] [1, 2, 5, 7, 8, 10, 12, 28, 29, 45, 46, 47, 66] [2, 12, 15, 34] [Sv w, .ref 2 0, .arr 15, I t29, .arr 34, Bv alive, .ref 12 0, I (w.size : Int), I t29, Zag false l.Edges, I (l.Edges.length : Int), I t47, Bv true] [some (Zac l), some (Zbj (at_ l.Edges t47.toNat)), some (tAI c2), some (tAI n2)] [inR .i64 (t29 + 1), (0 : Int) ≤ t29 ∧ t29 ≤ (t29 + 1) ∧ (t29 + 1) ≤ (w.size : Int), ((at_ l.Edges t47.toNat).Label) = (w.extract t29.toNat (t29 + 1).toNat), (0 : Int) ≤ ((at_ l.Edges t47.toNat).From) ∧ ((at_ l.Edges t47.toNat).From) < (c2.length : Int), ((at_ l.Edges t47.toNat).From).toNat < c2.length, (at_ c2 (((at_ l.Edges t47.toNat).From).toNat)) < 1099511627776] hB ⟨(Zah (by omega) (by omega)), ⟨(by omega), (by omega), (by omega)⟩, h5, ⟨(by omega), (by omega)⟩, (by omega), h6, trivial⟩ ?_
      refine Zae ?_
      refine Zbg rfl ?_
      refine aR [] [1, 2, 5, 7, 8, 28, 29, 45, 46, 47] [2, 15, 34] [Sv w, .ref 2 0, .arr 15, I t29, .arr 34, I (w.size : Int), I t29, Zag false l.Edges, I (l.Edges.length : Int), I t47] [some (Zac l), some (tAI c2), some (.arr 1 n2.length (fun q => bif Nat.beq q (((at_ l.Edges t47.toNat).To).toNat) then [I (min (at_ n2 (((at_ l.Edges t47.toNat).To).toNat)) ((at_ c2 (((at_ l.Edges t47.toNat).From).toNat)) + ((at_ l.Edges t47.toNat).Cost)))] else (fI n2) q))] [(0 : Int) ≤ ((at_ l.Edges t47.toNat).To) ∧ ((at_ l.Edges t47.toNat).To) < (n2.length : Int), ((at_ l.Edges t47.toNat).To).toNat < n2.length, (0 : Int) ≤ ((at_ l.Edges t47.toNat).From) ∧ ((at_ l.Edges t47.toNat).From) < (c2.length : Int), ((at_ l.Edges t47.toNat).From).toNat < c2.length, inR .i64 ((at_ c2 (((at_ l.Edges t47.toNat).From).toNat)) + ((at_ l.Edges t47.toNat).Cost)), (0 : Int) ≤ ((at_ l.Edges t47.toNat).To) ∧ ((at_ l.Edges t47.toNat).To) < (n2.length : Int), ((at_ l.Edges t47.toNat).To).toNat < n2.length] hB ⟨⟨(by omega), (by omega)⟩, (by omega), ⟨(by omega), (by omega)⟩, (by omega), (Zah (by omega) (by omega)), ⟨(by omega), (by omega)⟩, (by omega), trivial⟩ ?_
      refine Zbs [] [1, 2, 5, 7, 8, 10, 28, 29, 45, 46, 47] [2, 15, 34] [Sv w, .ref 2 0, .arr 15, I t29, .arr 34, Bv true, I (w.size : Int), I t29, Zag false l.Edges, I (l.Edges.length : Int), I t47] [some (Zac l), some (tAI c2), some (.arr 1 n2.length (fun q => bif Nat.beq q (((at_ l.Edges t47.toNat).To).toNat) then [I (min (at_ n2 (((at_ l.Edges t47.toNat).To).toNat)) ((at_ c2 (((at_ l.Edges t47.toNat).From).toNat)) + ((at_ l.Edges t47.toNat).Cost)))] else (fI n2) q))] [] hB trivial ?_
      refine Zbz 7 ?_
      refine Zae ?_
      refine Zbs [] [1, 2, 5, 7, 8, 10, 28, 29, 45, 46, 47] [2, 15, 34] [Sv w, .ref 2 0, .arr 15, I t29, .arr 34, Bv true, I (w.size : Int), I t29, Zag false l.Edges, I (l.Edges.length : Int), I (t47 + 1)] [some (Zac l), some (tAI c2), some (.arr 1 n2.length (fun q => bif Nat.beq q (((at_ l.Edges t47.toNat).To).toNat) then [I (min (at_ n2 (((at_ l.Edges t47.toNat).To).toNat)) ((at_ c2 (((at_ l.Edges t47.toNat).From).toNat)) + ((at_ l.Edges t47.toNat).Cost)))] else (fI n2) q))] [inR .i64 (t47 + 1)] hB ⟨(Zah (by omega) (by omega)), trivial⟩ ?_
      refine Zhl hB [] (T := [(1, Sv w), (2, .ref 2 0), (5, .arr 15), (7, I t29), (8, .arr 34), (10, Bv true), (28, I (w.size : Int)), (29, I t29), (45, Zag false l.Edges), (46, I (l.Edges.length : Int)), (47, I (t47 + 1))]) (O := [(2, Zac l), (15, tAI c2), (34, tAI (n2.set (((at_ l.Edges t47.toNat).To).toNat) (min (at_ n2 (((at_ l.Edges t47.toNat).To).toNat)) ((at_ c2 (((at_ l.Edges t47.toNat).From).toNat)) + ((at_ l.Edges t47.toNat).Cost)))))]) rfl (⟨.inl rfl, .inl rfl, .inl rfl, .inl rfl, .inl rfl, .inl rfl, .inl rfl, .inl rfl, .inl rfl, .inl rfl, .inl rfl, trivial⟩) (⟨.inl rfl, .inl rfl, .inr ⟨rfl, (by first | rfl | (simp; done) | (simp; omega) | omega), fun i_ hi_ => .inl (Zhc (enc := cI) rfl i_ hi_)⟩, trivial⟩) (Zcc _ (by omega) ⟨true, (t47 + 1), (n2.set (((at_ l.Edges t47.toNat).To).toNat) (min (at_ n2 (((at_ l.Edges t47.toNat).To).toNat)) ((at_ c2 (((at_ l.Edges t47.toNat).From).toNat)) + ((at_ l.Edges t47.toNat).Cost)))), rfl, (by omega), (by rw [show (t47 + 1).toNat = t47.toNat + 1 from by omega]; show _ = (if _ then _ else _); rw [← hn2]; first | (rw [if_pos ⟨by assumption, by assumption⟩]; done) | (rw [if_neg (fun q => absurd q.1 (by assumption))]; done) | (rw [if_neg (fun q => absurd q.2 (by assumption))]; done)), rfl⟩)
     refine Zbs [(7, .dec true), (14, .dec false)] [1, 2, 5, 7, 8, 10, 12, 28, 29, 45, 46, 47, 66] [2, 12, 15, 34] [Sv w, .ref 2 0, .arr 15, I t29, .arr 34, Bv alive, .ref 12 0, I (w.size : Int), I t29, Zag false l.Edges, I (l.Edges.length : Int), I t47, Bv false] [some (Zac l), some (Zbj (at_ l.Edges t47.toNat)), some (tAI c2), some (tAI n2)] [inR .i64 (t29 + 1), (0 : Int) ≤ t29 ∧ t29 ≤ (t29 + 1) ∧ (t29 + 1) ≤ (w.size : Int), ((at_ l.Edges t47.toNat).Label) = (w.extract t29.toNat (t29 + 1).toNat), (0 : Int) ≤ ((at_ l.Edges t47.toNat).From) ∧ ((at_ l.Edges t47.toNat).From) < (c2.length : Int), ((at_ l.Edges t47.toNat).From).toNat < c2.length, ¬ ((at_ c2 (((at_ l.Edges t47.toNat).From).toNat)) < 1099511627776)] hB ⟨(Zah (by omega) (by omega)), ⟨(by omega), (by omega), (by omega)⟩, h5, ⟨(by omega), (by omega)⟩, (by omega), h6, trivial⟩ ?_
     refine Zae ?_
     refine Zat rfl ?_
     refine Zaz ?_
     refine Zbz 7 ?_
     refine Zae ?_
     refine Zbs [] [1, 2, 5, 7, 8, 10, 28, 29, 45, 46, 47] [2, 15, 34] [Sv w, .ref 2 0, .arr 15, I t29, .arr 34, Bv alive, I (w.size : Int), I t29, Zag false l.Edges, I (l.Edges.length : Int), I (t47 + 1)] [some (Zac l), some (tAI c2), some (tAI n2)] [inR .i64 (t47 + 1)] hB ⟨(Zah (by omega) (by omega)), trivial⟩ ?_
     exact Zcc _ (by omega) ⟨alive, (t47 + 1), n2, rfl, (by omega), (by rw [show (t47 + 1).toNat = t47.toNat + 1 from by omega]; show _ = (if _ then _ else _); rw [← hn2]; first | (rw [if_pos ⟨by assumption, by assumption⟩]; done) | (rw [if_neg (fun q => absurd q.1 (by assumption))]; done) | (rw [if_neg (fun q => absurd q.2 (by assumption))]; done)), rfl⟩
    have hlb := h5
    rw [show w.extract t29.toNat (t29 + 1).toNat = chA w t29.toNat from by rw [show (t29 + 1).toNat = t29.toNat + 1 from by omega]; rfl] at hlb
    refine Zbs [(7, .dec false)] [1, 2, 5, 7, 8, 10, 12, 28, 29, 45, 46, 47, 66] [2, 12, 15, 34] [Sv w, .ref 2 0, .arr 15, I t29, .arr 34, Bv alive, .ref 12 0, I (w.size : Int), I t29, Zag false l.Edges, I (l.Edges.length : Int), I t47, Bv false] [some (Zac l), some (Zbj (at_ l.Edges t47.toNat)), some (tAI c2), some (tAI n2)] [inR .i64 (t29 + 1), (0 : Int) ≤ t29 ∧ t29 ≤ (t29 + 1) ∧ (t29 + 1) ≤ (w.size : Int), ¬ (((at_ l.Edges t47.toNat).Label) = (w.extract t29.toNat (t29 + 1).toNat))] hB ⟨(Zah (by omega) (by omega)), ⟨(by omega), (by omega), (by omega)⟩, h5, trivial⟩ ?_
    refine Zae ?_
    refine Zat rfl ?_
    refine Zaz ?_
    refine Zbz 7 ?_
    refine Zae ?_
    refine Zbs [] [1, 2, 5, 7, 8, 10, 28, 29, 45, 46, 47] [2, 15, 34] [Sv w, .ref 2 0, .arr 15, I t29, .arr 34, Bv alive, I (w.size : Int), I t29, Zag false l.Edges, I (l.Edges.length : Int), I (t47 + 1)] [some (Zac l), some (tAI c2), some (tAI n2)] [inR .i64 (t47 + 1)] hB ⟨(Zah (by omega) (by omega)), trivial⟩ ?_
    exact Zcc _ (by omega) ⟨alive, (t47 + 1), n2, rfl, (by omega), (by rw [show (t47 + 1).toNat = t47.toNat + 1 from by omega]; show _ = (if _ then _ else _); rw [← hn2]; first | (rw [if_pos ⟨by assumption, by assumption⟩]; done) | (rw [if_neg (fun q => absurd q.1 (by assumption))]; done) | (rw [if_neg (fun q => absurd q.2 (by assumption))]; done)), rfl⟩
   have hie : t47.toNat = l.Edges.length := by omega
   refine Zbs [(0, .dec false)] [1, 2, 5, 7, 8, 10, 28, 29, 45, 46, 47, 48] [2, 15, 34] [Sv w, .ref 2 0, .arr 15, I t29, .arr 34, Bv alive, I (w.size : Int), I t29, Zag false l.Edges, I (l.Edges.length : Int), I t47, Bv false] [some (Zac l), some (tAI c2), some (tAI n2)] [¬ (t47 < (l.Edges.length : Int))] hB ⟨h4, trivial⟩ ?_
   refine Zae ?_
   refine Zam ?_
   refine Zat rfl ?_
   refine Zee ?_
   refine Zau ?_
   refine Zau ?_
   refine Zca ?_
   refine Zae ?_
   refine Zam ?_
   refine Zam ?_
   rcases Bool.eq_false_or_eq_true alive with h7 | h7
   ·subst h7
    refine Zbs [] [1, 2, 8, 28, 29, 87] [2, 34] [Sv w, .ref 2 0, .arr 34, I (w.size : Int), I t29, Bv false] [some (Zac l), some (tAI n2)] [] hB trivial ?_
    refine Zae ?_
    refine Zat rfl ?_
    refine Zaz ?_
    refine Zae ?_
    refine Zbs [] [1, 2, 5, 28, 29] [2, 34] [Sv w, .ref 2 0, .arr 34, I (w.size : Int), I t29] [some (Zac l), some (tAI n2)] [] hB trivial ?_
    refine Zbz 3 ?_
    refine Zae ?_
    refine Zbs [] [1, 2, 5, 28, 29] [2, 34] [Sv w, .ref 2 0, .arr 34, I (w.size : Int), I (t29 + 1)] [some (Zac l), some (tAI n2)] [inR .i64 (t29 + 1)] hB ⟨(Zah (by omega) (by omega)), trivial⟩ ?_
    refine Zhl hB [(15, 34)] (T := [(1, Sv w), (2, .ref 2 0), (5, .arr 15), (28, I (w.size : Int)), (29, I (t29 + 1))]) (O := [(2, Zac l), (15, tAI n2)]) rfl (⟨.inl rfl, .inl rfl, .inl rfl, .inl rfl, .inl rfl, trivial⟩) (⟨.inl rfl, .inl rfl, trivial⟩) (Zcc _ (by omega) ⟨n2, (t29 + 1), rfl, (by omega), (by rw [show (t29 + 1).toNat = t29.toNat + 1 from by omega]; show _ = (Znc l (Zif l w t29.toNat) (chA w t29.toNat) l.Edges.length).1; rw [← hc2, ← hie, ← hn2]), (by intro j hj; by_cases ej : j = t29.toNat; (subst ej; show (Znc l (Zif l w t29.toNat) (chA w t29.toNat) l.Edges.length).2 = true; rw [← hc2, ← hie, ← hn2]); exact hal j (by omega)), rfl⟩)
   subst h7
   refine Zbs [] [1, 2, 8, 28, 29, 87] [2, 34] [Sv w, .ref 2 0, .arr 34, I (w.size : Int), I t29, Bv true] [some (Zac l), some (tAI n2)] [] hB trivial ?_
   refine Zae ?_
   refine Zbg rfl ?_
   refine aR [] [4] [] [I 1099511627776] [] [] hB trivial ?_
   refine Zba ?_
   refine Zaq (Zay (Zaq (Zaq (Zay (Zaq ?_)))))
   refine Zbb hB (I 1099511627776) (by kernel_rfl) (.inl (by refine congrArg I ?_; first | (unfold tcF; rw [if_pos (Ybm hi9 (by show (!(Znc l (Zif l w t29.toNat) _ _).2) = true; rw [← hc2, ← hie, ← hn2]; rfl))]; done) | (unfold tcF; rw [if_neg (by rw [Zna (fun j hj => by rw [hal j (by omega)]; rfl)]; decide), ← hie9, ← hc2]; done))) rfl (fun _ => trivial)
  have hie9 : t29.toNat = w.size := by omega
  have hrow := Zib hl w t29.toNat
  rw [← hc2] at hrow
  have hrl := hrow.1
  refine Zbs [(0, .dec false)] [1, 2, 5, 28, 29, 30] [2, 15] [Sv w, .ref 2 0, .arr 15, I (w.size : Int), I t29, Bv false] [some (Zac l), some (tAI c2)] [¬ (t29 < (w.size : Int))] hB ⟨h2, trivial⟩ ?_
  refine Zae ?_
  refine Zam ?_
  refine Zat rfl ?_
  refine Zee ?_
  refine Zau ?_
  refine Zau ?_
  refine Zca ?_
  refine Zae ?_
  refine aR [] [4] [] [I (at_ c2 ((l.Nodes - 1).toNat))] [] [inR .i64 (l.Nodes - 1), (0 : Int) ≤ (l.Nodes - 1) ∧ (l.Nodes - 1) < (c2.length : Int), (l.Nodes - 1).toNat < c2.length] hB ⟨(Zah (by omega) (by omega)), ⟨(by omega), (by omega)⟩, (by omega), trivial⟩ ?_
  refine Zba ?_
  refine Zbb hB (I (at_ c2 ((l.Nodes - 1).toNat))) (by kernel_rfl) (.inl (by refine congrArg I ?_; first | (unfold tcF; rw [if_pos (Ybm hi9 (by show (!(Znc l (Zif l w t29.toNat) _ _).2) = true; rw [← hc2, ← hie, ← hn2]; rfl))]; done) | (unfold tcF; rw [if_neg (by rw [Zna (fun j hj => by rw [hal j (by omega)]; rfl)]; decide), ← hie9, ← hc2]; done))) rfl (fun _ => trivial)
theorem Zqs (w : ByteArray) : w.extract 0 0 = ⟨#[]⟩ := by
  apply ByteArray.ext
  simp
theorem Zqt (w : ByteArray) {k : Nat} (h : k < w.size) : w.extract 0 (k + 1) = w.extract 0 k ++ chA w k := by
  apply Zjm
  rw [Zei]
  unfold chA
  have e : ∀ a b : Nat, (w.extract a b).toList = (w.data.toList.drop a).take (b - a) := fun a b => by rw [Lib.toList_data]; simp [ByteArray.data_extract, Array.toList_extract, List.extract_eq_take_drop]
  rw [e, e, e, Nat.sub_zero, Nat.sub_zero, List.drop_zero, Nat.add_sub_cancel_left, List.take_add]
theorem Zjn (w : ByteArray) : w.extract 0 w.size = w := by
  apply Zjm
  rw [Lib.toList_data, Lib.toList_data, ByteArray.data_extract, Array.toList_extract, List.extract_eq_take_drop, List.drop_zero, Nat.sub_zero, List.take_of_length_le]
  exact Nat.le_refl _
theorem Ybn (w : ByteArray) {k : Nat} (h : k ≤ w.size) : (w.extract 0 k).size = k := by rw [ByteArray.size_extract]; omega
theorem chA_sz (w : ByteArray) {k : Nat} (h : k < w.size) : (chA w k).size = 1 := by unfold chA; rw [ByteArray.size_extract]; omega
def tcC (l : Lattice) (c : List Int) (ch : ByteArray) (i n : Nat) (v : Int) : Prop := ∃ i' : Nat, i' < i ∧ (at_ l.Edges i').Label = ch ∧ at_ c (at_ l.Edges i').From.toNat < 1099511627776 ∧ (at_ l.Edges i').To = (n : Int) ∧ v = at_ c (at_ l.Edges i').From.toNat + (at_ l.Edges i').Cost
theorem Zut {l : Lattice} (hl : Zcg l) {b : Int} (hb : 0 ≤ b) {c : List Int} (hc : Ztd l.Nodes.toNat b c) (ch : ByteArray) : ∀ i : Nat, i ≤ l.Edges.length → (∀ n : Nat, n < l.Nodes.toNat → (at_ (Znc l c ch i).1 n < 1099511627776 → tcC l c ch i n (at_ (Znc l c ch i).1 n)) ∧ ∀ v, tcC l c ch i n v → at_ (Znc l c ch i).1 n ≤ v) ∧ ((∃ i' : Nat, i' < i ∧ (at_ l.Edges i').Label = ch ∧ at_ c (at_ l.Edges i').From.toNat < 1099511627776) → (Znc l c ch i).2 = true)
  | 0, _ => ⟨fun n hn => ⟨fun q => by
      have e : at_ (Znc l c ch 0).1 n = 1099511627776 := Zop hn
      omega, fun v ⟨i', h, _⟩ => absurd h (Nat.not_lt_zero _)⟩, fun ⟨i', h, _⟩ => absurd h (Nat.not_lt_zero _)⟩
  | i + 1, hi => by
    have ih := Zut hl hb hc ch i (by omega)
    have ok := Zqr hl hb hc ch i (by omega)
    have he := hl.2.2.1 i (by omega)
    have h1 := he.1
    have hup : ∀ n v, tcC l c ch i n v → tcC l c ch (i + 1) n v := fun n v ⟨i', a, q⟩ => ⟨i', by omega, q⟩
    unfold Znc
    split
    · rename_i q
      have hnew : tcC l c ch (i + 1) (at_ l.Edges i).To.toNat (at_ c (at_ l.Edges i).From.toNat + (at_ l.Edges i).Cost) := ⟨i, by omega, q.1, q.2, by omega, rfl⟩
      refine ⟨fun n hn => ?_, fun _ => rfl⟩
      by_cases e : n = (at_ l.Edges i).To.toNat
      · subst e
        dsimp only
        rw [Zcm (by rw [ok.1]; exact hn)]
        have a := ih.1 _ hn
        constructor
        · intro hlt
          rcases Int.le_total (at_ (Znc l c ch i).1 (at_ l.Edges i).To.toNat) (at_ c (at_ l.Edges i).From.toNat + (at_ l.Edges i).Cost) with z | z
          · rw [Int.min_eq_left z] at hlt ⊢
            exact hup _ _ (a.1 hlt)
          · rw [Int.min_eq_right z]; exact hnew
        · rintro v ⟨i', h2, h3, h4, h5, h6⟩
          by_cases e2 : i' = i
          · subst e2; rw [h6]; exact Int.min_le_right _ _
          · exact Int.le_trans (Int.min_le_left _ _) (a.2 v ⟨i', by omega, h3, h4, h5, h6⟩)
      · dsimp only
        rw [Zcw e]
        have a := ih.1 _ hn
        refine ⟨fun hlt => hup _ _ (a.1 hlt), fun v ⟨i', h2, h3, h4, h5, h6⟩ => ?_⟩
        by_cases e2 : i' = i
        · subst e2; exact absurd h5 (by omega)
        · exact a.2 v ⟨i', by omega, h3, h4, h5, h6⟩
    · rename_i q
      refine ⟨fun n hn => ?_, fun ⟨i', h2, h3, h4⟩ => ?_⟩
      · have a := ih.1 _ hn
        refine ⟨fun hlt => hup _ _ (a.1 hlt), fun v ⟨i', h2, h3, h4, h5, h6⟩ => ?_⟩
        by_cases e2 : i' = i
        · subst e2; exact absurd ⟨h3, h4⟩ q
        · exact a.2 v ⟨i', by omega, h3, h4, h5, h6⟩
      · by_cases e2 : i' = i
        · subst e2; exact absurd ⟨h3, h4⟩ q
        · exact ih.2 ⟨i', by omega, h3, h4⟩
theorem Zlg {l : Lattice} (hl : Zcg l) {w : ByteArray} {k n : Nat} (hk : k < w.size) (hn : n < l.Nodes.toNat) {c : Int} (h : pth l n ⟨w.extract 0 (k + 1), c⟩) : ∃ e ∈ l.Edges, e.To = (n : Int) ∧ e.Label = chA w k ∧ ∃ c', pth l e.From.toNat ⟨w.extract 0 k, c'⟩ ∧ c = c' + e.Cost := by
  rcases (Zfp hl hn _).1 h with ⟨_, q⟩ | ⟨e, he, a, r, hr, q⟩
  · have := congrArg (fun r : Reading => r.Text.size) q
    simp only [Ybn w (show k + 1 ≤ w.size by omega)] at this
    exact absurd this (by show ¬ (k + 1 = 0); omega)
  · have t := congrArg Reading.Text q
    have c2 := congrArg Reading.Cost q
    replace t : w.extract 0 (k + 1) = r.Text ++ e.Label := t
    replace c2 : c = r.Cost + e.Cost := c2
    rw [Zqt w hk] at t
    have z := app_inj t (by rw [chA_sz w hk, Zeh (Zte hl he).2.2])
    refine ⟨e, he, a, z.2.symm, r.Cost, ?_, c2⟩
    rw [z.1]; exact hr
theorem Zlh {l : Lattice} (hl : Zcg l) (w : ByteArray) : ∀ k : Nat, k ≤ w.size → ∀ n : Nat, n < l.Nodes.toNat → (at_ (Zif l w k) n < 1099511627776 → pth l n ⟨w.extract 0 k, at_ (Zif l w k) n⟩) ∧ ∀ c, pth l n ⟨w.extract 0 k, c⟩ → at_ (Zif l w k) n ≤ c
  | 0, _, n, hn => by
    rw [Zqs]
    show (at_ ((List.replicate l.Nodes.toNat (1099511627776 : Int)).set 0 0) n < _ → pth l n ⟨⟨#[]⟩, at_ ((List.replicate l.Nodes.toNat (1099511627776 : Int)).set 0 0) n⟩) ∧ ∀ c, _ → at_ ((List.replicate l.Nodes.toNat (1099511627776 : Int)).set 0 0) n ≤ c
    by_cases e : n = 0
    · subst e
      rw [Zcm (by rw [List.length_replicate]; exact hn)]
      exact ⟨fun _ => (Zfp hl hn _).2 (.inl ⟨rfl, rfl⟩), fun c hc => (Zko hl 0 0 (Nat.le_refl _) hn _ hc).2.1⟩
    · rw [Zcw e, Zop hn]
      refine ⟨fun q => absurd q (by omega), fun c hc => ?_⟩
      rcases (Zfp hl hn _).1 hc with ⟨q, _⟩ | ⟨e2, he, a, r, hr, q⟩
      · exact absurd q e
      · have t := congrArg (fun r : Reading => r.Text.size) q
        replace t : (⟨#[]⟩ : ByteArray).size = (r.Text ++ e2.Label).size := t
        rw [ByteArray.size_append, Zeh (Zte hl he).2.2] at t
        exact absurd t (by show ¬ (0 = _); omega)
  | k + 1, hk, n, hn => by
    have ih := Zlh hl w k (by omega)
    have rk := Zib hl w k
    have R := (Zut hl (by omega) rk (chA w k) l.Edges.length (Nat.le_refl _)).1 n hn
    show (at_ (Znc l (Zif l w k) (chA w k) l.Edges.length).1 n < _ → _) ∧ ∀ c, _ → at_ (Znc l (Zif l w k) (chA w k) l.Edges.length).1 n ≤ c
    constructor
    · intro hlt
      obtain ⟨i', h1, h2, h3, h4, h5⟩ := R.1 hlt
      have b := (hl.2.2.1 i' h1).1
      have p := (ih (at_ l.Edges i').From.toNat (by omega)).1 h3
      show pth l n ⟨w.extract 0 (k + 1), at_ (Znc l (Zif l w k) (chA w k) l.Edges.length).1 n⟩
      rw [h5, Zqt w (by omega)]
      exact (Zfp hl hn _).2 (.inr ⟨at_ l.Edges i', Zcx h1, h4, _, p, by rw [← h2]; rfl⟩)
    · intro c hc
      obtain ⟨e, he, h1, h2, c', h3, h4⟩ := Zlg hl (show k < w.size by omega) hn hc
      obtain ⟨i', hi, q⟩ := List.getElem_of_mem he
      rw [← Zcz hi] at q
      subst q
      have b := (hl.2.2.1 i' hi).1
      have p := (ih (at_ l.Edges i').From.toNat (by omega)).2 c' h3
      have bd := Zko hl _ _ (Nat.le_refl _) (by omega) _ h3
      have sz := Ybn w (show k ≤ w.size by omega)
      have hN := hl.1
      have h5 := bd.1
      have h6 := bd.2.2
      replace h5 : (w.extract 0 k).size ≤ (at_ l.Edges i').From.toNat := h5
      replace h6 : c' ≤ 1000000 * (((w.extract 0 k).size : Nat) : Int) := h6
      have := R.2 _ ⟨i', hi, h2, by omega, h1, rfl⟩
      omega
theorem Ybo {l : Lattice} (hl : Zcg l) {w : ByteArray} : ∀ (d k n : Nat) (c : Int), k + d ≤ w.size → n < l.Nodes.toNat → pth l n ⟨w.extract 0 (k + d), c⟩ → ∃ n' c', n' < l.Nodes.toNat ∧ pth l n' ⟨w.extract 0 k, c'⟩
  | 0, k, n, c, _, hn, h => ⟨n, c, hn, h⟩
  | d + 1, k, n, c, hk, hn, h => by
    obtain ⟨e, he, h1, h2, c', h3, h4⟩ := Zlg hl (k := k + d) (by omega) hn h
    have b := (Zte hl he).1
    exact Ybo hl d k _ c' (by omega) (by omega) h3
theorem Zuu {l : Lattice} (hl : Zcg l) {w : ByteArray} {c : Int} (h : pth l (l.Nodes - 1).toNat ⟨w, c⟩) : tcF l w ≤ c := by
  have hN := hl.1
  have hn : (l.Nodes - 1).toNat < l.Nodes.toNat := by omega
  have ha : anyN w.size (fun k => !(tcA l w k)) = false := Zna fun k hk => by
    rw [← Zjn w, show w.size = (k + 1) + (w.size - (k + 1)) from by omega] at h
    obtain ⟨n', c', h1, h2⟩ := Ybo hl _ _ _ _ (by omega) hn h
    obtain ⟨e, he, h3, h4, c2, h5, h6⟩ := Zlg hl hk h1 h2
    obtain ⟨i', hi, q⟩ := List.getElem_of_mem he
    rw [← Zcz hi] at q
    subst q
    have b := (hl.2.2.1 i' hi).1
    have p := (Zlh hl w k (by omega) (at_ l.Edges i').From.toNat (by omega)).2 c2 h5
    have bd := Zko hl _ _ (Nat.le_refl _) (by omega) _ h5
    have sz := Ybn w (show k ≤ w.size by omega)
    have h7 := bd.1
    have h8 := bd.2.2
    replace h7 : (w.extract 0 k).size ≤ (at_ l.Edges i').From.toNat := h7
    replace h8 : c2 ≤ 1000000 * (((w.extract 0 k).size : Nat) : Int) := h8
    have : tcA l w k = true := (Zut hl (by omega) (Zib hl w k) (chA w k) l.Edges.length (Nat.le_refl _)).2 ⟨i', hi, h4, by omega⟩
    rw [this]; rfl
  unfold tcF
  rw [if_neg (by rw [ha]; decide)]
  refine (Zlh hl w w.size (Nat.le_refl _) _ hn).2 c ?_
  rw [Zjn]; exact h
theorem Zqu {l : Lattice} (hl : Zcg l) {w : ByteArray} (h : tcF l w < 1099511627776) : pth l (l.Nodes - 1).toNat ⟨w, tcF l w⟩ := by
  have hN := hl.1
  have e : tcF l w = if (anyN w.size fun k => !(tcA l w k)) = true then 1099511627776 else at_ (Zif l w w.size) (l.Nodes - 1).toNat := rfl
  by_cases ha : (anyN w.size fun k => !(tcA l w k)) = true
  · rw [if_pos ha] at e; omega
  · rw [if_neg ha] at e
    have := (Zlh hl w w.size (Nat.le_refl _) (l.Nodes - 1).toNat (by omega)).1 (by omega)
    rw [Zjn, ← e] at this
    exact this
def clT (w : ByteArray) (T : List Int) (j m : Int) : Int := at_ T (j * ((w.size : Int) + 1) + m).toNat
theorem Zsu {l : Lattice} {w : ByteArray} {j m : Int} (hj : 0 ≤ j ∧ j < l.Nodes) (hm : 0 ≤ m ∧ m ≤ w.size) : 0 ≤ j * ((w.size : Int) + 1) + m ∧ j * ((w.size : Int) + 1) + m < l.Nodes * ((w.size : Int) + 1) := by
  have a := Int.mul_nonneg hj.1 (show (0 : Int) ≤ (w.size : Int) + 1 by omega)
  have b := Int.mul_le_mul_of_nonneg_right (show j + 1 ≤ l.Nodes by omega) (show (0 : Int) ≤ (w.size : Int) + 1 by omega)
  rw [Int.add_mul, Int.one_mul] at b
  omega
theorem clT_inj {n a b c d : Int} (hb : 0 ≤ b ∧ b < n) (hd : 0 ≤ d ∧ d < n) (h : a * n + b = c * n + d) : a = c ∧ b = d := by
  rcases Int.lt_trichotomy a c with q | q | q
  · have := Int.mul_le_mul_of_nonneg_right (show a + 1 ≤ c by omega) (show 0 ≤ n by omega)
    rw [Int.add_mul, Int.one_mul] at this
    omega
  · subst q; omega
  · have := Int.mul_le_mul_of_nonneg_right (show c + 1 ≤ a by omega) (show 0 ≤ n by omega)
    rw [Int.add_mul, Int.one_mul] at this
    omega
theorem Ybp {l : Lattice} {w : ByteArray} {T : List Int} (hT : (T.length : Int) = l.Nodes * ((w.size : Int) + 1)) {j m a b : Int} (hj : 0 ≤ j ∧ j < l.Nodes) (hm : 0 ≤ m ∧ m ≤ w.size) (ha : 0 ≤ a ∧ a < l.Nodes) (hb : 0 ≤ b ∧ b ≤ w.size) (v : Int) : clT w (T.set (a * ((w.size : Int) + 1) + b).toNat v) j m = if j = a ∧ m = b then v else clT w T j m := by
  have i1 := Zsu hj hm
  have i2 := Zsu ha hb
  unfold clT
  by_cases q : j = a ∧ m = b
  · rw [if_pos q, q.1, q.2, Zcm (by omega)]
  · rw [if_neg q, Zcw]
    intro e
    have := clT_inj (n := (w.size : Int) + 1) (a := j) (b := m) (c := a) (d := b) (by omega) (by omega) (by omega)
    exact q this
def scCov (l : Lattice) (w : ByteArray) (T : List Int) (i' : Nat) (m : Int) : Prop := 0 ≤ clT w T (at_ l.Edges i').From m → (at_ l.Edges i').Label = chA w m.toNat → 0 ≤ clT w T (at_ l.Edges i').To (m + 1) ∧ clT w T (at_ l.Edges i').To (m + 1) ≤ clT w T (at_ l.Edges i').From m + (at_ l.Edges i').Cost
def scI (l : Lattice) (w : ByteArray) (nd i k : Int) (T : List Int) : Prop := (T.length : Int) = l.Nodes * ((w.size : Int) + 1) ∧ clT w T 0 0 = 0 ∧ (∀ j m : Int, 0 ≤ j → j < l.Nodes → 0 ≤ m → m ≤ w.size → clT w T j m = -1 ∨ (0 ≤ clT w T j m ∧ pth l j.toNat ⟨w.extract 0 m.toNat, clT w T j m⟩)) ∧ ∀ (i' : Nat) (m : Int), i' < l.Edges.length → 0 ≤ m → m < w.size → ((at_ l.Edges i').From < nd ∨ ((at_ l.Edges i').From = nd ∧ ((i' : Int) < i ∨ ((i' : Int) = i ∧ m < k)))) → scCov l w T i' m
theorem sc_start {l : Lattice} (hl : Zcg l) {w : ByteArray} {T : List Int} (hT : (T.length : Int) = l.Nodes * ((w.size : Int) + 1)) (h : ∀ j : Nat, j < T.length → at_ T j = -1) : scI l w 0 0 0 (T.set 0 0) := by
  have hN := hl.1
  have e0 : T.set 0 (0 : Int) = T.set ((0 : Int) * ((w.size : Int) + 1) + 0).toNat 0 := by simp
  have hc : ∀ j m : Int, 0 ≤ j → j < l.Nodes → 0 ≤ m → m ≤ w.size → clT w (T.set 0 0) j m = if j = 0 ∧ m = 0 then 0 else -1 := fun j m h1 h2 h3 h4 => by
    rw [e0, Ybp hT ⟨h1, h2⟩ ⟨h3, h4⟩ (by omega) (by omega)]
    split
    · rfl
    · have := Zsu (l := l) (w := w) ⟨h1, h2⟩ ⟨h3, h4⟩
      exact h _ (by omega)
  refine ⟨by rw [List.length_set]; exact hT, by rw [hc 0 0 (by omega) (by omega) (by omega) (by omega)]; rfl, fun j m h1 h2 h3 h4 => ?_, fun i' m hi h1 h2 h3 => ?_⟩
  · rw [hc j m h1 h2 h3 h4]
    by_cases q : j = 0 ∧ m = 0
    · rw [if_pos q]; right
      refine ⟨Int.le_refl _, ?_⟩
      rw [q.1, q.2]
      show pth l 0 ⟨w.extract 0 0, 0⟩
      rw [Zqs]
      exact (Zfp hl (by omega) _).2 (.inl ⟨rfl, rfl⟩)
    · rw [if_neg q]; exact .inl rfl
  · have := (hl.2.2.1 i' hi).1
    rcases h3 with h3 | ⟨h3, h4 | h4⟩ <;> omega
theorem Zeo {l : Lattice} {w : ByteArray} {nd i k : Int} {T : List Int} (h : scI l w nd i k T) (hc : scCov l w T i.toNat k) : scI l w nd i (k + 1) T :=
  ⟨h.1, h.2.1, h.2.2.1, fun i' m hi h1 h2 h3 => by
    rcases h3 with h3 | ⟨h3, h4 | ⟨h4, h5⟩⟩
    · exact h.2.2.2 i' m hi h1 h2 (.inl h3)
    · exact h.2.2.2 i' m hi h1 h2 (.inr ⟨h3, .inl h4⟩)
    · by_cases e : m = k
      · subst e; have : i' = i.toNat := by omega
        subst this; exact hc
      · exact h.2.2.2 i' m hi h1 h2 (.inr ⟨h3, .inr ⟨h4, by omega⟩⟩)⟩
theorem Zsv {l : Lattice} (hl : Zcg l) {w : ByteArray} {nd i k : Int} {T : List Int} (h : scI l w nd i k T) (hi0 : 0 ≤ i) (hi : i.toNat < l.Edges.length) (hk : 0 ≤ k ∧ k < w.size) (hf : (at_ l.Edges i.toNat).From = nd) (hc : 0 ≤ clT w T nd k) (hlb : (at_ l.Edges i.toNat).Label = chA w k.toNat)
    (ho : clT w T (at_ l.Edges i.toNat).To (k + 1) < 0 ∨ clT w T nd k + (at_ l.Edges i.toNat).Cost < clT w T (at_ l.Edges i.toNat).To (k + 1)) : scI l w nd i (k + 1) (T.set ((at_ l.Edges i.toNat).To * ((w.size : Int) + 1) + (k + 1)).toNat (clT w T nd k + (at_ l.Edges i.toNat).Cost)) := by
  have he := hl.2.2.1 i.toNat hi
  have b := he.1
  have hcost := he.2.1
  have hS := fun (j m : Int) (h1 : 0 ≤ j) (h2 : j < l.Nodes) (h3 : 0 ≤ m) (h4 : m ≤ w.size) => Ybp (w := w) h.1 (j := j) (m := m) ⟨h1, h2⟩ ⟨h3, h4⟩ (a := (at_ l.Edges i.toNat).To) (b := k + 1) ⟨by omega, by omega⟩ ⟨by omega, by omega⟩ (clT w T nd k + (at_ l.Edges i.toNat).Cost)
  refine ⟨by rw [List.length_set]; exact h.1, by rw [hS 0 0 (by omega) (by omega) (by omega) (by omega), if_neg (by omega)]; exact h.2.1, fun j m h1 h2 h3 h4 => ?_, fun i' m hi' h1 h2 h3 => ?_⟩
  · rw [hS j m h1 h2 h3 h4]
    by_cases q : j = (at_ l.Edges i.toNat).To ∧ m = k + 1
    · rw [if_pos q]
      right
      refine ⟨by omega, ?_⟩
      rcases h.2.2.1 nd k (by omega) (by omega) hk.1 (by omega) with z | z
      · omega
      · rw [q.1, q.2, show (k + 1).toNat = k.toNat + 1 from by omega, Zqt w (by omega)]
        exact (Zfp hl (by omega) _).2 (.inr ⟨_, Zcx hi, by omega, ⟨w.extract 0 k.toNat, clT w T nd k⟩, by rw [hf]; exact z.2, by unfold rdr; rw [hlb]⟩)
    · rw [if_neg q]; exact h.2.2.1 j m h1 h2 h3 h4
  · have b' := (hl.2.2.1 i' hi').1
    intro g1 g2
    rw [hS (at_ l.Edges i').From m (by omega) (by omega) h1 (by omega), if_neg (by rcases h3 with h3 | h3 <;> omega)] at g1 ⊢
    rw [hS (at_ l.Edges i').To (m + 1) (by omega) (by omega) (by omega) (by omega)]
    by_cases e : i' = i.toNat ∧ m = k
    · obtain ⟨e1, e2⟩ := e
      subst e1; subst e2
      rw [if_pos ⟨rfl, rfl⟩, hf]
      rw [hf] at g1
      exact ⟨by omega, Int.le_refl _⟩
    · have old := h.2.2.2 i' m hi' h1 h2 (by
        rcases h3 with h3 | ⟨h3, h4 | ⟨h4, h5⟩⟩
        · exact .inl h3
        · exact .inr ⟨h3, .inl h4⟩
        · refine .inr ⟨h3, .inr ⟨h4, ?_⟩⟩
          have : i' = i.toNat := by omega
          have : m ≠ k := fun z => e ⟨this, z⟩
          omega) g1 g2
      split
      · rename_i q
        rw [q.1, q.2] at old
        refine ⟨by omega, ?_⟩
        rcases ho with ho | ho <;> omega
      · exact old
theorem Zqp {l : Lattice} {w : ByteArray} {nd i k : Int} {T : List Int} (h : scI l w nd i k T) (hi : 0 ≤ i) (hk : (w.size : Int) ≤ k ∨ (at_ l.Edges i.toNat).From ≠ nd) : scI l w nd (i + 1) 0 T :=
  ⟨h.1, h.2.1, h.2.2.1, fun i' m hi' h1 h2 h3 => by
    refine h.2.2.2 i' m hi' h1 h2 ?_
    rcases h3 with h3 | ⟨h3, h4 | ⟨h4, h5⟩⟩
    · exact .inl h3
    · by_cases e : (i' : Int) = i
      · rcases hk with hk | hk
        · exact .inr ⟨h3, .inr ⟨e, by omega⟩⟩
        · have : i' = i.toNat := by omega
          subst this; exact absurd h3 hk
      · exact .inr ⟨h3, .inl (by omega)⟩
    · omega⟩
theorem sc_node {l : Lattice} {w : ByteArray} {nd i : Int} {T : List Int} (h : scI l w nd i 0 T) (hi : (l.Edges.length : Int) ≤ i) : scI l w (nd + 1) 0 0 T :=
  ⟨h.1, h.2.1, h.2.2.1, fun i' m hi' h1 h2 h3 => by
    refine h.2.2.2 i' m hi' h1 h2 ?_
    rcases h3 with h3 | ⟨h3, h4 | ⟨h4, h5⟩⟩
    · by_cases e : (at_ l.Edges i').From = nd
      · exact .inr ⟨e, .inl (by omega)⟩
      · exact .inl (by omega)
    · omega
    · omega⟩
theorem sc_end {l : Lattice} (hl : Zcg l) {w : ByteArray} {nd : Int} {T : List Int} (hnd : l.Nodes ≤ nd) (h : scI l w nd 0 0 T) : (clT w T (l.Nodes - 1) w.size = -1 ∧ ¬ tcF l w < 1099511627776) ∨ (0 ≤ clT w T (l.Nodes - 1) w.size ∧ clT w T (l.Nodes - 1) w.size = tcF l w ∧ tcF l w < 1099511627776) := by
  have hN := hl.1
  have key : ∀ m : Nat, m ≤ w.size → ∀ j : Nat, j < l.Nodes.toNat → ∀ c, pth l j ⟨w.extract 0 m, c⟩ → 0 ≤ clT w T j m ∧ clT w T j m ≤ c := fun m => by
    induction m with
    | zero =>
      intro _ j hj c hc
      rcases (Zfp hl hj _).1 hc with ⟨q1, q2⟩ | ⟨e2, he, a, r, hr, q⟩
      · subst q1
        have := congrArg Reading.Cost q2
        replace this : c = 0 := this
        have z : clT w T ((0 : Nat) : Int) ((0 : Nat) : Int) = 0 := h.2.1
        rw [z]; omega
      · have t := congrArg (fun r : Reading => r.Text.size) q
        replace t : (w.extract 0 0).size = (r.Text ++ e2.Label).size := t
        rw [ByteArray.size_append, Zeh (Zte hl he).2.2, Zqs] at t
        exact absurd t (by show ¬ (0 = _); omega)
    | succ m ih =>
      intro hm j hj c hc
      obtain ⟨e, he, h1, h2, c', h3, h4⟩ := Zlg hl (show m < w.size by omega) hj hc
      obtain ⟨i', hi, q⟩ := List.getElem_of_mem he
      rw [← Zcz hi] at q
      subst q
      have b := (hl.2.2.1 i' hi).1
      have a := ih (by omega) (at_ l.Edges i').From.toNat (by omega) c' h3
      rw [show (((at_ l.Edges i').From.toNat : Nat) : Int) = (at_ l.Edges i').From from by omega] at a
      have := h.2.2.2 i' m hi (by omega) (by omega) (.inl (by omega)) a.1 h2
      rw [h1, show ((m : Nat) : Int) + 1 = ((m + 1 : Nat) : Int) from by omega] at this
      omega
  have e1 : (((l.Nodes - 1).toNat : Nat) : Int) = l.Nodes - 1 := by omega
  have hv := h.2.2.1 (l.Nodes - 1) w.size (by omega) (by omega) (by omega) (by omega)
  have hk := key w.size (Nat.le_refl _) (l.Nodes - 1).toNat (by omega)
  rw [e1, Zjn] at hk
  rw [show ((w.size : Int)).toNat = w.size from by omega, Zjn] at hv
  by_cases q : tcF l w < 1099511627776
  · right
    have a := hk _ (Zqu hl q)
    rcases hv with z | z
    · omega
    · have := Zuu hl z.2
      exact ⟨a.1, by omega, q⟩
  · left
    rcases hv with z | z
    · exact ⟨z, q⟩
    · have a := Zuu hl z.2
      have bd := Zko hl _ _ (Nat.le_refl _) (by omega) _ z.2
      have b1 := bd.1
      have b2 := bd.2.2
      replace b1 : w.size ≤ (l.Nodes - 1).toNat := b1
      replace b2 : clT w T (l.Nodes - 1) w.size ≤ 1000000 * ((w.size : Nat) : Int) := b2
      omega
theorem tcF_long {l : Lattice} (hl : Zcg l) {w : ByteArray} (h : 20 < w.size) : ¬ tcF l w < 1099511627776 := fun q => by
  have hN := hl.1
  have bd := (Zko hl _ _ (Nat.le_refl _) (by omega) _ (Zqu hl q)).1
  replace bd : w.size ≤ (l.Nodes - 1).toNat := bd
  omega
theorem sc_bd {l : Lattice} (hl : Zcg l) {w : ByteArray} {j m v : Int} (hj : 0 ≤ j ∧ j < l.Nodes) (h : v = -1 ∨ (0 ≤ v ∧ pth l j.toNat ⟨w.extract 0 m.toNat, v⟩)) : -1 ≤ v ∧ v ≤ 20000000 := by
  rcases h with q | q
  · omega
  · have hN := hl.1
    have b := Zko hl _ _ (Nat.le_refl _) (by omega) _ q.2
    have b1 := b.1
    have b2 := b.2.2
    replace b1 : (w.extract 0 m.toNat).size ≤ j.toNat := b1
    replace b2 : v ≤ 1000000 * (((w.extract 0 m.toNat).size : Nat) : Int) := b2
    omega
theorem Zis {l : Lattice} {w : ByteArray} {T : List Int} {i : Nat} {k : Int} {nd : Int} (hf : (at_ l.Edges i).From = nd) (h : clT w T nd k < 0 ∨ ¬ w.extract k.toNat (k + 1).toNat = (at_ l.Edges i).Label ∨ (0 ≤ clT w T (at_ l.Edges i).To (k + 1) ∧ clT w T (at_ l.Edges i).To (k + 1) ≤ clT w T nd k + (at_ l.Edges i).Cost)) (hk : 0 ≤ k) : scCov l w T i k := fun h1 h2 => by
  rw [hf] at h1 ⊢
  rcases h with h | h | h
  · omega
  · exact absurd (by rw [h2]; unfold chA; rw [show (k + 1).toNat = k.toNat + 1 from by omega]) h
  · exact h
theorem bs_lo {α : Type} [Inhabited α] {d : α → α → Int} (hw : CmpW d) {xs : List α} {e : α} (hp : xs.Pairwise fun x y => d x y < 0) {k h : Nat} (hk : k < h) (hh : h < xs.length) (hc : d (at_ xs h) e < 0) : d (at_ xs k) e < 0 :=
  hw.trans _ _ _ (by have := Zgq hp hk hh; omega) hc
theorem bs_hi {α : Type} [Inhabited α] {d : α → α → Int} (hw : CmpW d) {xs : List α} {e : α} (hp : xs.Pairwise fun x y => d x y < 0) {k h : Nat} (hk : k < h) (hh : h < xs.length) (hc : ¬ d (at_ xs k) e < 0) : ¬ d (at_ xs h) e < 0 := fun q => hc (bs_lo hw hp hk hh q)
theorem Zkw {α : Type} [Inhabited α] {d : α → α → Int} (hw : CmpW d) {xs : List α} {e : α} (hp : xs.Pairwise fun x y => d x y < 0) {a : Nat} (h1 : ∀ k : Nat, k < a → d (at_ xs k) e < 0) (h3 : ∀ k : Nat, a ≤ k → k < xs.length → ¬ d (at_ xs k) e < 0) (h2 : ¬ (a < xs.length ∧ d (at_ xs a) e = 0)) : ∀ j : Nat, j < xs.length → d (at_ xs j) e ≠ 0 := fun j hj q => by
  by_cases c1 : j < a
  · have := h1 j c1; omega
  · by_cases c2 : j = a
    · subst c2; exact h2 ⟨hj, q⟩
    · have n1 := h3 a (Nat.le_refl _) (by omega)
      have n2 : d (at_ xs a) e ≠ 0 := fun z => h2 ⟨by omega, z⟩
      have p := Zgq hp (show a < j by omega) hj
      have a1 := hw.anti e (at_ xs a)
      have a2 := hw.anti e (at_ xs j)
      have := hw.trans e (at_ xs a) (at_ xs j) (by omega) p
      omega
theorem find_at {α : Type} [Inhabited α] {xs : List α} {p : α → Bool} {k : Nat} (hk : k < xs.length) (h : p (at_ xs k) = true) (hn : ∀ j : Nat, j < k → ¬ p (at_ xs j) = true) : xs.find? p = some (at_ xs k) := by
  rw [Zcz hk] at *
  rw [List.find?_eq_some_iff_getElem]
  refine ⟨h, k, hk, rfl, fun j hj => ?_⟩
  have := hn j hj
  rw [Zcz (by omega)] at this
  simpa using this
def entF (lx : Lexicon) (w : ByteArray) : Option Entry := lx.Entries.find? fun e => decide (e.Word = w)
def Zvk (lx : Lexicon) (w : ByteArray) : Int := match entF lx w with
  | some e => e.Cost
  | none => 0
theorem Zju {lx : Lexicon} {w : ByteArray} {k : Nat} (h : Zci lx) (hk : k < lx.Entries.length) (hw : (at_ lx.Entries k).Word = w) : Zvk lx w = (at_ lx.Entries k).Cost := by
  have e : entF lx w = some (at_ lx.Entries k) := find_at hk (decide_eq_true hw) fun j hj q => by
    have p := Zgq h.2.2 hj hk
    have z : Zff (at_ lx.Entries j) (at_ lx.Entries k) = 0 := Zdc.2 ((of_decide_eq_true q).trans hw.symm)
    omega
  unfold Zvk; rw [e]
def Zli (x : Found) : Int := IntKind.i64.wrap (x.Path + x.Own)
def Znt (a b : Found) : Int := orL [Zdd (Zli a) (Zli b), Zdd (a.Word.size : Int) (b.Word.size : Int), Zdm a.Word b.Word]
theorem Ybq (a b : Found) : Znt a b = if Zdd (Zli a) (Zli b) = 0 then (if Zdd (a.Word.size : Int) (b.Word.size : Int) = 0 then Zdm a.Word b.Word else Zdd (a.Word.size : Int) (b.Word.size : Int)) else Zdd (Zli a) (Zli b) := by
  unfold Znt orL orL orL orL
  by_cases h1 : Zdd (Zli a) (Zli b) = 0
  · rw [if_pos h1, if_pos h1]
    by_cases h2 : Zdd (a.Word.size : Int) (b.Word.size : Int) = 0
    · rw [if_pos h2, if_pos h2]; split
      · rename_i h3; exact h3.symm
      · rfl
    · rw [if_neg h2, if_neg h2]
  · rw [if_neg h1, if_neg h1]
theorem Zwp : CmpW Znt := by
  have h : Znt = fun x y => if Zdd (Zli x) (Zli y) = 0 then (fun x y : Found => if Zdd (x.Word.size : Int) (y.Word.size : Int) = 0 then (fun x y : Found => Zdm x.Word y.Word) x y else Zdd (x.Word.size : Int) (y.Word.size : Int)) x y else Zdd (Zli x) (Zli y) := funext fun a => funext fun b => Ybq a b
  rw [h]
  exact CmpW.lex (f := Zli) Zoq (CmpW.lex (f := fun x : Found => (x.Word.size : Int)) Zoq (cmpS_w.map Found.Word))
theorem cmpF_sum {a b : Found} (h : ¬ Znt b a < 0) : Zli a ≤ Zli b := by
  rw [Ybq] at h
  by_cases h1 : Zdd (Zli b) (Zli a) = 0
  · rw [Zez] at h1; omega
  · rw [if_neg h1, Zjo] at h; omega
def okFd (l : Lattice) (lx : Lexicon) (f : Found) : Prop := (∃ e ∈ lx.Entries, e.Word = f.Word ∧ e.Cost = f.Own) ∧ tcF l f.Word < 1099511627776 ∧ tcF l f.Word ≤ f.Path ∧ (0 ≤ f.Path ∧ f.Path ≤ 20000000) ∧ (0 ≤ f.Own ∧ f.Own ≤ 1000000)
theorem sum_is {l : Lattice} {lx : Lexicon} {f : Found} (h : okFd l lx f) : Zli f = f.Path + f.Own := by
  have a := h.2.2.2.1
  have b := h.2.2.2.2
  unfold Zli
  exact Zgl (Zah (by omega) (by omega))
def rdI (l : Lattice) (lx : Lexicon) : Nat → List Found
  | 0 => []
  | i + 1 => if tcF l (at_ lx.Entries i).Word < 1099511627776 then rdI l lx i ++ [⟨(at_ lx.Entries i).Word, tcF l (at_ lx.Entries i).Word, (at_ lx.Entries i).Cost⟩] else rdI l lx i
theorem Zlq (l : Lattice) (lx : Lexicon) : ∀ i, (rdI l lx i).length ≤ i
  | 0 => Nat.le_refl _
  | i + 1 => by
    have := Zlq l lx i
    unfold rdI
    split
    · rw [List.length_append]; simp; omega
    · omega
theorem Ybr {l : Lattice} {lx : Lexicon} {f : Found} : ∀ i, i ≤ lx.Entries.length → (f ∈ rdI l lx i ↔ ∃ j, j < i ∧ tcF l (at_ lx.Entries j).Word < 1099511627776 ∧ f = ⟨(at_ lx.Entries j).Word, tcF l (at_ lx.Entries j).Word, (at_ lx.Entries j).Cost⟩)
  | 0, _ => ⟨fun h => (by cases h), fun ⟨j, h, _⟩ => absurd h (Nat.not_lt_zero _)⟩
  | i + 1, hi => by
    have ih := Ybr (l := l) (lx := lx) (f := f) i (by omega)
    unfold rdI
    split
    · rename_i q
      rw [List.mem_append, ih, List.mem_singleton]
      constructor
      · rintro (⟨j, a, b⟩ | h)
        · exact ⟨j, by omega, b⟩
        · exact ⟨i, by omega, q, h⟩
      · rintro ⟨j, a, b, c⟩
        by_cases e : j = i
        · subst e; exact .inr c
        · exact .inl ⟨j, by omega, b, c⟩
    · rename_i q
      rw [ih]
      constructor
      · rintro ⟨j, a, b⟩; exact ⟨j, by omega, b⟩
      · rintro ⟨j, a, b, c⟩
        by_cases e : j = i
        · subst e; exact absurd b q
        · exact ⟨j, by omega, b, c⟩
def rdA (l : Lattice) (lx : Lexicon) : List Found := rdI l lx lx.Entries.length
theorem rdA_mem {l : Lattice} (hl : Zcg l) {lx : Lexicon} (hx : Zci lx) {f : Found} : f ∈ rdA l lx ↔ ∃ e ∈ lx.Entries, tcF l e.Word < 1099511627776 ∧ f = ⟨e.Word, tcF l e.Word, e.Cost⟩ := by
  unfold rdA
  rw [Ybr _ (Nat.le_refl _)]
  constructor
  · rintro ⟨j, a, b, c⟩; exact ⟨_, Zcx a, b, c⟩
  · rintro ⟨e, he, b, c⟩
    obtain ⟨j, hj, q⟩ := List.getElem_of_mem he
    rw [← Zcz hj] at q
    subst q
    exact ⟨j, hj, b, c⟩
theorem Zyt {l : Lattice} (hl : Zcg l) {lx : Lexicon} (hx : Zci lx) {f : Found} (h : f ∈ rdA l lx) : okFd l lx f ∧ f.Path = tcF l f.Word := by
  obtain ⟨e, he, a, rfl⟩ := (rdA_mem hl hx).1 h
  have b := (hx.2.1 e he).2
  have c := tcF_bd hl e.Word
  have d := Zko hl _ _ (Nat.le_refl _) (by have := hl.1; omega) _ (Zqu hl a)
  have hN := hl.1
  have d1 := d.1
  have d2 := d.2.2
  replace d1 : e.Word.size ≤ (l.Nodes - 1).toNat := d1
  replace d2 : tcF l e.Word ≤ 1000000 * ((e.Word.size : Nat) : Int) := d2
  exact ⟨⟨⟨e, he, rfl, rfl⟩, a, Int.le_refl _, ⟨by show 0 ≤ tcF l e.Word; omega, by show tcF l e.Word ≤ _; omega⟩, ⟨by show 0 ≤ e.Cost; omega, by show e.Cost ≤ _; omega⟩⟩, rfl⟩
theorem Zkp {α : Type} {c : α → α → Int} (h : CmpW c) : Go.Sort.SWO (ltOf c) := ⟨fun x => decide_eq_false (by have := h.refl x; omega), fun x y z h1 h2 => decide_eq_true (h.trans x y z (Int.le_of_lt (of_decide_eq_true (p := c x y < 0) h1)) (of_decide_eq_true (p := c y z < 0) h2)), fun x y z h1 h2 => decide_eq_false fun h3 => by
  have q1 := of_decide_eq_false h1
  have q2 := of_decide_eq_false h2
  have a1 := h.anti y x
  have a2 := h.anti z y
  have a3 := h.anti x z
  have b1 := h.anti x y
  have b2 := h.anti y z
  have := h.le (x := z) (y := y) (z := x) (by omega) (by omega)
  omega⟩
theorem srt_iso {α : Type} [Inhabited α] {c : α → α → Int} (h : CmpW c) (ht : ∀ x y, c x y = 0 → x = y) (xs : List α) : Zjt c xs = Zuv c xs xs.length := by
  have p1 := Zwj (Zkp h) xs
  have p2 := Zjp c xs xs.length (Nat.le_refl _)
  rw [List.take_of_length_le (Nat.le_refl _)] at p2
  have o1 := srt_pw (Zkp h) xs
  have o2 : (Zuv c xs xs.length).Pairwise fun x y => ¬ c y x < 0 := (Zqv (c := c) h (B := fun _ _ => True) (xs := xs) (List.pairwise_of_forall fun _ _ => trivial) xs.length (Nat.le_refl _)).imp fun {x y} q => by
    have a1 := h.anti x y
    have a2 := h.anti y x
    rcases q with q | q
    · omega
    · have := q.1; omega
  refine List.Perm.eq_of_pairwise (le := fun x y => ¬ c y x < 0) (fun a b _ _ q1 q2 => ht a b ?_) o1 o2 (p1.trans p2.symm)
  have a1 := h.anti a b
  have a2 := h.anti b a
  omega
theorem tl_inj {a b : ByteArray} (q : a.toList = b.toList) : a = b := by
  rw [Lib.toList_data, Lib.toList_data] at q
  cases a; cases b
  simp only [ByteArray.mk.injEq]
  exact Array.toList_inj.1 q
theorem sfNI (x : Int) (w : World) : Calls Tryz.prog 183 #[.int .i64 x] w fun e w' => e = .returned (.bool false) ∧ w' = w := by
  go_enter Tryz.func183, Tryz.ntmps183
  go_wp2
  go_ret
  exact ⟨by simp, rfl⟩
theorem sfCI (x y : Int) (w : World) : Calls Tryz.prog 148 #[.int .i64 x, .int .i64 y] w fun e w' => e = .returned (.int .i64 (Zdd x y)) ∧ w' = w := by
  go_enter Tryz.func148, Tryz.ntmps148
  go_wp2_with (go_at_call 183; refine (sfNI _ _).mono ?_; rintro e w' ⟨rfl, hw⟩; rw [hw])
  all_goals (go_ret; refine ⟨?_, rfl⟩; congr 2; unfold Zdd; (repeat' split) <;> first | rfl | (exfalso; omega))
theorem sfNJ (x : Int) (w : World) : Calls Tryz.prog 205 #[.int .i64 x] w fun e w' => e = .returned (.bool false) ∧ w' = w := by
  go_enter Tryz.func205, Tryz.ntmps205
  go_wp2
  go_ret
  exact ⟨by simp, rfl⟩
theorem sfCJ (x y : Int) (w : World) : Calls Tryz.prog 159 #[.int .i64 x, .int .i64 y] w fun e w' => e = .returned (.int .i64 (Zdd x y)) ∧ w' = w := by
  go_enter Tryz.func159, Tryz.ntmps159
  go_wp2_with (go_at_call 205; refine (sfNJ _ _).mono ?_; rintro e w' ⟨rfl, hw⟩; rw [hw])
  all_goals (go_ret; refine ⟨?_, rfl⟩; congr 2; unfold Zdd; (repeat' split) <;> first | rfl | (exfalso; omega))
theorem sfNS (x : ByteArray) (w : World) : Calls Tryz.prog 164 #[.string x] w fun e w' => e = .returned (.bool false) ∧ w' = w := by
  go_enter Tryz.func164, Tryz.ntmps164
  go_wp2
  go_ret
  exact ⟨by simp, rfl⟩
theorem sfCS (x y : ByteArray) (w : World) : Calls Tryz.prog 115 #[.string x, .string y] w fun e w' => e = .returned (.int .i64 (Zdm x y)) ∧ w' = w := by
  go_enter Tryz.func115, Tryz.ntmps115
  go_wp2_with (go_at_call 164; refine (sfNS _ _).mono ?_; rintro e w' ⟨rfl, hw⟩; rw [hw])
  all_goals (go_ret; refine ⟨?_, rfl⟩; congr 2; unfold Zdm Zds; (repeat' split) <;> first | rfl | (exfalso; simp_all; done) | (exfalso; rename_i h1 h2 h3; exact h3.2 (tl_inj (by simpa using h1))))
theorem sfOr (b n c : Nat) (xs : List Int) (w : World) (hn : n = xs.length) (hc : n ≤ 9223372036854775807) (h : ∀ j, j < xs.length → w.cell? ⟨b, j, none⟩ = some (.int .i64 (at_ xs j))) : Calls Tryz.prog 147 #[.slice (some ⟨b, 0, none⟩) n c] w fun e w' => e = .returned (.int .i64 (orL xs)) ∧ w' = w := by
  go_enter Tryz.func147, Tryz.ntmps147
  go_wp2
  go_loop [8] (fun i => ∃ k : Nat, k ≤ n ∧ i = .int .i64 k ∧ ∀ j, j < k → at_ xs j = 0) (fun i => n - (intOf i).toNat)
  case atStart => exact ⟨0, Nat.zero_le _, rfl, fun j hj => absurd hj (Nat.not_lt_zero _)⟩
  case round =>
    obtain ⟨k, hk, rfl, hz⟩ := hrel
    by_cases hlt : k < n
    · have ck := h k (by omega)
      have S : Hid (at_ xs k = 0 → ∀ j, j < k + 1 → at_ xs j = 0) := fun q j hj => by
        by_cases e : j = k
        · rw [e]; exact q
        · exact hz j (by omega)
      have T : Hid (at_ xs k ≠ 0 → orL xs = at_ xs k) := fun q => Ztc (by omega) hz q
      generalize at_ xs k = v at ck S T
      clear h hz
      by_cases hv : v = 0
      · have S2 : Hid (∀ j, j < k + 1 → at_ xs j = 0) := S.out hv
        clear S T
        subst hv
        go_wp2
        exact ⟨⟨k + 1, by omega, rfl, S2.out⟩, by simp [intOf]; omega⟩
      · have T2 : Hid (orL xs = v) := T.out hv
        clear S T
        go_wp2
        go_ret
        exact ⟨by rw [T2.out]; rfl, rfl⟩
    · have : k = n := by omega
      subst this
      have T : Hid (orL xs = 0) := Zqq (fun j hj => hz j (by omega))
      clear h hz
      go_wp2
      all_goals (go_ret; exact ⟨by rw [T.out]; rfl, rfl⟩)
def Zor (x : Found) : List Value := [.string x.Word, .int .i64 x.Path, .int .i64 x.Own]
theorem srFcmp (x y : Found) (w : World) : Calls Tryz.prog 104 (#[.agg (Zor x).toArray, .agg (Zor y).toArray] ++ #[]) w fun e w' => e = .returned (.int .i64 (Znt x y)) ∧ ∃ q os', w' = Go.Sort.grow (w.drewN q) os' := by
  show Calls Tryz.prog 104 #[.agg #[.string x.Word, .int .i64 x.Path, .int .i64 x.Own], .agg #[.string y.Word, .int .i64 y.Path, .int .i64 y.Own]] w _
  go_enter Tryz.func104, Tryz.ntmps104
  go_wp2
  refine Zgb 23 (by kernel_rfl) (by kernel_rfl) (by kernel_rfl) ?_
  repeat (quiet_step (first | (go_at_call 148; exact Calls.quiet_of_same (sfCI _ _ _)) | (go_at_call 159; exact Calls.quiet_of_same (sfCJ _ _ _)) | (go_at_call 115; exact Calls.quiet_of_same (sfCS _ _ _))))
  refine wpQuiet_nil ?_
  intro _ hw'
  obtain ⟨nq, hw''⟩ := hw'
  subst hw''
  simp only [List.drop_succ_cons, List.drop_zero]
  go_wp2_with fail
  have hs_ : ∀ f : Found, RowKit.wrap64 (f.Path + f.Own) = Zli f := fun f => (IntWalk.i64_left _).symm
  simp only [hs_]
  refine (sfOr _ _ _ [Zdd (Zli x) (Zli y), Zdd (x.Word.size : Int) (y.Word.size : Int), Zdm x.Word y.Word] _ rfl (by simp) (fun j hj => ?_)).mono ?_
  · have hj2 : j = 0 ∨ j = 1 ∨ j = 2 := by
      simp at hj; omega
    have e : ∀ (a b c : Obj), (((w.heap.push a).push b).push c)[w.heap.size + 1 + 1]? = some c := fun a b c => by rw [Array.getElem?_push, if_pos (by simp)]
    unfold World.cell?
    rcases hj2 with rfl | rfl | rfl <;> (erw [e]; rfl)
  rintro e w' ⟨rfl, rfl⟩
  go_wp2
  go_ret
  refine ⟨rfl, nq, #[.cells #[Value.string x.Word, Value.int IntKind.i64 x.Path, Value.int IntKind.i64 x.Own] 53 (0, 0), .cells #[Value.string y.Word, Value.int IntKind.i64 y.Path, Value.int IntKind.i64 y.Own] 53 (0, 0), .cells #[Value.int IntKind.i64 (Zdd (Zli x) (Zli y)), Value.int IntKind.i64 (Zdd (x.Word.size : Int) (y.Word.size : Int)), Value.int IntKind.i64 (Zdm x.Word y.Word)] 3 (0, 0)], ?_⟩
  have e : ∀ (a b c : Obj), ((w.heap.push a).push b).push c = w.heap ++ #[a, b, c] := fun a b c => Array.toList_inj.1 (by simp)
  unfold Go.Sort.grow
  show World.mk (((w.heap.push _).push _).push _) w.tape (w.drawn + nq) w.os w.output = World.mk (w.heap ++ #[_, _, _]) w.tape (w.drawn + nq) w.os w.output
  rw [e]
theorem Zyf (data : List Found) (hl : data.length ≤ 4000000) : ∃ (data' : List Found), (data'.Perm data) ∧ (data'.Pairwise fun x_ y_ => ¬ Znt y_ x_ < 0) ∧ Zbi Tryz.prog 103 [.arr 8631, .fn 104 []] (Zaf [(8631, Zdg data)]) true (.tup []) (Zaf [(8631, Zdg data')]) := by
  refine ⟨Zjt Znt data, Zwj (Zkp Zwp) data, srt_pw (Zkp Zwp) data, ?_⟩
  exact Zkl (enc := Zor) (kc := 3) (by decide) (fun _ => rfl) (fun x v hv => by simp only [Zor, List.mem_cons, List.not_mem_nil, or_false] at hv; rcases hv with rfl | rfl | rfl <;> rfl) (cf := Znt) (Zkp Zwp)
    (fun blk off cap d w h1 h2 h3 => AnyQ.slices_SortFunc_eq Tryz.laysSfFnd 3 (fun w => Zfl (by kernel_rfl) w) (fun w => Zbn (by kernel_rfl) w) Zor (fun _ => rfl) (fun x v hv => by simp only [Zor, List.mem_cons, List.not_mem_nil, or_false] at hv; rcases hv with rfl | rfl | rfl <;> rfl) Znt (Zkp Zwp) 104 #[] blk off cap d w (enters_of Tryz.func104 (by kernel_rfl) rfl) (fun m os dk hdk x y => srFcmp x y _) h1 h2 h3)
    (fun p cap fv w => AnyF.slices_SortFunc_none Tryz.laysSfFnd p cap fv w) 8631 data (by omega)
theorem Zuw (l : Lattice) (lx : Lexicon) (hl : Zcg l) (hx : Zci lx) : ∃ (v : List Found), (v.Perm (rdA l lx)) ∧ (v.Pairwise fun x_ y_ => ¬ Znt y_ x_ < 0) ∧ Con Tryz.prog 52 [Zbh l, .agg [Zaa false lx.Entries]] true (Zbc true v) := by
  have hn20 := hl.1
  have hc := hx.1
  have hh : ∃ r : (List Found), ((r.Perm (rdA l lx)) ∧ (r.Pairwise fun x_ y_ => ¬ Znt y_ x_ < 0) ∧ (True)) ∧ Zbi Tryz.prog 52 [Zbh l, .agg [Zaa false lx.Entries]] (Zaf []) true (Zbc true r) (Zaf []) := by
    refine Zdl (Φ := fun r : (List Found) => (r.Perm (rdA l lx)) ∧ (r.Pairwise fun x_ y_ => ¬ Znt y_ x_ < 0) ∧ (True)) [] (fun r => []) (fn := Tryz.f52) (nt := 35) Tryz.func52 rfl rfl (args := [Zbh l, .agg [Zaa false lx.Entries]]) rfl (Zbe (.inl ⟨rfl, by simp [Zan, Zaj, Zdv]⟩) (Zbe (.inl ⟨rfl, by simp [Zan, Zaj, Zcf]⟩) Zdj)) (res := fun r => Zbc true r) ?_
    refine xR [(0, .new 2), (1, .new 3)] [2, 3] [2, 3] [.ref 2 0, .ref 3 0] [some (Zac l), some (.box [Zaa false lx.Entries])] [] trivial ?_
    refine xR [] [2, 3, 5] [2, 3] [.ref 2 0, .ref 3 0, Zde] [some (Zac l), some (.box [Zaa false lx.Entries])] [] trivial ?_
    refine Zar ?_
    refine xR [] [2, 5, 10, 11, 12] [2] [.ref 2 0, Zde, Zaa false lx.Entries, I (lx.Entries.length : Int), I 0] [some (Zac l)] [] trivial ?_
    refine Zbp ?_
    refine x_nil 5 705 3 (fun _ => []) (by kernel_rfl) ?_
    refine Zek [] (T := [(2, .ref 2 0), (5, .arr 705), (10, Zaa false lx.Entries), (11, I (lx.Entries.length : Int)), (12, I 0)]) (O := [(2, Zac l), (705, Zdg ([] : List Found))]) rfl (⟨.inl rfl, .inl rfl, .inl rfl, .inl rfl, .inl rfl, trivial⟩) (⟨.inl rfl, .inr ⟨rfl, (by first | rfl | (simp; done) | (simp; omega) | omega), fun i_ hi_ => absurd hi_ (Nat.not_lt_zero _)⟩, trivial⟩) ?_
    refine Zel (X := (List Found) × Int) (fun x => mkS [(2, .ref 2 0), (5, .arr 705), (10, Zaa false lx.Entries), (11, I (lx.Entries.length : Int)), (12, I x.2)] [(2, Zac l), (705, Zdg x.1)]) (fun x => (0 ≤ x.2 ∧ x.2 ≤ (lx.Entries.length : Int)) ∧ (x.1 = rdI l lx x.2.toNat) ∧ True) (fun x => ((lx.Entries.length : Int) - x.2).toNat) (([] : List Found), 0) rfl (show (0 ≤ (0 : Int) ∧ (0 : Int) ≤ (lx.Entries.length : Int)) ∧ (([] : List Found) = rdI l lx (0 : Int).toNat) ∧ True from ⟨(by omega), (by rfl), trivial⟩) (fun x hI => ?_)
    obtain ⟨list, t12⟩ := x
    obtain ⟨hi0, hli, _⟩ : (0 ≤ t12 ∧ t12 ≤ (lx.Entries.length : Int)) ∧ (list = rdI l lx t12.toNat) ∧ True := hI
    show XW _ _ _ _ (mkS [(2, .ref 2 0), (5, .arr 705), (10, Zaa false lx.Entries), (11, I (lx.Entries.length : Int)), (12, I t12)] [(2, Zac l), (705, Zdg list)]) _ _
    refine Zar ?_
    by_cases h1 : t12 < (lx.Entries.length : Int)
    ·have hi : t12.toNat < lx.Entries.length := by omega
     have hen := hx.2.1 _ (Zcx hi)
     have hwz := (Zdn.1 hen.1).1
     have hii : (t12 + 1).toNat = t12.toNat + 1 := by omega
     have hrl := Zlq l lx t12.toNat
     rw [← hli] at hrl
     refine x_r [(0, .dec true)] [2, 5, 10, 11, 12, 13] [2, 705] [.ref 2 0, .arr 705, Zaa false lx.Entries, I (lx.Entries.length : Int), I t12, Bv true] [some (Zac l), some (Zdg list)] [t12 < (lx.Entries.length : Int)] ⟨h1, trivial⟩ ?_
     refine Zad ?_
     refine Zar ?_
     refine Zcb rfl ?_
     refine Zbk ?_
     refine Zad ?_
     refine Zar ?_
     refine Zbp ?_
     refine xR [(2, .new 7)] [2, 5, 7, 10, 11, 12] [2, 7, 705] [.ref 2 0, .arr 705, .ref 7 0, Zaa false lx.Entries, I (lx.Entries.length : Int), I t12] [some (Zac l), some (Zcy (at_ lx.Entries t12.toNat)), some (Zdg list)] [(0 : Int) ≤ t12 ∧ t12 < (lx.Entries.length : Int)] ⟨⟨(by omega), (by omega)⟩, trivial⟩ ?_
     refine xR [(3, .call [(true, .any), (true, .any)] true (I (tcF l ((at_ lx.Entries t12.toNat).Word))))] [2, 5, 7, 8, 10, 11, 12] [2, 7, 705] [.ref 2 0, .arr 705, .ref 7 0, I (tcF l ((at_ lx.Entries t12.toNat).Word)), Zaa false lx.Entries, I (lx.Entries.length : Int), I t12] [some (Zac l), some (Zcy (at_ lx.Entries t12.toNat)), some (Zdg list)] [Con Tryz.prog 42 [Zbh l, Sv ((at_ lx.Entries t12.toNat).Word)] true (I (tcF l ((at_ lx.Entries t12.toNat).Word))) ∧ True] ⟨⟨(Zus l ((at_ lx.Entries t12.toNat).Word) hl (by omega)), trivial⟩, trivial⟩ ?_
     refine Zar ?_
     by_cases h2 : (tcF l ((at_ lx.Entries t12.toNat).Word)) < 1099511627776
     ·have htc := h2
      refine x_r [(1, .dec true)] [2, 5, 7, 8, 10, 11, 12, 21] [2, 7, 705] [.ref 2 0, .arr 705, .ref 7 0, I (tcF l ((at_ lx.Entries t12.toNat).Word)), Zaa false lx.Entries, I (lx.Entries.length : Int), I t12, Bv true] [some (Zac l), some (Zcy (at_ lx.Entries t12.toNat)), some (Zdg list)] [(tcF l ((at_ lx.Entries t12.toNat).Word)) < 1099511627776] ⟨h2, trivial⟩ ?_
      refine Zad ?_
      refine Zcb rfl ?_
      refine x_r [(7, .new 29), (8, .new 30)] [2, 5, 10, 11, 12] [2, 30] [.ref 2 0, .arr 30, Zaa false lx.Entries, I (lx.Entries.length : Int), I t12] [some (Zac l), some (.arr 3 (list.length + 1) (Zfm list.length (Zos list) (Zgd [Sv ((at_ lx.Entries t12.toNat).Word), I (tcF l ((at_ lx.Entries t12.toNat).Word)), I ((at_ lx.Entries t12.toNat).Cost)] 3)))] [(list.length + 1) * 32 ≤ 140737488355328] ⟨(by omega), trivial⟩ ?_
      refine Zbw 1 ?_
      refine Zad ?_
      refine x_r [] [2, 5, 10, 11, 12] [2, 30] [.ref 2 0, .arr 30, Zaa false lx.Entries, I (lx.Entries.length : Int), I (t12 + 1)] [some (Zac l), some (.arr 3 (list.length + 1) (Zfm list.length (Zos list) (Zgd [Sv ((at_ lx.Entries t12.toNat).Word), I (tcF l ((at_ lx.Entries t12.toNat).Word)), I ((at_ lx.Entries t12.toNat).Cost)] 3)))] [inR .i64 (t12 + 1)] ⟨(Zah (by omega) (by omega)), trivial⟩ ?_
      refine Zgy [(705, 30)] (T := [(2, .ref 2 0), (5, .arr 705), (10, Zaa false lx.Entries), (11, I (lx.Entries.length : Int)), (12, I (t12 + 1))]) (O := [(2, Zac l), (705, Zdg (list ++ [(Found.mk ((at_ lx.Entries t12.toNat).Word) (tcF l ((at_ lx.Entries t12.toNat).Word)) ((at_ lx.Entries t12.toNat).Cost))]))]) rfl (⟨.inl rfl, .inl rfl, .inl rfl, .inl rfl, .inl rfl, trivial⟩) (⟨.inl rfl, .inr ⟨rfl, (by first | rfl | (simp; done) | (simp; omega) | omega), fun i_ hi_ => .inl (Zhw (enc := Ztf) (xs := list) rfl i_ hi_)⟩, trivial⟩) (Zbm ((list ++ [(Found.mk ((at_ lx.Entries t12.toNat).Word) (tcF l ((at_ lx.Entries t12.toNat).Word)) ((at_ lx.Entries t12.toNat).Cost))]), (t12 + 1)) rfl (show (0 ≤ (t12 + 1) ∧ (t12 + 1) ≤ (lx.Entries.length : Int)) ∧ ((list ++ [(Found.mk ((at_ lx.Entries t12.toNat).Word) (tcF l ((at_ lx.Entries t12.toNat).Word)) ((at_ lx.Entries t12.toNat).Cost))]) = rdI l lx (t12 + 1).toNat) ∧ True from ⟨(by omega), (by (rw [hii]; show _ = (if _ then _ else _); rw [← hli]; first | (rw [if_pos htc]; done) | (rw [if_neg htc]; done))), trivial⟩) (by first | (show (((lx.Entries.length : Int) - (t12 + 1)).toNat : Nat) < ((lx.Entries.length : Int) - t12).toNat; omega) | (dsimp only; omega)))
     have htc := h2
     refine x_r [(1, .dec false)] [2, 5, 7, 8, 10, 11, 12, 21] [2, 7, 705] [.ref 2 0, .arr 705, .ref 7 0, I (tcF l ((at_ lx.Entries t12.toNat).Word)), Zaa false lx.Entries, I (lx.Entries.length : Int), I t12, Bv false] [some (Zac l), some (Zcy (at_ lx.Entries t12.toNat)), some (Zdg list)] [¬ ((tcF l ((at_ lx.Entries t12.toNat).Word)) < 1099511627776)] ⟨h2, trivial⟩ ?_
     refine Zad ?_
     refine Zav rfl ?_
     refine Zbk ?_
     refine Zbw 1 ?_
     refine Zad ?_
     refine x_r [] [2, 5, 10, 11, 12] [2, 705] [.ref 2 0, .arr 705, Zaa false lx.Entries, I (lx.Entries.length : Int), I (t12 + 1)] [some (Zac l), some (Zdg list)] [inR .i64 (t12 + 1)] ⟨(Zah (by omega) (by omega)), trivial⟩ ?_
     exact Zbm (list, (t12 + 1)) rfl (show (0 ≤ (t12 + 1) ∧ (t12 + 1) ≤ (lx.Entries.length : Int)) ∧ (list = rdI l lx (t12 + 1).toNat) ∧ True from ⟨(by omega), (by (rw [hii]; show _ = (if _ then _ else _); rw [← hli]; first | (rw [if_pos htc]; done) | (rw [if_neg htc]; done))), trivial⟩) (by first | (show (((lx.Entries.length : Int) - (t12 + 1)).toNat : Nat) < ((lx.Entries.length : Int) - t12).toNat; omega) | (dsimp only; omega))
    have hie : t12.toNat = lx.Entries.length := by omega
    have hrl := Zlq l lx t12.toNat
    rw [← hli] at hrl
    refine x_r [(0, .dec false)] [2, 5, 10, 11, 12, 13] [2, 705] [.ref 2 0, .arr 705, Zaa false lx.Entries, I (lx.Entries.length : Int), I t12, Bv false] [some (Zac l), some (Zdg list)] [¬ (t12 < (lx.Entries.length : Int))] ⟨h1, trivial⟩ ?_
    refine Zad ?_
    refine Zar ?_
    refine Zav rfl ?_
    refine Zdo ?_
    refine Zaw ?_
    refine Zbd ?_
    refine Zax ?_
    refine Zad ?_
    refine Zar ?_
    refine Zek [(8631, 705)] (T := [(2, .ref 2 0), (5, .arr 8631), (10, Zaa false lx.Entries), (11, I (lx.Entries.length : Int)), (12, I t12), (13, Bv false)]) (O := [(2, Zac l), (8631, Zdg list)]) rfl (⟨.inl rfl, .inl rfl, .inl rfl, .inl rfl, .inl rfl, .inl rfl, trivial⟩) (⟨.inl rfl, .inl rfl, trivial⟩) ?_
    obtain ⟨data'_1, hx1_0, hx1_1, hc1⟩ := Zyf list (by omega)
    have hpm := hx1_0
    have hsr := hx1_1
    refine x_r [(1, .lend [(8631, Zdg list, Zdg data'_1)] [] [(true, .any), (true, .any)] true (.tup []))] [5] [8631] [.arr 8631] [some (Zdg data'_1)] [Zbi Tryz.prog 103 [.arr 8631, .fn 104 []] (Zaf [(8631, Zdg list)]) true (.tup []) (Zaf [(8631, Zdg data'_1)]) ∧ (((Zdg list : Ob) = Zdg list ∨ Zih Zgf true (Zdg list) (Zdg list)) ∧ Zbu false (Zdg list)) ∧ True] ⟨⟨hc1, ⟨.inl rfl, fun _ _ => Ztg false _⟩, trivial⟩, trivial⟩ ?_
    refine Zad ?_
    refine xR [] [4] [8631] [.arr 8631] [some (Zdg data'_1)] [] trivial ?_
    refine Zdh ?_
    refine Zce data'_1 (show (data'_1.Perm (rdA l lx)) ∧ (data'_1.Pairwise fun x_ y_ => ¬ Znt y_ x_ < 0) ∧ (True) from ⟨(by (rw [hli, hie] at hpm; exact hpm)), (by exact hsr), trivial⟩) (trivial) (.arr 8631) (by kernel_rfl) (.inr ⟨(fun _ => rfl), rfl, rfl, fun i _ => .inl rfl⟩) (fun _ => rfl) (fun _ => (Zwq true _))
  obtain ⟨v, ⟨hh0, hh1, _⟩, hc⟩ := hh
  exact ⟨v, hh0, hh1, hc⟩
def Zra (w t : ByteArray) : Bool := decide (t.size ≤ w.size ∧ w.extract 0 t.size = t)
def Zfr (lx : Lexicon) (t : ByteArray) : Bool := lx.Entries.any fun e => Zra e.Word t
theorem Zic {lx : Lexicon} {t : ByteArray} : Zfr lx t = true ↔ ∃ e ∈ lx.Entries, Zra e.Word t = true := by unfold Zfr; rw [List.any_eq_true]
theorem Zjq {w t : ByteArray} : Zra w t = true ↔ ∃ u : ByteArray, w = t ++ u := by
  unfold Zra
  rw [decide_eq_true_eq]
  have ex : ∀ a b : Nat, (w.extract a b).toList = (w.data.toList.drop a).take (b - a) := fun a b => by rw [Lib.toList_data]; simp [ByteArray.data_extract, Array.toList_extract, List.extract_eq_take_drop]
  constructor
  · rintro ⟨h1, h2⟩
    refine ⟨w.extract t.size w.size, Zjm ?_⟩
    rw [Zei]
    conv => rhs; rw [← h2]
    rw [ex, ex, Lib.toList_data, h2, Nat.sub_zero, List.drop_zero]
    have : (w.data.toList.drop t.size).take (w.size - t.size) = w.data.toList.drop t.size := List.take_of_length_le (by rw [List.length_drop]; exact Nat.le_refl _)
    rw [this, List.take_append_drop]
  · rintro ⟨u, rfl⟩
    refine ⟨by rw [ByteArray.size_append]; omega, Zjm ?_⟩
    rw [Lib.toList_data, ByteArray.data_extract, Array.toList_extract, List.extract_eq_take_drop, ByteArray.data_append, Array.toList_append, List.drop_zero, Nat.sub_zero, List.take_append_of_le_length (by exact Nat.le_refl _), List.take_of_length_le (by exact Nat.le_refl _), Lib.toList_data]
theorem Ybs : ∀ t u v : List UInt8, Op.bytesLess u t = false → Op.bytesLess v u = false → (∃ r, v = t ++ r) → ∃ r, u = t ++ r
  | [], u, _, _, _, _ => ⟨u, rfl⟩
  | a :: t, [], v, h, _, _ => by simp [Op.bytesLess] at h
  | a :: t, b :: u, v, h1, h2, h3 => by
    obtain ⟨r, rfl⟩ := h3
    rw [List.cons_append] at h2
    simp only [Op.bytesLess, Bool.or_eq_false_iff, Bool.and_eq_false_iff, decide_eq_false_iff_not, beq_eq_false_iff_ne] at h1 h2
    have e : b = a := by
      have a1 : ¬ b.toNat < a.toNat := fun q => h1.1 (UInt8.lt_iff_toNat_lt.2 q)
      have a2 : ¬ a.toNat < b.toNat := fun q => h2.1 (UInt8.lt_iff_toNat_lt.2 q)
      exact UInt8.toNat_inj.1 (by omega)
    subst e
    have b1 : Op.bytesLess u t = false := h1.2.resolve_left (by simp)
    have b2 : Op.bytesLess (t ++ r) u = false := h2.2.resolve_left (by simp)
    obtain ⟨r', q⟩ := Ybs t u (t ++ r) b1 b2 ⟨r, rfl⟩
    exact ⟨r', by rw [q]; rfl⟩
theorem beg_at {lx : Lexicon} (hx : Zci lx) {t : ByteArray} {pl : Int} (h0 : 0 ≤ pl) (hlo : ∀ k : Nat, (k : Int) < pl → Zdm (at_ lx.Entries k).Word t < 0) (hhi : ∀ k : Nat, pl ≤ (k : Int) → k < lx.Entries.length → ¬ Zdm (at_ lx.Entries k).Word t < 0) : Zfr lx t = true ↔ pl < (lx.Entries.length : Int) ∧ Zra (at_ lx.Entries pl.toNat).Word t = true := by
  constructor
  · intro h
    obtain ⟨e, he, hp⟩ := Zic.1 h
    obtain ⟨j, hj, q⟩ := List.getElem_of_mem he
    rw [← Zcz hj] at q
    subst q
    obtain ⟨u, hu⟩ := Zjq.1 hp
    have hnl : ¬ Zdm (at_ lx.Entries j).Word t < 0 := fun q => by
      rw [Zfe] at q
      unfold Zds at q
      rw [hu, Zei] at q
      have : ∀ a b : List UInt8, Op.bytesLess (a ++ b) a = false := fun a b => by
        induction a with
        | nil => cases b <;> simp [Op.bytesLess]
        | cons x a ih =>
          have h : ¬ x < x := fun q => by have := UInt8.lt_iff_toNat_lt.1 q; omega
          simp [Op.bytesLess, ih, h]
      rw [this] at q; cases q
    have hpj : pl ≤ (j : Int) := by
      refine Classical.byContradiction fun hno => hnl (hlo j (by omega))
    have hpl : pl.toNat < lx.Entries.length := by omega
    refine ⟨by omega, ?_⟩
    by_cases e : pl.toNat = j
    · rw [e]; exact hp
    · have hs := Zgq hx.2.2 (show pl.toNat < j by omega) hj
      have a1 := hhi pl.toNat (by omega) hpl
      have b1 : Op.bytesLess (at_ lx.Entries pl.toNat).Word.toList t.toList = false := by
        rw [Zfe] at a1
        have a2 : Zds (at_ lx.Entries pl.toNat).Word t = false := by simpa using a1
        exact a2
      have b2 : Op.bytesLess (at_ lx.Entries j).Word.toList (at_ lx.Entries pl.toNat).Word.toList = false := by
        have q := Zmq (Zfe.1 hs)
        exact q
      obtain ⟨r, hr⟩ := Ybs _ _ _ b1 b2 ⟨u.toList, by rw [hu, Zei]⟩
      refine Zjq.2 ⟨⟨r.toArray⟩, Zjm ?_⟩
      rw [Zei, hr, Lib.toList_data ⟨r.toArray⟩]
  · rintro ⟨h1, h2⟩
    exact Zic.2 ⟨_, Zcx (by omega), h2⟩
theorem beg_pre {lx : Lexicon} {t u : ByteArray} (h : Zfr lx (t ++ u) = true) : Zfr lx t = true := by
  obtain ⟨e, he, hp⟩ := Zic.1 h
  obtain ⟨v, hv⟩ := Zjq.1 hp
  exact Zic.2 ⟨e, he, Zjq.2 ⟨u ++ v, by rw [hv]; exact Zjm (by simp only [Zei, List.append_assoc])⟩⟩
theorem at_mp3 {α β : Type} [Inhabited α] [Inhabited β] {f : α → β} {xs : List α} {k : Nat} (h : k < xs.length) : at_ (xs.map f) k = f (at_ xs k) := by simp [at_, h]
theorem Zom {α : Type} {xs : List α} {k : Nat} {e : α} (h : k < xs.length) : e ∈ xs.set k e := List.mem_iff_getElem.2 ⟨k, by rw [List.length_set]; exact h, by simp⟩
theorem Zsy {x : Lexicon} {e : Entry} {k : Nat} (h : Zci x) (he : Zoz e) (hk : k < x.Entries.length) (hw : (at_ x.Entries k).Word = e.Word) : Zci ⟨x.Entries.set k e⟩ := by
  have hm : (x.Entries.set k e).map Entry.Word = x.Entries.map Entry.Word := by
    rw [List.map_set, ← hw, ← at_mp3 (f := Entry.Word) hk]
    exact Zwr _ _
  refine ⟨by show (x.Entries.set k e).length ≤ 60; rw [List.length_set]; exact h.1, fun y hy => ?_, ?_⟩
  · rcases List.mem_or_eq_of_mem_set hy with z | z
    · exact h.2.1 y z
    · rw [z]; exact he
  · have p : (x.Entries.map Entry.Word).Pairwise fun a b => Zdm a b < 0 := List.pairwise_map.2 h.2.2
    rw [← hm] at p
    exact List.pairwise_map.1 p
theorem Ybf {x : Lexicon} {e : Entry} {k : Nat} (h : Zci x) (he : Zoz e) (h60 : x.Entries.length < 60) (hk : k ≤ x.Entries.length) (hlo : ∀ j : Nat, j < k → Zdm (at_ x.Entries j).Word e.Word < 0) (hhi : ∀ j : Nat, k ≤ j → j < x.Entries.length → ¬ Zdm (at_ x.Entries j).Word e.Word < 0) (hne : ∀ j : Nat, j < x.Entries.length → (at_ x.Entries j).Word ≠ e.Word) : Zci ⟨x.Entries.take k ++ [e] ++ x.Entries.drop k⟩ := by
  have hne2 : ∀ y ∈ x.Entries, Zff y e ≠ 0 := fun y hy q => by
    obtain ⟨j, hj, z⟩ := List.getElem_of_mem hy
    rw [← z, ← Zcz hj] at q
    exact hne j hj (Zdc.1 q)
  have q1 := Zgx cmpN_w h.2.2 hk (by
    by_cases q : k = 0
    · exact .inl q
    · right; have := hlo (k - 1) (by omega); intro z; have z2 : 0 < Zdm (at_ x.Entries (k - 1)).Word e.Word := z; omega) (fun j h1 h2 => by
    have a := hhi j h1 h2
    have b : Zdm (at_ x.Entries j).Word e.Word ≠ 0 := fun q => hne j h2 (Zdc.1 q)
    show 0 < Zdm (at_ x.Entries j).Word e.Word
    omega) hne2
  refine ⟨?_, fun y hy => ?_, q1⟩
  · show (x.Entries.take k ++ [e] ++ x.Entries.drop k).length ≤ 60
    rw [Zfd hk]; omega
  · rcases Zep.1 hy with z | z
    · rw [z]; exact he
    · exact h.2.1 y z
theorem lex_del {x : Lexicon} {k : Nat} (h : Zci x) (hk : k < x.Entries.length) : Zci ⟨x.Entries.take k ++ x.Entries.drop (k + 1)⟩ ∧ ∀ e ∈ x.Entries.take k ++ x.Entries.drop (k + 1), e.Word ≠ (at_ x.Entries k).Word := by
  have hs : (x.Entries.take k ++ x.Entries.drop (k + 1)).Sublist x.Entries := by rw [← List.eraseIdx_eq_take_drop_succ]; exact List.eraseIdx_sublist _ _
  refine ⟨⟨Nat.le_trans hs.length_le h.1, fun y hy => h.2.1 y (hs.subset hy), h.2.2.sublist hs⟩, fun e he q => ?_⟩
  rcases List.mem_append.1 he with z | z
  · obtain ⟨i, hi, w⟩ := List.getElem_of_mem z
    rw [List.length_take] at hi
    rw [List.getElem_take] at w
    have := Zgq h.2.2 (show i < k by omega) hk
    rw [Zcz (by omega), w] at this
    replace this : Zdm e.Word (at_ x.Entries k).Word < 0 := this
    rw [Zdc.2 q] at this; omega
  · obtain ⟨i, hi, w⟩ := List.getElem_of_mem z
    rw [List.length_drop] at hi
    rw [List.getElem_drop] at w
    have := Zgq h.2.2 (show k < k + 1 + i by omega) (show k + 1 + i < x.Entries.length by omega)
    rw [Zcz (show k + 1 + i < x.Entries.length by omega), w] at this
    replace this : Zdm (at_ x.Entries k).Word e.Word < 0 := this
    rw [Zdc.2 q.symm] at this; omega
theorem take_min {α : Type} {xs : List α} {k : Int} (h : 0 ≤ k) : xs.take (min k (xs.length : Int)).toNat = xs.take k.toNat := by
  by_cases q : k ≤ (xs.length : Int)
  · rw [Int.min_eq_left q]
  · rw [Int.min_eq_right (by omega), List.take_of_length_le (by omega), List.take_of_length_le (by omega)]
theorem Zrf (l : Lattice) (lx : Lexicon) (k : Int) (hl : Zcg l) (hx : Zci lx) (hk : 1 ≤ k ∧ k ≤ 20) : ∃ (v : List Found) (c : Int), (∃ w_ : List Found, w_.Perm (rdA l lx) ∧ (w_.Pairwise fun x_ y_ => ¬ Znt y_ x_ < 0) ∧ v = w_.take k.toNat) ∧ (c = 0) ∧ Con Tryz.prog 17 [Zbh l, .agg [Zaa false lx.Entries], I k] true (.tup [Zbc true v, I c]) := by
  have hc := hx.1
  have hh : ∃ r : (List Found) × Int, ((∃ w_ : List Found, w_.Perm (rdA l lx) ∧ (w_.Pairwise fun x_ y_ => ¬ Znt y_ x_ < 0) ∧ r.1 = w_.take k.toNat) ∧ (r.2 = 0) ∧ (True)) ∧ Zbi Tryz.prog 17 [Zbh l, .agg [Zaa false lx.Entries], I k] (Zaf []) true (.tup [Zbc true r.1, I r.2]) (Zaf []) := by
    refine Zdl (Φ := fun r : (List Found) × Int => (∃ w_ : List Found, w_.Perm (rdA l lx) ∧ (w_.Pairwise fun x_ y_ => ¬ Znt y_ x_ < 0) ∧ r.1 = w_.take k.toNat) ∧ (r.2 = 0) ∧ (True)) [] (fun r => []) (fn := Tryz.f17) (nt := 29) Tryz.func17 rfl rfl (args := [Zbh l, .agg [Zaa false lx.Entries], I k]) rfl (Zbe (.inl ⟨rfl, by simp [Zan, Zaj, Zdv]⟩) (Zbe (.inl ⟨rfl, by simp [Zan, Zaj, Zcf]⟩) (Zbe (.inl ⟨rfl, trivial⟩) Zdj))) (res := fun r => .tup [Zbc true r.1, I r.2]) ?_
    refine xR [(0, .new 3), (1, .new 4)] [2, 3, 4] [3, 4] [I k, .ref 3 0, .ref 4 0] [some (Zac l), some (.box [Zaa false lx.Entries])] [] trivial ?_
    refine Zar ?_
    refine xR [(1, .call [(true, .any)] true (Bv true)), (5, .call [(true, .any)] true (Bv true))] [2, 3, 4, 16] [3, 4] [I k, .ref 3 0, .ref 4 0, Bv false] [some (Zac l), some (.box [Zaa false lx.Entries])] [Con Tryz.prog 39 [Zbh l] true (Bv true) ∧ True, Con Tryz.prog 51 [.agg [Zaa false lx.Entries]] true (Bv true) ∧ True] ⟨⟨(Zhv l hl), trivial⟩, ⟨(Zdi lx hx), trivial⟩, trivial⟩ ?_
    refine Zav rfl ?_
    refine Zbk ?_
    refine Zad ?_
    refine Zar ?_
    refine xR [(1, .call [(true, .any), (true, .any), (true, .any)] true (Bv true))] [2, 3, 4, 19] [3, 4] [I k, .ref 3 0, .ref 4 0, Bv false] [some (Zac l), some (.box [Zaa false lx.Entries])] [Con Tryz.prog 40 [I k, I 1, I 20] true (Bv true) ∧ True] ⟨⟨(Zbv (Zgn.2 hk) (Zjg k 1 20)), trivial⟩, trivial⟩ ?_
    refine Zav rfl ?_
    refine Zbk ?_
    refine Zad ?_
    refine Zar ?_
    obtain ⟨v_1, hx1_0, hx1_1, hc1⟩ := Zuw l lx hl hx
    have hpm := hx1_0
    have hsr := hx1_1
    have hpl := hpm.length_eq
    have hrl := Zlq l lx lx.Entries.length
    have hrl2 : (rdA l lx).length ≤ lx.Entries.length := hrl
    refine x_r [(2, .call [(true, .any), (true, .any)] true (Zbc true v_1))] [2, 8] [] [I k, Zbc true v_1] [] [Con Tryz.prog 52 [Zbh l, .agg [Zaa false lx.Entries]] true (Zbc true v_1) ∧ True] ⟨⟨hc1, trivial⟩, trivial⟩ ?_
    refine Zad ?_
    refine xR [] [6, 7] [] [.sl true 3 ((min k (v_1.length : Int)).toNat - 0) (Zks 0 (Zos v_1)), I 0] [] [(0 : Int) ≤ 0 ∧ (0 : Int) ≤ (min k (v_1.length : Int)) ∧ (min k (v_1.length : Int)) ≤ (v_1.length : Int)] ⟨⟨(by omega), (by omega), (by omega)⟩, trivial⟩ ?_
    refine Zdh ?_
    refine Zce ((v_1.take ((min k (v_1.length : Int)).toNat)), 0) (show (∃ w_ : List Found, w_.Perm (rdA l lx) ∧ (w_.Pairwise fun x_ y_ => ¬ Znt y_ x_ < 0) ∧ (v_1.take ((min k (v_1.length : Int)).toNat)) = w_.take k.toNat) ∧ (0 = 0) ∧ (True) from ⟨(by exact ⟨_, hpm, hsr, take_min (by omega)⟩), (by rfl), trivial⟩) (trivial) (.tup [.sl true 3 ((min k (v_1.length : Int)).toNat - 0) (Zks 0 (Zos v_1)), I 0]) (by kernel_rfl) (.inr ⟨⟨(fun _ => rfl), rfl, (by first | rfl | (simp; done) | (simp; omega) | omega), fun i_ hi_ => .inl (Zix (enc := Ztf) hi_)⟩, ⟨rfl, rfl⟩⟩) (fun _ => rfl) (fun _ => (by simp [Zan, Zaj, Zwq]))
  obtain ⟨⟨v, c⟩, ⟨hh0, hh1, _⟩, hc⟩ := hh
  exact ⟨v, c, hh0, hh1, hc⟩
theorem Zit (e : Entry) (w : ByteArray) : Con Tryz.prog 114 [Zgo e, Sv w] true (I (Zdm e.Word w)) := by
  refine Zeb (fn := Tryz.f114) (nt := 9) Tryz.func114 rfl rfl rfl rfl (by simp [Zaj, Zan]) fun B hB => ?_
  refine aR [(0, .new 2)] [1, 2] [2] [Sv w, .ref 2 0] [some (Zcy e)] [] hB trivial ?_
  refine aR [(3, .call [(true, .any), (true, .any)] true (I (Zdm e.Word w)))] [4] [] [I (Zdm e.Word w)] [] [Con Tryz.prog 115 [Sv e.Word, Sv w] true (I (Zdm e.Word w)) ∧ True] hB ⟨⟨(Zmw e.Word w), trivial⟩, trivial⟩ ?_
  refine Zba ?_
  refine Zbb hB (I (Zdm e.Word w)) (by kernel_rfl) (.inl rfl) rfl (fun _ => trivial)
theorem bsEnt_ok (xs : List Entry) (target : ByteArray) (hp : xs.Pairwise fun x_ y_ => Zff x_ y_ < 0) (hll : xs.length ≤ 1000) : ∃ (pl : Int) (found : Bool), (0 ≤ pl ∧ pl ≤ (xs.length : Int)) ∧ (found = true → pl < (xs.length : Int) ∧ Zff (at_ xs pl.toNat) (Entry.mk target 0) = 0) ∧ (found = false → ∀ j : Nat, j < xs.length → Zff (at_ xs j) (Entry.mk target 0) ≠ 0) ∧ (∀ k : Nat, (k : Int) < pl → Zff (at_ xs k) (Entry.mk target 0) < 0) ∧ (∀ k : Nat, pl ≤ (k : Int) → k < xs.length → ¬ Zff (at_ xs k) (Entry.mk target 0) < 0) ∧ Con Tryz.prog 113 [Zaa false xs, Sv target, .fn 114 []] true (.tup [I pl, Bv found]) := by
  have hh : ∃ r : Int × Bool, ((0 ≤ r.1 ∧ r.1 ≤ (xs.length : Int)) ∧ (r.2 = true → r.1 < (xs.length : Int) ∧ Zff (at_ xs r.1.toNat) (Entry.mk target 0) = 0) ∧ (r.2 = false → ∀ j : Nat, j < xs.length → Zff (at_ xs j) (Entry.mk target 0) ≠ 0) ∧ (∀ k : Nat, (k : Int) < r.1 → Zff (at_ xs k) (Entry.mk target 0) < 0) ∧ (∀ k : Nat, r.1 ≤ (k : Int) → k < xs.length → ¬ Zff (at_ xs k) (Entry.mk target 0) < 0) ∧ (True)) ∧ Zbi Tryz.prog 113 [Zaa false xs, Sv target, .fn 114 []] (Zaf []) true (.tup [I r.1, Bv r.2]) (Zaf []) := by
    refine Zdl (Φ := fun r : Int × Bool => (0 ≤ r.1 ∧ r.1 ≤ (xs.length : Int)) ∧ (r.2 = true → r.1 < (xs.length : Int) ∧ Zff (at_ xs r.1.toNat) (Entry.mk target 0) = 0) ∧ (r.2 = false → ∀ j : Nat, j < xs.length → Zff (at_ xs j) (Entry.mk target 0) ≠ 0) ∧ (∀ k : Nat, (k : Int) < r.1 → Zff (at_ xs k) (Entry.mk target 0) < 0) ∧ (∀ k : Nat, r.1 ≤ (k : Int) → k < xs.length → ¬ Zff (at_ xs k) (Entry.mk target 0) < 0) ∧ (True)) [] (fun r => []) (fn := Tryz.f113) (nt := 49) Tryz.func113 rfl rfl (args := [Zaa false xs, Sv target, .fn 114 []]) rfl (Zbe (.inl ⟨rfl, Zcf false _⟩) (Zbe (.inl ⟨rfl, trivial⟩) (Zbe (.inl ⟨rfl, trivial⟩) Zdj))) (res := fun r => .tup [I r.1, Bv r.2]) ?_
    refine xR [] [0, 1, 2] [] [Zaa false xs, Sv target, .fn 114 []] [] [] trivial ?_
    refine xR [] [0, 1, 2, 8] [] [Zaa false xs, Sv target, .fn 114 [], I (xs.length : Int)] [] [] trivial ?_
    refine xR [] [0, 1, 2, 8, 9, 10] [] [Zaa false xs, Sv target, .fn 114 [], I (xs.length : Int), I 0, I (xs.length : Int)] [] [] trivial ?_
    refine Zar ?_
    refine Zbp ?_
    refine Zel (X := Int × Int) (fun x => mkS [(0, Zaa false xs), (1, Sv target), (2, .fn 114 []), (8, I (xs.length : Int)), (9, I x.1), (10, I x.2)] []) (fun x => (0 ≤ x.1 ∧ x.1 ≤ x.2 ∧ x.2 ≤ (xs.length : Int)) ∧ (∀ k : Nat, (k : Int) < x.1 → Zff (at_ xs k) (Entry.mk target 0) < 0) ∧ (∀ k : Nat, x.2 ≤ (k : Int) → k < xs.length → ¬ Zff (at_ xs k) (Entry.mk target 0) < 0) ∧ True) (fun x => (x.2 - x.1).toNat) (0, (xs.length : Int)) rfl (show (0 ≤ (0 : Int) ∧ (0 : Int) ≤ (xs.length : Int) ∧ (xs.length : Int) ≤ (xs.length : Int)) ∧ (∀ k : Nat, (k : Int) < (0 : Int) → Zff (at_ xs k) (Entry.mk target 0) < 0) ∧ (∀ k : Nat, (xs.length : Int) ≤ (k : Int) → k < xs.length → ¬ Zff (at_ xs k) (Entry.mk target 0) < 0) ∧ True from ⟨(by omega), (by intro k hk; omega), (by intro k h1 h2; omega), trivial⟩) (fun x hI => ?_)
    obtain ⟨i, j⟩ := x
    obtain ⟨hi0, hlo, hhi, _⟩ : (0 ≤ i ∧ i ≤ j ∧ j ≤ (xs.length : Int)) ∧ (∀ k : Nat, (k : Int) < i → Zff (at_ xs k) (Entry.mk target 0) < 0) ∧ (∀ k : Nat, j ≤ (k : Int) → k < xs.length → ¬ Zff (at_ xs k) (Entry.mk target 0) < 0) ∧ True := hI
    show XW _ _ _ _ (mkS [(0, Zaa false xs), (1, Sv target), (2, .fn 114 []), (8, I (xs.length : Int)), (9, I i), (10, I j)] []) _ _
    refine Zar ?_
    refine Zar ?_
    by_cases h1 : i < j
    ·have hij : i < j := h1
     refine x_r [(2, .dec true)] [0, 1, 2, 8, 9, 10, 17] [] [Zaa false xs, Sv target, .fn 114 [], I (xs.length : Int), I i, I j, Bv true] [] [i < j] ⟨h1, trivial⟩ ?_
     refine Zad ?_
     refine Zcb rfl ?_
     refine Zbk ?_
     refine Zad ?_
     refine Zbp ?_
     refine xR [] [0, 1, 2, 8, 9, 10, 11] [] [Zaa false xs, Sv target, .fn 114 [], I (xs.length : Int), I i, I j, I ((i + j) / 2)] [] [inR .i64 (i + j), inR .u64 (i + j), (0 : Int) ≤ 1 ∧ (1 : Int) ≤ ((IntKind.bits .u64 : Nat) : Int), inR .i64 ((i + j) / 2)] ⟨(Zah (by omega) (by omega)), (Zpl (by omega) (by omega)), ⟨(by decide), (by decide)⟩, (Zah (by omega) (by omega)), trivial⟩ ?_
     refine Zar ?_
     by_cases h2 : (Zdm (at_ xs (((i + j) / 2).toNat)).Word target) < 0
     ·refine x_r [(6, .call [(true, .any), (true, .any)] true (I (Zdm (at_ xs (((i + j) / 2).toNat)).Word target))), (7, .dec true)] [0, 1, 2, 8, 9, 10, 11, 31] [] [Zaa false xs, Sv target, .fn 114 [], I (xs.length : Int), I i, I j, I ((i + j) / 2), Bv true] [] [(0 : Int) ≤ ((i + j) / 2) ∧ ((i + j) / 2) < (xs.length : Int), Con Tryz.prog 114 [Zgo (at_ xs (((i + j) / 2).toNat)), Sv target] true (I (Zdm (at_ xs (((i + j) / 2).toNat)).Word target)) ∧ True, (Zdm (at_ xs (((i + j) / 2).toNat)).Word target) < 0] ⟨⟨(by omega), (by omega)⟩, ⟨(Zit (at_ xs (((i + j) / 2).toNat)) target), trivial⟩, h2, trivial⟩ ?_
      refine Zad ?_
      refine Zcb rfl ?_
      refine x_r [] [0, 1, 2, 8, 9, 10] [] [Zaa false xs, Sv target, .fn 114 [], I (xs.length : Int), I (((i + j) / 2) + 1), I j] [] [inR .i64 (((i + j) / 2) + 1)] ⟨(Zah (by omega) (by omega)), trivial⟩ ?_
      refine Zbw 1 ?_
      exact Zbm ((((i + j) / 2) + 1), j) rfl (show (0 ≤ (((i + j) / 2) + 1) ∧ (((i + j) / 2) + 1) ≤ j ∧ j ≤ (xs.length : Int)) ∧ (∀ k : Nat, (k : Int) < (((i + j) / 2) + 1) → Zff (at_ xs k) (Entry.mk target 0) < 0) ∧ (∀ k : Nat, j ≤ (k : Int) → k < xs.length → ¬ Zff (at_ xs k) (Entry.mk target 0) < 0) ∧ True from ⟨(by omega), (by first | exact hlo | (intro k hk; by_cases ek : (k : Int) = (i + j) / 2; (rw [show k = ((i + j) / 2).toNat from by omega]; assumption); exact bs_lo cmpN_w hp (k := k) (h := ((i + j) / 2).toNat) (by omega) (by omega) (by assumption))), (by first | exact hhi | (intro k hk1 hk2; by_cases ek : (k : Int) = (i + j) / 2; (rw [show k = ((i + j) / 2).toNat from by omega]; assumption); exact bs_hi cmpN_w hp (k := ((i + j) / 2).toNat) (h := k) (by omega) hk2 (by assumption))), trivial⟩) (by first | (show ((j - (((i + j) / 2) + 1)).toNat : Nat) < (j - i).toNat; omega) | (dsimp only; omega))
     refine x_r [(6, .call [(true, .any), (true, .any)] true (I (Zdm (at_ xs (((i + j) / 2).toNat)).Word target))), (7, .dec false)] [0, 1, 2, 8, 9, 10, 11, 31] [] [Zaa false xs, Sv target, .fn 114 [], I (xs.length : Int), I i, I j, I ((i + j) / 2), Bv false] [] [(0 : Int) ≤ ((i + j) / 2) ∧ ((i + j) / 2) < (xs.length : Int), Con Tryz.prog 114 [Zgo (at_ xs (((i + j) / 2).toNat)), Sv target] true (I (Zdm (at_ xs (((i + j) / 2).toNat)).Word target)) ∧ True, ¬ ((Zdm (at_ xs (((i + j) / 2).toNat)).Word target) < 0)] ⟨⟨(by omega), (by omega)⟩, ⟨(Zit (at_ xs (((i + j) / 2).toNat)) target), trivial⟩, h2, trivial⟩ ?_
     refine Zad ?_
     refine Zav rfl ?_
     refine x_r [] [0, 1, 2, 8, 9, 10] [] [Zaa false xs, Sv target, .fn 114 [], I (xs.length : Int), I i, I ((i + j) / 2)] [] [] trivial ?_
     refine Zbw 1 ?_
     exact Zbm (i, ((i + j) / 2)) rfl (show (0 ≤ i ∧ i ≤ ((i + j) / 2) ∧ ((i + j) / 2) ≤ (xs.length : Int)) ∧ (∀ k : Nat, (k : Int) < i → Zff (at_ xs k) (Entry.mk target 0) < 0) ∧ (∀ k : Nat, ((i + j) / 2) ≤ (k : Int) → k < xs.length → ¬ Zff (at_ xs k) (Entry.mk target 0) < 0) ∧ True from ⟨(by omega), (by first | exact hlo | (intro k hk; by_cases ek : (k : Int) = (i + j) / 2; (rw [show k = ((i + j) / 2).toNat from by omega]; assumption); exact bs_lo cmpN_w hp (k := k) (h := ((i + j) / 2).toNat) (by omega) (by omega) (by assumption))), (by first | exact hhi | (intro k hk1 hk2; by_cases ek : (k : Int) = (i + j) / 2; (rw [show k = ((i + j) / 2).toNat from by omega]; assumption); exact bs_hi cmpN_w hp (k := ((i + j) / 2).toNat) (h := k) (by omega) hk2 (by assumption))), trivial⟩) (by first | (show ((((i + j) / 2) - i).toNat : Nat) < (j - i).toNat; omega) | (dsimp only; omega))
    refine x_r [(2, .dec false)] [0, 1, 2, 8, 9, 10, 17] [] [Zaa false xs, Sv target, .fn 114 [], I (xs.length : Int), I i, I j, Bv false] [] [¬ (i < j)] ⟨h1, trivial⟩ ?_
    refine Zad ?_
    refine Zav rfl ?_
    refine Zdo ?_
    refine Zaw ?_
    refine Zbd ?_
    refine Zax ?_
    refine Zad ?_
    refine Zar ?_
    by_cases h3 : i < (xs.length : Int)
    ·refine x_r [(3, .dec true), (11, .call [(true, .any), (true, .any)] true (I (Zdm (at_ xs i.toNat).Word target)))] [6, 7] [] [I i, Bv (decide ((Zdm (at_ xs i.toNat).Word target) = 0))] [] [i < (xs.length : Int), (0 : Int) ≤ i ∧ i < (xs.length : Int), Con Tryz.prog 114 [Zgo (at_ xs i.toNat), Sv target] true (I (Zdm (at_ xs i.toNat).Word target)) ∧ True] ⟨h3, ⟨(by omega), (by omega)⟩, ⟨(Zit (at_ xs i.toNat) target), trivial⟩, trivial⟩ ?_
     refine Zad ?_
     refine Zdh ?_
     refine Zce (i, decide ((Zdm (at_ xs i.toNat).Word target) = 0)) (show (0 ≤ i ∧ i ≤ (xs.length : Int)) ∧ ((decide ((Zdm (at_ xs i.toNat).Word target) = 0)) = true → i < (xs.length : Int) ∧ Zff (at_ xs i.toNat) (Entry.mk target 0) = 0) ∧ ((decide ((Zdm (at_ xs i.toNat).Word target) = 0)) = false → ∀ j : Nat, j < xs.length → Zff (at_ xs j) (Entry.mk target 0) ≠ 0) ∧ (∀ k : Nat, (k : Int) < i → Zff (at_ xs k) (Entry.mk target 0) < 0) ∧ (∀ k : Nat, i ≤ (k : Int) → k < xs.length → ¬ Zff (at_ xs k) (Entry.mk target 0) < 0) ∧ (True) from ⟨(by first | omega | exact fun q => ⟨by omega, of_decide_eq_true q⟩ | exact fun q => absurd q (by decide) | exact fun q => Zkw cmpN_w hp (a := i.toNat) (fun k hk => hlo k (by omega)) (fun k h1 h2 => hhi k (by omega) h2) (fun z => absurd z.2 (of_decide_eq_false q)) | exact fun _ => Zkw cmpN_w hp (a := i.toNat) (fun k hk => hlo k (by omega)) (fun k h1 h2 => hhi k (by omega) h2) (fun z => absurd z.1 (by omega))), (by first | omega | exact fun q => ⟨by omega, of_decide_eq_true q⟩ | exact fun q => absurd q (by decide) | exact fun q => Zkw cmpN_w hp (a := i.toNat) (fun k hk => hlo k (by omega)) (fun k h1 h2 => hhi k (by omega) h2) (fun z => absurd z.2 (of_decide_eq_false q)) | exact fun _ => Zkw cmpN_w hp (a := i.toNat) (fun k hk => hlo k (by omega)) (fun k h1 h2 => hhi k (by omega) h2) (fun z => absurd z.1 (by omega))), (by first | omega | exact fun q => ⟨by omega, of_decide_eq_true q⟩ | exact fun q => absurd q (by decide) | exact fun q => Zkw cmpN_w hp (a := i.toNat) (fun k hk => hlo k (by omega)) (fun k h1 h2 => hhi k (by omega) h2) (fun z => absurd z.2 (of_decide_eq_false q)) | exact fun _ => Zkw cmpN_w hp (a := i.toNat) (fun k hk => hlo k (by omega)) (fun k h1 h2 => hhi k (by omega) h2) (fun z => absurd z.1 (by omega))), (by first | exact fun k hk => hlo k (by omega) | exact fun k h1 h2 => hhi k (by omega) h2), (by first | exact fun k hk => hlo k (by omega) | exact fun k h1 h2 => hhi k (by omega) h2), trivial⟩) (trivial) (.tup [I i, Bv (decide ((Zdm (at_ xs i.toNat).Word target) = 0))]) (by kernel_rfl) (.inl rfl) (fun _ => rfl) (fun _ => (by simp [Zan, Zaj]))
    refine x_r [(3, .dec false)] [6, 7] [] [I i, Bv false] [] [¬ (i < (xs.length : Int))] ⟨h3, trivial⟩ ?_
    refine Zad ?_
    refine Zdh ?_
    refine Zce (i, false) (show (0 ≤ i ∧ i ≤ (xs.length : Int)) ∧ (false = true → i < (xs.length : Int) ∧ Zff (at_ xs i.toNat) (Entry.mk target 0) = 0) ∧ (false = false → ∀ j : Nat, j < xs.length → Zff (at_ xs j) (Entry.mk target 0) ≠ 0) ∧ (∀ k : Nat, (k : Int) < i → Zff (at_ xs k) (Entry.mk target 0) < 0) ∧ (∀ k : Nat, i ≤ (k : Int) → k < xs.length → ¬ Zff (at_ xs k) (Entry.mk target 0) < 0) ∧ (True) from ⟨(by first | omega | exact fun q => ⟨by omega, of_decide_eq_true q⟩ | exact fun q => absurd q (by decide) | exact fun q => Zkw cmpN_w hp (a := i.toNat) (fun k hk => hlo k (by omega)) (fun k h1 h2 => hhi k (by omega) h2) (fun z => absurd z.2 (of_decide_eq_false q)) | exact fun _ => Zkw cmpN_w hp (a := i.toNat) (fun k hk => hlo k (by omega)) (fun k h1 h2 => hhi k (by omega) h2) (fun z => absurd z.1 (by omega))), (by first | omega | exact fun q => ⟨by omega, of_decide_eq_true q⟩ | exact fun q => absurd q (by decide) | exact fun q => Zkw cmpN_w hp (a := i.toNat) (fun k hk => hlo k (by omega)) (fun k h1 h2 => hhi k (by omega) h2) (fun z => absurd z.2 (of_decide_eq_false q)) | exact fun _ => Zkw cmpN_w hp (a := i.toNat) (fun k hk => hlo k (by omega)) (fun k h1 h2 => hhi k (by omega) h2) (fun z => absurd z.1 (by omega))), (by first | omega | exact fun q => ⟨by omega, of_decide_eq_true q⟩ | exact fun q => absurd q (by decide) | exact fun q => Zkw cmpN_w hp (a := i.toNat) (fun k hk => hlo k (by omega)) (fun k h1 h2 => hhi k (by omega) h2) (fun z => absurd z.2 (of_decide_eq_false q)) | exact fun _ => Zkw cmpN_w hp (a := i.toNat) (fun k hk => hlo k (by omega)) (fun k h1 h2 => hhi k (by omega) h2) (fun z => absurd z.1 (by omega))), (by first | exact fun k hk => hlo k (by omega) | exact fun k h1 h2 => hhi k (by omega) h2), (by first | exact fun k hk => hlo k (by omega) | exact fun k h1 h2 => hhi k (by omega) h2), trivial⟩) (trivial) (.tup [I i, Bv false]) (by kernel_rfl) (.inl rfl) (fun _ => rfl) (fun _ => (by simp [Zan, Zaj]))
  obtain ⟨⟨pl, found⟩, ⟨hh0, hh1, hh2, hh3, hh4, _⟩, hc⟩ := hh
  exact ⟨pl, found, hh0, hh1, hh2, hh3, hh4, hc⟩
theorem Zia (lx : Lexicon) (w : ByteArray) (hlx : Zci lx) : ∃ (pl : Int) (found : Bool), (0 ≤ pl ∧ pl ≤ (lx.Entries.length : Int)) ∧ (found = true → pl < (lx.Entries.length : Int) ∧ (at_ lx.Entries pl.toNat).Word = w) ∧ (found = false → ∀ j : Nat, j < lx.Entries.length → (at_ lx.Entries j).Word ≠ w) ∧ (∀ k : Nat, (k : Int) < pl → Zdm (at_ lx.Entries k).Word w < 0) ∧ (∀ k : Nat, pl ≤ (k : Int) → k < lx.Entries.length → ¬ Zdm (at_ lx.Entries k).Word w < 0) ∧ Con Tryz.prog 63 [.agg [Zaa false lx.Entries], Sv w] true (.tup [I pl, Bv found]) := by
  have hc := hlx.1
  have hh : ∃ r : Int × Bool, ((0 ≤ r.1 ∧ r.1 ≤ (lx.Entries.length : Int)) ∧ (r.2 = true → r.1 < (lx.Entries.length : Int) ∧ (at_ lx.Entries r.1.toNat).Word = w) ∧ (r.2 = false → ∀ j : Nat, j < lx.Entries.length → (at_ lx.Entries j).Word ≠ w) ∧ (∀ k : Nat, (k : Int) < r.1 → Zdm (at_ lx.Entries k).Word w < 0) ∧ (∀ k : Nat, r.1 ≤ (k : Int) → k < lx.Entries.length → ¬ Zdm (at_ lx.Entries k).Word w < 0) ∧ (True)) ∧ Zbi Tryz.prog 63 [.agg [Zaa false lx.Entries], Sv w] (Zaf []) true (.tup [I r.1, Bv r.2]) (Zaf []) := by
    refine Zdl (Φ := fun r : Int × Bool => (0 ≤ r.1 ∧ r.1 ≤ (lx.Entries.length : Int)) ∧ (r.2 = true → r.1 < (lx.Entries.length : Int) ∧ (at_ lx.Entries r.1.toNat).Word = w) ∧ (r.2 = false → ∀ j : Nat, j < lx.Entries.length → (at_ lx.Entries j).Word ≠ w) ∧ (∀ k : Nat, (k : Int) < r.1 → Zdm (at_ lx.Entries k).Word w < 0) ∧ (∀ k : Nat, r.1 ≤ (k : Int) → k < lx.Entries.length → ¬ Zdm (at_ lx.Entries k).Word w < 0) ∧ (True)) [] (fun r => []) (fn := Tryz.f63) (nt := 12) Tryz.func63 rfl rfl (args := [.agg [Zaa false lx.Entries], Sv w]) rfl (Zbe (.inl ⟨rfl, by simp [Zan, Zaj, Zcf]⟩) (Zbe (.inl ⟨rfl, trivial⟩) Zdj)) (res := fun r => .tup [I r.1, Bv r.2]) ?_
    refine xR [(0, .new 2)] [1, 2] [2] [Sv w, .ref 2 0] [some (.box [Zaa false lx.Entries])] [] trivial ?_
    refine Zar ?_
    obtain ⟨pl_1, found_1, hx1_0, hx1_1, hx1_2, hx1_3, hx1_4, hc1⟩ := bsEnt_ok lx.Entries w hlx.2.2 (by omega)
    have hb1 := hx1_1
    have hb2 := hx1_2
    have hb3 := hx1_3
    have hb4 := hx1_4
    refine x_r [(3, .call [(true, .any), (true, .any), (true, .any)] true (.tup [I pl_1, Bv found_1]))] [4, 5] [] [I pl_1, Bv found_1] [] [Con Tryz.prog 113 [Zaa false lx.Entries, Sv w, .fn 114 []] true (.tup [I pl_1, Bv found_1]) ∧ True] ⟨⟨hc1, trivial⟩, trivial⟩ ?_
    refine Zad ?_
    refine Zdh ?_
    refine Zce (pl_1, found_1) (show (0 ≤ pl_1 ∧ pl_1 ≤ (lx.Entries.length : Int)) ∧ (found_1 = true → pl_1 < (lx.Entries.length : Int) ∧ (at_ lx.Entries pl_1.toNat).Word = w) ∧ (found_1 = false → ∀ j : Nat, j < lx.Entries.length → (at_ lx.Entries j).Word ≠ w) ∧ (∀ k : Nat, (k : Int) < pl_1 → Zdm (at_ lx.Entries k).Word w < 0) ∧ (∀ k : Nat, pl_1 ≤ (k : Int) → k < lx.Entries.length → ¬ Zdm (at_ lx.Entries k).Word w < 0) ∧ (True) from ⟨(by first | omega | assumption), (by exact fun q => ⟨(hb1 q).1, Zdc.1 (hb1 q).2⟩), (by exact fun q j hj z => hb2 q j hj (Zdc.2 z)), (by exact hb3), (by exact hb4), trivial⟩) (trivial) (.tup [I pl_1, Bv found_1]) (by kernel_rfl) (.inl rfl) (fun _ => rfl) (fun _ => (by simp [Zan, Zaj]))
  obtain ⟨⟨pl, found⟩, ⟨hh0, hh1, hh2, hh3, hh4, _⟩, hc⟩ := hh
  exact ⟨pl, found, hh0, hh1, hh2, hh3, hh4, hc⟩
theorem Zux (s : ByteArray) (pre : ByteArray) (hz : s.size ≤ 1000000 ∧ pre.size ≤ 1000000) : Con Tryz.prog 141 [Sv s, Sv pre] true (Bv (Zra s pre)) := by
  refine Zeb (fn := Tryz.f141) (nt := 18) Tryz.func141 rfl rfl rfl rfl (by simp [Zaj, Zan]) fun B hB => ?_
  refine aR [] [0, 1] [] [Sv s, Sv pre] [] [] hB trivial ?_
  refine Zam ?_
  by_cases h1 : (pre.size : Int) ≤ (s.size : Int)
  ·refine Zbs [(4, .dec true)] [4] [] [Bv (decide ((s.extract 0 (pre.size : Int).toNat) = pre))] [] [(pre.size : Int) ≤ (s.size : Int), (0 : Int) ≤ 0 ∧ (0 : Int) ≤ (pre.size : Int) ∧ (pre.size : Int) ≤ (s.size : Int)] hB ⟨h1, ⟨(by omega), (by omega), (by omega)⟩, trivial⟩ ?_
   refine Zae ?_
   refine Zba ?_
   refine Zbb hB (Bv (decide ((s.extract 0 (pre.size : Int).toNat) = pre))) (by kernel_rfl) (.inl (by refine congrArg Bv ?_; unfold Zra; first | exact decide_eq_decide.2 ⟨fun q => ⟨by omega, q⟩, fun q => q.2⟩ | (symm; exact decide_eq_false (fun q => by have := q.1; omega)) | (symm; exact decide_eq_true (by simp_all; omega)) | (symm; exact decide_eq_false (by simp_all)) | (symm; exact decide_eq_false (by omega)) | (simp [*]; done) | (simp_all; done))) rfl (fun _ => trivial)
  refine Zbs [(4, .dec false)] [4] [] [Bv false] [] [¬ ((pre.size : Int) ≤ (s.size : Int))] hB ⟨h1, trivial⟩ ?_
  refine Zae ?_
  refine Zba ?_
  refine Zbb hB (Bv false) (by kernel_rfl) (.inl (by refine congrArg Bv ?_; unfold Zra; first | exact decide_eq_decide.2 ⟨fun q => ⟨by omega, q⟩, fun q => q.2⟩ | (symm; exact decide_eq_false (fun q => by have := q.1; omega)) | (symm; exact decide_eq_true (by simp_all; omega)) | (symm; exact decide_eq_false (by simp_all)) | (symm; exact decide_eq_false (by omega)) | (simp [*]; done) | (simp_all; done))) rfl (fun _ => trivial)
theorem Ybt (s : ByteArray) (prefix_ : ByteArray) (hz : s.size ≤ 1000000 ∧ prefix_.size ≤ 1000000) : Con Tryz.prog 83 [Sv s, Sv prefix_] true (Bv (Zra s prefix_)) := by
  refine Zeb (fn := Tryz.f83) (nt := 8) Tryz.func83 rfl rfl rfl rfl (by simp [Zaj, Zan]) fun B hB => ?_
  refine aR [] [0, 1] [] [Sv s, Sv prefix_] [] [] hB trivial ?_
  refine aR [(2, .call [(true, .any), (true, .any)] true (Bv (Zra s prefix_)))] [4] [] [Bv (Zra s prefix_)] [] [Con Tryz.prog 141 [Sv s, Sv prefix_] true (Bv (Zra s prefix_)) ∧ True] hB ⟨⟨(Zux s prefix_ (by omega)), trivial⟩, trivial⟩ ?_
  refine Zba ?_
  refine Zbb hB (Bv (Zra s prefix_)) (by kernel_rfl) (.inl rfl) rfl (fun _ => trivial)
theorem Zgw (lx : Lexicon) (text : ByteArray) (hx : Zci lx) (ht : text.size ≤ 1000) : Con Tryz.prog 53 [.agg [Zaa false lx.Entries], Sv text] true (Bv (Zfr lx text)) := by
  have hc := hx.1
  refine Zeb (fn := Tryz.f53) (nt := 28) Tryz.func53 rfl rfl rfl rfl (by simp [Zaj, Zan, Zcf]) fun B hB => ?_
  refine Zea (x := .agg [Zaa false lx.Entries]) 0 rfl (fun len_lx => ?_)
  simp [Zfx, Zkq, Zej, Zap, Zaa] at len_lx
  refine aR [(0, .new 2)] [1, 2] [2] [Sv text, .ref 2 0] [some (.box [Zaa false lx.Entries])] [] hB trivial ?_
  refine Zam ?_
  obtain ⟨pl_1, found_1, hx1_0, hx1_1, hx1_2, hx1_3, hx1_4, hc1⟩ := Zia lx text hx
  have hb0 := hx1_0
  have hba := beg_at hx hb0.1 hx1_3 hx1_4
  refine Zbs [(2, .call [(true, .any), (true, .any)] true (.tup [I pl_1, Bv found_1]))] [1, 2, 5] [2] [Sv text, .ref 2 0, I pl_1] [some (.box [Zaa false lx.Entries])] [Con Tryz.prog 63 [.agg [Zaa false lx.Entries], Sv text] true (.tup [I pl_1, Bv found_1]) ∧ True] hB ⟨⟨hc1, trivial⟩, trivial⟩ ?_
  refine Zae ?_
  refine Zam ?_
  by_cases h1 : pl_1 < (lx.Entries.length : Int)
  ·have hen := hx.2.1 _ (Zcx (show pl_1.toNat < lx.Entries.length by omega))
   have hwz := (Zdn.1 hen.1).1
   refine Zbs [(4, .dec true), (13, .call [(true, .any), (true, .any)] true (Bv (Zra ((at_ lx.Entries pl_1.toNat).Word) text)))] [4] [] [Bv (Zra ((at_ lx.Entries pl_1.toNat).Word) text)] [] [pl_1 < (lx.Entries.length : Int), (0 : Int) ≤ pl_1 ∧ pl_1 < (lx.Entries.length : Int), Con Tryz.prog 83 [Sv ((at_ lx.Entries pl_1.toNat).Word), Sv text] true (Bv (Zra ((at_ lx.Entries pl_1.toNat).Word) text)) ∧ True] hB ⟨h1, ⟨(by omega), (by omega)⟩, ⟨(Ybt ((at_ lx.Entries pl_1.toNat).Word) text (by omega)), trivial⟩, trivial⟩ ?_
   refine Zae ?_
   refine Zba ?_
   refine Zbb hB (Bv (Zra ((at_ lx.Entries pl_1.toNat).Word) text)) (by kernel_rfl) (.inl (by refine congrArg Bv ?_; first | exact hnb.symm | exact hnb | (rw [Bool.eq_iff_iff, hba]; exact ⟨fun q => ⟨by omega, q⟩, fun q => q.2⟩) | (rw [Bool.eq_iff_iff, hba]; simp [*]))) rfl (fun _ => trivial)
  have hnb : Zfr lx text = false := Bool.eq_false_iff.2 fun q => by have := (hba.1 q).1; omega
  refine Zbs [(4, .dec false)] [4] [] [Bv false] [] [¬ (pl_1 < (lx.Entries.length : Int))] hB ⟨h1, trivial⟩ ?_
  refine Zae ?_
  refine Zba ?_
  refine Zbb hB (Bv false) (by kernel_rfl) (.inl (by refine congrArg Bv ?_; first | exact hnb.symm | exact hnb | (rw [Bool.eq_iff_iff, hba]; exact ⟨fun q => ⟨by omega, q⟩, fun q => q.2⟩) | (rw [Bool.eq_iff_iff, hba]; simp [*]))) rfl (fun _ => trivial)
def Zot (x : Reading) : List Value := [.string x.Text, .int .i64 x.Cost]
theorem srRcmp (x y : Reading) (w : World) : Calls Tryz.prog 106 (#[.agg (Zot x).toArray, .agg (Zot y).toArray] ++ #[]) w fun e w' => e = .returned (.int .i64 (Zlj x y)) ∧ ∃ q os', w' = Go.Sort.grow (w.drewN q) os' := by
  show Calls Tryz.prog 106 #[.agg #[.string x.Text, .int .i64 x.Cost], .agg #[.string y.Text, .int .i64 y.Cost]] w _
  go_enter Tryz.func106, Tryz.ntmps106
  go_wp2
  refine Zgb 17 (by kernel_rfl) (by kernel_rfl) (by kernel_rfl) ?_
  repeat (quiet_step (first | (go_at_call 148; exact Calls.quiet_of_same (sfCI _ _ _)) | (go_at_call 159; exact Calls.quiet_of_same (sfCJ _ _ _)) | (go_at_call 115; exact Calls.quiet_of_same (sfCS _ _ _))))
  refine wpQuiet_nil ?_
  intro _ hw'
  obtain ⟨nq, hw''⟩ := hw'
  subst hw''
  simp only [List.drop_succ_cons, List.drop_zero]
  go_wp2_with fail
  refine (sfOr _ _ _ [Zdd x.Cost y.Cost, Zdd (x.Text.size : Int) (y.Text.size : Int), Zdm x.Text y.Text] _ rfl (by simp) (fun j hj => ?_)).mono ?_
  · have hj2 : j = 0 ∨ j = 1 ∨ j = 2 := by
      simp at hj; omega
    have e : ∀ (a b c : Obj), (((w.heap.push a).push b).push c)[w.heap.size + 1 + 1]? = some c := fun a b c => by rw [Array.getElem?_push, if_pos (by simp)]
    unfold World.cell?
    rcases hj2 with rfl | rfl | rfl <;> (erw [e]; rfl)
  rintro e w' ⟨rfl, rfl⟩
  go_wp2
  go_ret
  refine ⟨rfl, nq, #[.cells #[Value.string x.Text, Value.int IntKind.i64 x.Cost] 33 (0, 0), .cells #[Value.string y.Text, Value.int IntKind.i64 y.Cost] 33 (0, 0), .cells #[Value.int IntKind.i64 (Zdd x.Cost y.Cost), Value.int IntKind.i64 (Zdd (x.Text.size : Int) (y.Text.size : Int)), Value.int IntKind.i64 (Zdm x.Text y.Text)] 3 (0, 0)], ?_⟩
  have e : ∀ (a b c : Obj), ((w.heap.push a).push b).push c = w.heap ++ #[a, b, c] := fun a b c => Array.toList_inj.1 (by simp)
  unfold Go.Sort.grow
  show World.mk (((w.heap.push _).push _).push _) w.tape (w.drawn + nq) w.os w.output = World.mk (w.heap ++ #[_, _, _]) w.tape (w.drawn + nq) w.os w.output
  rw [e]
theorem Zyg (data : List Reading) (hl : data.length ≤ 4000000) : ∃ (data' : List Reading), (data' = Zuv Zlj data data.length) ∧ Zbi Tryz.prog 105 [.arr 8621, .fn 106 []] (Zaf [(8621, Zai data)]) true (.tup []) (Zaf [(8621, Zai data')]) := by
  refine ⟨Zjt Zlj data, srt_iso cmpR_w Zws data, ?_⟩
  exact Zkl (enc := Zot) (kc := 2) (by decide) (fun _ => rfl) (fun x v hv => by simp only [Zot, List.mem_cons, List.not_mem_nil, or_false] at hv; rcases hv with rfl | rfl <;> rfl) (cf := Zlj) (Zkp cmpR_w)
    (fun blk off cap d w h1 h2 h3 => AnyQ.slices_SortFunc_eq Tryz.laysSfRdg 2 (fun w => Zfl (by kernel_rfl) w) (fun w => Zbn (by kernel_rfl) w) Zot (fun _ => rfl) (fun x v hv => by simp only [Zot, List.mem_cons, List.not_mem_nil, or_false] at hv; rcases hv with rfl | rfl <;> rfl) Zlj (Zkp cmpR_w) 106 #[] blk off cap d w (enters_of Tryz.func106 (by kernel_rfl) rfl) (fun m os dk hdk x y => srRcmp x y _) h1 h2 h3)
    (fun p cap fv w => AnyF.slices_SortFunc_none Tryz.laysSfRdg p cap fv w) 8621 data (by omega)
theorem Zst (list : List Reading) (k : Int) (hl : list.length ≤ 4000000) (hk : 0 ≤ k ∧ k ≤ 4000000) : ∃ (list' : List Reading) (out : List Reading), (out = frL k.toNat list) ∧ Zbi Tryz.prog 54 [.arr 8621, I k] (Zaf [(8621, Zai list)]) false (.arr 8622) (Zaf [(8621, Zai list'), (8622, Zai out)]) := by
  have hh : ∃ r : (List Reading) × (List Reading), ((r.2 = frL k.toNat list) ∧ (True)) ∧ Zbi Tryz.prog 54 [.arr 8621, I k] (Zaf [(8621, Zai list)]) false (.arr 8622) (Zaf [(8621, Zai r.1), (8622, Zai r.2)]) := by
    refine Zdl (Φ := fun r : (List Reading) × (List Reading) => (r.2 = frL k.toNat list) ∧ (True)) [(8621, Zai list)] (fun r => [(8621, Zai r.1), (8622, Zai r.2)]) (fn := Tryz.f54) (nt := 38) Tryz.func54 rfl rfl (args := [.arr 8621, I k]) rfl (Zbe (.inr trivial) (Zbe (.inl ⟨rfl, trivial⟩) Zdj)) (res := fun r => .arr 8622) ?_
    refine xR [] [0, 1] [8621] [.arr 8621, I k] [some (Zai list)] [] trivial ?_
    refine Zar ?_
    obtain ⟨data'_1, hx1_0, hc1⟩ := Zyg list (by omega)
    have hys := hx1_0
    have hyl : data'_1.length = list.length := by rw [hys, Zjr]
    refine x_r [(1, .lend [(8621, Zai list, Zai data'_1)] [] [(true, .any), (true, .any)] true (.tup []))] [0, 1] [8621] [.arr 8621, I k] [some (Zai data'_1)] [Zbi Tryz.prog 105 [.arr 8621, .fn 106 []] (Zaf [(8621, Zai list)]) true (.tup []) (Zaf [(8621, Zai data'_1)]) ∧ (((Zai list : Ob) = Zai list ∨ Zih Zgf true (Zai list) (Zai list)) ∧ Zbu false (Zai list)) ∧ True] ⟨⟨hc1, ⟨.inl rfl, fun _ _ => Zhf false _⟩, trivial⟩, trivial⟩ ?_
    refine Zad ?_
    refine xR [(0, .new 11)] [0, 1, 5] [11, 8621] [.arr 8621, I k, .mapr 11] [some (.set ([] : List ByteArray)), some (Zai data'_1)] [] trivial ?_
    refine xR [] [0, 1, 5, 6] [11, 8621] [.arr 8621, I k, .mapr 11, Zde] [some (.set ([] : List ByteArray)), some (Zai data'_1)] [] trivial ?_
    refine Zar ?_
    refine xR [] [1, 5, 6, 12, 13, 14] [11, 8621] [I k, .mapr 11, Zde, .arr 8621, I (data'_1.length : Int), I 0] [some (.set ([] : List ByteArray)), some (Zai data'_1)] [] trivial ?_
    refine Zbp ?_
    refine x_nil 6 706 2 (fun _ => []) (by kernel_rfl) ?_
    refine Zek [] (T := [(1, I k), (5, .mapr 11), (6, .arr 706), (12, .arr 8621), (13, I (data'_1.length : Int)), (14, I 0)]) (O := [(11, .set ([] : List ByteArray)), (706, Zai ([] : List Reading)), (8621, Zai data'_1)]) rfl (⟨.inl rfl, .inl rfl, .inl rfl, .inl rfl, .inl rfl, .inl rfl, trivial⟩) (⟨.inl rfl, .inr ⟨rfl, (by first | rfl | (simp; done) | (simp; omega) | omega), fun i_ hi_ => absurd hi_ (Nat.not_lt_zero _)⟩, .inl rfl, trivial⟩) ?_
    refine Zel (X := (List Reading) × Int × (List ByteArray)) (fun x => mkS [(1, I k), (5, .mapr 11), (6, .arr 706), (12, .arr 8621), (13, I (data'_1.length : Int)), (14, I x.2.1)] [(11, .set x.2.2), (706, Zai x.1), (8621, Zai data'_1)]) (fun x => (0 ≤ x.2.1 ∧ x.2.1 ≤ (data'_1.length : Int)) ∧ (x.1 = frI k.toNat data'_1 x.2.1.toNat) ∧ (x.2.2 = x.1.map Reading.Text) ∧ True) (fun x => ((data'_1.length : Int) - x.2.1).toNat) (([] : List Reading), 0, ([] : List ByteArray)) rfl (show (0 ≤ (0 : Int) ∧ (0 : Int) ≤ (data'_1.length : Int)) ∧ (([] : List Reading) = frI k.toNat data'_1 (0 : Int).toNat) ∧ (([] : List ByteArray) = ([] : List Reading).map Reading.Text) ∧ True from ⟨(by omega), (by rfl), (by rfl), trivial⟩) (fun x hI => ?_)
    obtain ⟨out, t14, ks⟩ := x
    obtain ⟨hi0, hou, hks, _⟩ : (0 ≤ t14 ∧ t14 ≤ (data'_1.length : Int)) ∧ (out = frI k.toNat data'_1 t14.toNat) ∧ (ks = out.map Reading.Text) ∧ True := hI
    show XW _ _ _ _ (mkS [(1, I k), (5, .mapr 11), (6, .arr 706), (12, .arr 8621), (13, I (data'_1.length : Int)), (14, I t14)] [(11, .set ks), (706, Zai out), (8621, Zai data'_1)]) _ _
    refine Zar ?_
    by_cases h1 : t14 < (data'_1.length : Int)
    ·have hi : t14.toNat < data'_1.length := by omega
     have hii : (t14 + 1).toNat = t14.toNat + 1 := by omega
     have hfl := Zqw k.toNat data'_1 t14.toNat
     rw [← hou] at hfl
     refine x_r [(0, .dec true)] [1, 5, 6, 12, 13, 14, 15] [11, 706, 8621] [I k, .mapr 11, .arr 706, .arr 8621, I (data'_1.length : Int), I t14, Bv true] [some (.set ks), some (Zai out), some (Zai data'_1)] [t14 < (data'_1.length : Int)] ⟨h1, trivial⟩ ?_
     refine Zad ?_
     refine Zar ?_
     refine Zcb rfl ?_
     refine Zbk ?_
     refine Zad ?_
     refine Zar ?_
     refine Zbp ?_
     refine xR [(2, .new 8)] [1, 5, 6, 8, 12, 13, 14] [8, 11, 706, 8621] [I k, .mapr 11, .arr 706, .ref 8 0, .arr 8621, I (data'_1.length : Int), I t14] [some (Zdk (at_ data'_1 t14.toNat)), some (.set ks), some (Zai out), some (Zai data'_1)] [(0 : Int) ≤ t14 ∧ t14 < (data'_1.length : Int), t14.toNat < data'_1.length] ⟨⟨(by omega), (by omega)⟩, (by omega), trivial⟩ ?_
     refine Zar ?_
     by_cases h2 : (out.length : Int) < k
     ·by_cases h3 : ((at_ data'_1 t14.toNat).Text) ∈ ks
      ·refine x_r [(3, .dec true), (8, .dec true)] [1, 5, 6, 8, 12, 13, 14, 28] [8, 11, 706, 8621] [I k, .mapr 11, .arr 706, .ref 8 0, .arr 8621, I (data'_1.length : Int), I t14, Bv false] [some (Zdk (at_ data'_1 t14.toNat)), some (.set ks), some (Zai out), some (Zai data'_1)] [(out.length : Int) < k, ((at_ data'_1 t14.toNat).Text) ∈ ks] ⟨h2, h3, trivial⟩ ?_
       refine Zad ?_
       refine Zav rfl ?_
       refine Zbk ?_
       refine Zbw 1 ?_
       refine Zad ?_
       refine x_r [] [1, 5, 6, 12, 13, 14] [11, 706, 8621] [I k, .mapr 11, .arr 706, .arr 8621, I (data'_1.length : Int), I (t14 + 1)] [some (.set ks), some (Zai out), some (Zai data'_1)] [inR .i64 (t14 + 1)] ⟨(Zah (by omega) (by omega)), trivial⟩ ?_
       exact Zbm (out, (t14 + 1), ks) rfl (show (0 ≤ (t14 + 1) ∧ (t14 + 1) ≤ (data'_1.length : Int)) ∧ (out = frI k.toNat data'_1 (t14 + 1).toNat) ∧ (ks = out.map Reading.Text) ∧ True from ⟨(by omega), (by rw [hii]; first | exact fr_y hou hks (by omega) (by assumption) | exact fr_n1 hou (by omega) | exact fr_n2 hou hks (by assumption)), (by first | exact hks | (rw [hks, List.map_append]; rfl)), trivial⟩) (by first | (show (((data'_1.length : Int) - (t14 + 1)).toNat : Nat) < ((data'_1.length : Int) - t14).toNat; omega) | (dsimp only; omega))
      refine x_r [(3, .dec true), (8, .dec false)] [1, 5, 6, 8, 12, 13, 14, 28] [8, 11, 706, 8621] [I k, .mapr 11, .arr 706, .ref 8 0, .arr 8621, I (data'_1.length : Int), I t14, Bv true] [some (Zdk (at_ data'_1 t14.toNat)), some (.set ks), some (Zai out), some (Zai data'_1)] [(out.length : Int) < k, ¬ (((at_ data'_1 t14.toNat).Text) ∈ ks)] ⟨h2, h3, trivial⟩ ?_
      refine Zad ?_
      refine Zcb rfl ?_
      refine xR [] [1, 5, 6, 8, 12, 13, 14] [8, 11, 706, 8621] [I k, .mapr 11, .arr 706, .ref 8 0, .arr 8621, I (data'_1.length : Int), I t14] [some (Zdk (at_ data'_1 t14.toNat)), some (.set (ks ++ [(at_ data'_1 t14.toNat).Text])), some (Zai out), some (Zai data'_1)] [¬ (((at_ data'_1 t14.toNat).Text) ∈ ks)] ⟨h3, trivial⟩ ?_
      refine x_r [(2, .new 34), (3, .new 35)] [1, 5, 6, 12, 13, 14] [11, 35, 8621] [I k, .mapr 11, .arr 35, .arr 8621, I (data'_1.length : Int), I t14] [some (.set (ks ++ [(at_ data'_1 t14.toNat).Text])), some (.arr 2 (out.length + 1) (Zfm out.length (Zeg out) (Zgd [Sv ((at_ data'_1 t14.toNat).Text), I ((at_ data'_1 t14.toNat).Cost)] 2))), some (Zai data'_1)] [(out.length + 1) * 24 ≤ 140737488355328] ⟨(by omega), trivial⟩ ?_
      refine Zbw 1 ?_
      refine Zad ?_
      refine x_r [] [1, 5, 6, 12, 13, 14] [11, 35, 8621] [I k, .mapr 11, .arr 35, .arr 8621, I (data'_1.length : Int), I (t14 + 1)] [some (.set (ks ++ [(at_ data'_1 t14.toNat).Text])), some (.arr 2 (out.length + 1) (Zfm out.length (Zeg out) (Zgd [Sv ((at_ data'_1 t14.toNat).Text), I ((at_ data'_1 t14.toNat).Cost)] 2))), some (Zai data'_1)] [inR .i64 (t14 + 1)] ⟨(Zah (by omega) (by omega)), trivial⟩ ?_
      refine Zgy [(706, 35)] (T := [(1, I k), (5, .mapr 11), (6, .arr 706), (12, .arr 8621), (13, I (data'_1.length : Int)), (14, I (t14 + 1))]) (O := [(11, .set (ks ++ [(at_ data'_1 t14.toNat).Text])), (706, Zai (out ++ [(at_ data'_1 t14.toNat)])), (8621, Zai data'_1)]) rfl (⟨.inl rfl, .inl rfl, .inl rfl, .inl rfl, .inl rfl, .inl rfl, trivial⟩) (⟨.inl rfl, .inr ⟨rfl, (by first | rfl | (simp; done) | (simp; omega) | omega), fun i_ hi_ => .inl (Zhw (enc := Zhz) (xs := out) rfl i_ hi_)⟩, .inl rfl, trivial⟩) (Zbm ((out ++ [(at_ data'_1 t14.toNat)]), (t14 + 1), (ks ++ [(at_ data'_1 t14.toNat).Text])) rfl (show (0 ≤ (t14 + 1) ∧ (t14 + 1) ≤ (data'_1.length : Int)) ∧ ((out ++ [(at_ data'_1 t14.toNat)]) = frI k.toNat data'_1 (t14 + 1).toNat) ∧ ((ks ++ [(at_ data'_1 t14.toNat).Text]) = (out ++ [(at_ data'_1 t14.toNat)]).map Reading.Text) ∧ True from ⟨(by omega), (by rw [hii]; first | exact fr_y hou hks (by omega) (by assumption) | exact fr_n1 hou (by omega) | exact fr_n2 hou hks (by assumption)), (by first | exact hks | (rw [hks, List.map_append]; rfl)), trivial⟩) (by first | (show (((data'_1.length : Int) - (t14 + 1)).toNat : Nat) < ((data'_1.length : Int) - t14).toNat; omega) | (dsimp only; omega)))
     refine x_r [(3, .dec false)] [1, 5, 6, 8, 12, 13, 14, 28] [8, 11, 706, 8621] [I k, .mapr 11, .arr 706, .ref 8 0, .arr 8621, I (data'_1.length : Int), I t14, Bv false] [some (Zdk (at_ data'_1 t14.toNat)), some (.set ks), some (Zai out), some (Zai data'_1)] [¬ ((out.length : Int) < k)] ⟨h2, trivial⟩ ?_
     refine Zad ?_
     refine Zav rfl ?_
     refine Zbk ?_
     refine Zbw 1 ?_
     refine Zad ?_
     refine x_r [] [1, 5, 6, 12, 13, 14] [11, 706, 8621] [I k, .mapr 11, .arr 706, .arr 8621, I (data'_1.length : Int), I (t14 + 1)] [some (.set ks), some (Zai out), some (Zai data'_1)] [inR .i64 (t14 + 1)] ⟨(Zah (by omega) (by omega)), trivial⟩ ?_
     exact Zbm (out, (t14 + 1), ks) rfl (show (0 ≤ (t14 + 1) ∧ (t14 + 1) ≤ (data'_1.length : Int)) ∧ (out = frI k.toNat data'_1 (t14 + 1).toNat) ∧ (ks = out.map Reading.Text) ∧ True from ⟨(by omega), (by rw [hii]; first | exact fr_y hou hks (by omega) (by assumption) | exact fr_n1 hou (by omega) | exact fr_n2 hou hks (by assumption)), (by first | exact hks | (rw [hks, List.map_append]; rfl)), trivial⟩) (by first | (show (((data'_1.length : Int) - (t14 + 1)).toNat : Nat) < ((data'_1.length : Int) - t14).toNat; omega) | (dsimp only; omega))
    have hfin : out = frL k.toNat list := by rw [hou, show t14.toNat = data'_1.length from by omega, hys, Zjr]; rfl
    refine x_r [(0, .dec false)] [1, 5, 6, 12, 13, 14, 15] [11, 706, 8621] [I k, .mapr 11, .arr 706, .arr 8621, I (data'_1.length : Int), I t14, Bv false] [some (.set ks), some (Zai out), some (Zai data'_1)] [¬ (t14 < (data'_1.length : Int))] ⟨h1, trivial⟩ ?_
    refine Zad ?_
    refine Zar ?_
    refine Zav rfl ?_
    refine Zdo ?_
    refine Zaw ?_
    refine Zbd ?_
    refine Zax ?_
    refine Zad ?_
    refine xR [] [4] [706, 8621] [.arr 706] [some (Zai out), some (Zai data'_1)] [] trivial ?_
    refine Zdh ?_
    refine Zgy [(8622, 706)] (T := [(4, .arr 8622)]) (O := [(8621, Zai data'_1), (8622, Zai out)]) rfl (⟨.inl rfl, trivial⟩) (⟨.inl rfl, .inl rfl, trivial⟩) ?_
    refine Zce (data'_1, out) (show (out = frL k.toNat list) ∧ (True) from ⟨(by exact hfin), trivial⟩) (⟨.inl rfl, .inl rfl, trivial⟩) (.arr 8622) (by kernel_rfl) (.inl rfl) (fun h => by cases h) (fun h => by cases h)
  obtain ⟨⟨list', out⟩, ⟨hh0, _⟩, hc⟩ := hh
  exact ⟨list', out, hh0, hc⟩
def frP (xs : List Reading) : List Reading := frL xs.length xs
theorem Zwt (xs : List Reading) : ((frP xs).map Reading.Text).Nodup ∧ (∀ x ∈ frP xs, x ∈ xs) ∧ ∀ q ∈ xs, ∃ r ∈ frP xs, r.Text = q.Text ∧ r.Cost ≤ q.Cost := by
  have h := Ybu xs.length xs
  refine ⟨fst_nd h, fun x hx => Zuy hx, fun q hq => ?_⟩
  rcases h.2.2.2 q hq with ⟨r, hr, e⟩ | ⟨e, g⟩
  · exact ⟨r, hr, e, (h.2.2.1 r hr).2 q hq e.symm⟩
  · exfalso
    have nd : (q :: frL xs.length xs).Nodup := by
      rw [List.nodup_cons]
      refine ⟨fun hm => ?_, ?_⟩
      · have := g q hm
        rw [cmpR_w.refl] at this; omega
      · have := fst_nd h
        unfold List.Nodup at this ⊢
        rw [List.pairwise_map] at this
        exact this.imp fun {x y} z w => z (by rw [w])
    have := @nd_le Reading (fun a b => Classical.propDecidable _) (q :: frL xs.length xs) xs nd fun x hx => by
      rcases List.mem_cons.1 hx with z | z
      · rw [z]; exact hq
      · exact Zuy z
    rw [List.length_cons, e] at this
    omega
def pfxL (lx : Lexicon) : List ByteArray := lx.Entries.flatMap fun e => (List.range 11).map fun k => e.Word.extract 0 k
theorem Zwu {α β : Type} {f : α → List β} {m : Nat} (h : ∀ x, (f x).length = m) : ∀ xs : List α, (xs.flatMap f).length = m * xs.length
  | [] => rfl
  | x :: r => by rw [List.flatMap_cons, List.length_append, h, Zwu h r, List.length_cons, Nat.mul_succ]; omega
theorem pfx_len (lx : Lexicon) : (pfxL lx).length = 11 * lx.Entries.length := Zwu (fun e => by rw [List.length_map, List.length_range]) _
theorem pfx_mem {lx : Lexicon} (hx : Zci lx) {t : ByteArray} (h : Zfr lx t = true) : t ∈ pfxL lx := by
  obtain ⟨e, he, q⟩ := Zic.1 h
  have hw := (Zdn.1 (hx.2.1 e he).1).1
  unfold Zra at q
  have q2 := of_decide_eq_true q
  exact List.mem_flatMap.2 ⟨e, he, List.mem_map.2 ⟨t.size, List.mem_range.2 (by omega), q2.2⟩⟩
theorem pfx_row {lx : Lexicon} (hx : Zci lx) {xs : List Reading} (h : ∀ x ∈ xs, Zfr lx x.Text = true) : (frP xs).length ≤ 660 := by
  have a := Zwt xs
  have := nd_le (xs := (frP xs).map Reading.Text) (ys := pfxL lx) a.1 fun t ht => by
    obtain ⟨x, hx2, rfl⟩ := List.mem_map.1 ht
    exact pfx_mem hx (h x (a.2.1 x hx2))
  rw [List.length_map, pfx_len] at this
  have := hx.1
  omega
def pf0 (l : Lattice) (lx : Lexicon) : List (List Reading) := if Zfr lx ⟨#[]⟩ = true then tb0 l else List.replicate l.Nodes.toNat []
def pfN (l : Lattice) (lx : Lexicon) (n : Nat) : List (List Reading) := tbN frP (Zfr lx) l (pf0 l lx) n
def pfE (l : Lattice) (lx : Lexicon) (n i : Nat) : List (List Reading) := tbE (Zfr lx) l n ((pfN l lx n).set n (frP (at_ (pfN l lx n) n))) i
theorem Zwv {l : Lattice} (hl : Zcg l) (lx : Lexicon) : okT l 1 (pf0 l lx) ∧ ∀ j, j < l.Nodes.toNat → ∀ x, x ∈ at_ (pf0 l lx) j ↔ (j = 0 ∧ x = rd0 ∧ Zfr lx ⟨#[]⟩ = true) := by
  unfold pf0
  split
  · rename_i q
    exact ⟨okT_0 hl, fun j hj x => by rw [Ybv hl hj]; simp [q]⟩
  · rename_i q
    refine ⟨⟨List.length_replicate, fun j hj => by rw [Zop hj]; exact ⟨Nat.zero_le _, fun x hx => (by cases hx)⟩⟩, fun j hj x => ?_⟩
    rw [Zop hj]
    exact ⟨fun h => (by cases h), fun h => absurd h.2.2 q⟩
theorem Zuz {p : ByteArray → Bool} {l : Lattice} (hl : Zcg l) {n : Nat} (hn : n < l.Nodes.toNat) {B M : Nat} {T : List (List Reading)} (h : okT l B T) (hM : (at_ T n).length ≤ M) : ∀ i : Nat, i ≤ l.Edges.length → okT l (B + M * i) (tbE p l n T i)
  | 0, _ => h
  | i + 1, hi => by
    have ih := Zuz (p := p) hl hn h hM i (by omega)
    have ok := Zth (p := p) hl (n := n) (by omega) h.1 i (by omega)
    by_cases hf : (at_ l.Edges i).From = (n : Int)
    · rw [← tbE_y hf]
      refine Zlk (Yaz ih (hl.2.2.1 i (by omega)) hf _) ?_
      rw [ok.2.1 n (Nat.le_refl _), Nat.mul_succ]; omega
    · rw [← tbE_n hf]; exact Zlk ih (by rw [Nat.mul_succ]; omega)
theorem tbE_p {p : ByteArray → Bool} {l : Lattice} (hl : Zcg l) {n : Nat} (hn : n < l.Nodes.toNat) {T : List (List Reading)} (hT : T.length = l.Nodes.toNat) (h : ∀ j, j < l.Nodes.toNat → ∀ x ∈ at_ T j, p x.Text = true) {i : Nat} (hi : i ≤ l.Edges.length) : ∀ j, j < l.Nodes.toNat → ∀ x ∈ at_ (tbE p l n T i) j, p x.Text = true := fun j hj x hx => by
  have ok := Zth (p := p) hl (n := n) (by omega) hT i hi
  by_cases q : j ≤ n
  · rw [ok.2.1 j q] at hx; exact h j hj x hx
  · rcases (ok.2.2 j (by omega) hj x).1 hx with z | ⟨_, _, _, _, z, _⟩
    · exact h j hj x z
    · exact z
theorem pf_set {l : Lattice} {lx : Lexicon} (hx : Zci lx) {B n : Nat} {T : List (List Reading)} (h : okT l B T) (hn : n < l.Nodes.toNat) (hp : ∀ j, j < l.Nodes.toNat → ∀ x ∈ at_ T j, Zfr lx x.Text = true) : okT l B (T.set n (frP (at_ T n))) ∧ (at_ (T.set n (frP (at_ T n))) n).length ≤ 660 ∧ ∀ j, j < l.Nodes.toNat → ∀ x ∈ at_ (T.set n (frP (at_ T n))) j, Zfr lx x.Text = true := by
  refine ⟨okT_set h hn, ?_, fun j hj x hx2 => ?_⟩
  · rw [Zcm (by rw [h.1]; exact hn)]; exact pfx_row hx (hp n hn)
  · by_cases e : j = n
    · subst e; rw [Zcm (by rw [h.1]; exact hj)] at hx2; exact hp j hj x ((Zwt _).2.1 x hx2)
    · rw [Zcw e] at hx2; exact hp j hj x hx2
theorem Zya {l : Lattice} (hl : Zcg l) {lx : Lexicon} (hx : Zci lx) : ∀ n : Nat, n ≤ l.Nodes.toNat → okT l (1 + 132000 * n) (pfN l lx n) ∧ ∀ j, j < l.Nodes.toNat → ∀ x ∈ at_ (pfN l lx n) j, Zfr lx x.Text = true
  | 0, _ => ⟨(Zwv hl lx).1, fun j hj x h => by obtain ⟨_, rfl, q⟩ := ((Zwv hl lx).2 j hj x).1 h; exact q⟩
  | n + 1, hn => by
    have ih := Zya hl hx n (by omega)
    have s := pf_set hx ih.1 (show n < l.Nodes.toNat by omega) ih.2
    have a := Zuz (p := Zfr lx) hl (show n < l.Nodes.toNat by omega) s.1 s.2.1 l.Edges.length (Nat.le_refl _)
    exact ⟨Zlk a (by have := hl.2.1; omega), tbE_p hl (show n < l.Nodes.toNat by omega) s.1.1 s.2.2 (Nat.le_refl _)⟩
theorem Yay {l : Lattice} (hl : Zcg l) {lx : Lexicon} (hx : Zci lx) {n i : Nat} (hn : n < l.Nodes.toNat) (hi : i ≤ l.Edges.length) : okT l 2700000 (pfE l lx n i) ∧ (at_ (pfE l lx n i) n).length ≤ 660 := by
  have ih := Zya hl hx n (by omega)
  have s := pf_set hx ih.1 hn ih.2
  have a := Zuz (p := Zfr lx) hl hn s.1 s.2.1 i hi
  have hN := hl.1
  have hE := hl.2.1
  refine ⟨Zlk a (by omega), ?_⟩
  show (at_ (tbE _ _ _ _ _) n).length ≤ _
  rw [(Zth (p := Zfr lx) hl (n := n) (by omega) s.1.1 i hi).2.1 n (Nat.le_refl _)]
  exact s.2.1
def pfV (l : Lattice) (lx : Lexicon) (n : Nat) : List Reading := at_ (pfN l lx (n + 1)) n
theorem Zyu {l : Lattice} (hl : Zcg l) {lx : Lexicon} (hx : Zci lx) {n : Nat} (hn : n < l.Nodes.toNat) : (pfV l lx n).length ≤ 660 := by
  have := Yay hl hx hn (Nat.le_refl l.Edges.length)
  exact this.2
theorem pf_sound {l : Lattice} (hl : Zcg l) {lx : Lexicon} {N : Nat} (hN : (N : Int) ≤ l.Nodes) : ∀ (m j : Nat), j ≤ m → j < N → ∀ x ∈ at_ (pfN l lx N) j, pth l j x := fun m => by
  induction m using Nat.strongRecOn with
  | _ m ih =>
  intro j hm hj x hx
  have h0 := Zwv hl lx
  have h := Ybw (F := frP) (p := Zfr lx) hl h0.1.1 hN hj
  have hx : x ∈ at_ (tbN frP (Zfr lx) l (pf0 l lx) N) j := hx
  rw [h.1] at hx
  rcases (h.2 x).1 ((Zwt _).2.1 x hx) with q | ⟨e, he, a, _, r, hr, q⟩
  · obtain ⟨q1, q2, _⟩ := (h0.2 j (by omega) x).1 q
    exact (Zfp hl (by omega) x).2 (.inl ⟨q1, q2⟩)
  · have b := (Zte hl he).1
    exact (Zfp hl (by omega) x).2 (.inr ⟨e, he, a, r, ih e.From.toNat (by omega) e.From.toNat (Nat.le_refl _) (by omega) r hr, q⟩)
theorem pf_full {l : Lattice} (hl : Zcg l) {lx : Lexicon} {N : Nat} (hN : (N : Int) ≤ l.Nodes) : ∀ (m j : Nat), j ≤ m → j < N → ∀ x, pth l j x → Zfr lx x.Text = true → ∃ r ∈ at_ (pfN l lx N) j, r.Text = x.Text ∧ r.Cost ≤ x.Cost := fun m => by
  induction m using Nat.strongRecOn with
  | _ m ih =>
  intro j hm hj x hx hb
  have h0 := Zwv hl lx
  have h := Ybw (F := frP) (p := Zfr lx) hl h0.1.1 hN hj
  have go : ∀ y, y ∈ at_ (tbN frP (Zfr lx) l (pf0 l lx) j) j → y.Text = x.Text → y.Cost ≤ x.Cost → ∃ r ∈ at_ (pfN l lx N) j, r.Text = x.Text ∧ r.Cost ≤ x.Cost := fun y hy e1 e2 => by
    obtain ⟨r, hr, f1, f2⟩ := (Zwt _).2.2 y hy
    refine ⟨r, ?_, f1.trans e1, by omega⟩
    show r ∈ at_ (tbN frP (Zfr lx) l (pf0 l lx) N) j
    rw [h.1]; exact hr
  rcases (Zfp hl (by omega) x).1 hx with ⟨q1, q2⟩ | ⟨e, he, a, r, hr, q⟩
  · exact go x ((h.2 x).2 (.inl ((h0.2 j (by omega) x).2 ⟨q1, q2, by rw [q2] at hb; exact hb⟩))) rfl (Int.le_refl _)
  · have b := (Zte hl he).1
    have hb2 : Zfr lx (r.Text ++ e.Label) = true := by rw [q] at hb; exact hb
    obtain ⟨r2, g1, g2, g3⟩ := ih e.From.toNat (by omega) e.From.toNat (Nat.le_refl _) (by omega) r hr (beg_pre hb2)
    refine go (rdr e r2) ((h.2 _).2 (.inr ⟨e, he, a, ?_, r2, g1, rfl⟩)) ?_ ?_
    · show Zfr lx (r2.Text ++ e.Label) = true
      rw [g2]; exact hb2
    · rw [q]; show r2.Text ++ _ = r.Text ++ _; rw [g2]
    · rw [q]; show r2.Cost + _ ≤ r.Cost + _; omega
theorem pf_has {l : Lattice} (hl : Zcg l) {lx : Lexicon} {w : ByteArray} (h : tcF l w < 1099511627776) (hb : ∃ e ∈ lx.Entries, e.Word = w) : ∃ j : Nat, j < (pfV l lx (l.Nodes - 1).toNat).length ∧ (at_ (pfV l lx (l.Nodes - 1).toNat) j).Text = w ∧ (at_ (pfV l lx (l.Nodes - 1).toNat) j).Cost = tcF l w := by
  have hN := hl.1
  have hbw : Zfr lx w = true := by
    obtain ⟨e, he, q⟩ := hb
    refine Zic.2 ⟨e, he, Zjq.2 ⟨⟨#[]⟩, ?_⟩⟩
    rw [q]; exact Zjm (by rw [Zei]; simp)
  obtain ⟨r, hr, e1, e2⟩ := pf_full hl (lx := lx) (N := (l.Nodes - 1).toNat + 1) (by omega) _ (l.Nodes - 1).toNat (Nat.le_refl _) (by omega) _ (Zqu hl h) hbw
  have hs := pf_sound hl (lx := lx) (N := (l.Nodes - 1).toNat + 1) (by omega) _ (l.Nodes - 1).toNat (Nat.le_refl _) (by omega) r hr
  obtain ⟨j, hj, q⟩ := List.getElem_of_mem hr
  replace e1 : r.Text = w := e1
  replace e2 : r.Cost ≤ tcF l w := e2
  have := Zuu hl (w := r.Text) (c := r.Cost) hs
  rw [e1] at this
  refine ⟨j, hj, ?_, ?_⟩
  · show (at_ (at_ (pfN l lx ((l.Nodes - 1).toNat + 1)) (l.Nodes - 1).toNat) j).Text = w
    rw [Zcz hj, q]; exact e1
  · show (at_ (at_ (pfN l lx ((l.Nodes - 1).toNat + 1)) (l.Nodes - 1).toNat) j).Cost = _
    rw [Zcz hj, q]; omega
theorem Ybb {l : Lattice} {lx : Lexicon} {n i : Nat} (hi : i = l.Edges.length) : pfE l lx n i = pfN l lx (n + 1) := by subst hi; rfl
theorem pf_n {l : Lattice} {lx : Lexicon} {n i : Nat} (h : ¬ (at_ l.Edges i).From = (n : Int)) : pfE l lx n i = pfE l lx n (i + 1) := tbE_n h
theorem pf_y {l : Lattice} {lx : Lexicon} {n i : Nat} (h : (at_ l.Edges i).From = (n : Int)) : exT (Zfr lx) (pfE l lx n i) (at_ l.Edges i) n (at_ (pfE l lx n i) n).length = pfE l lx n (i + 1) := tbE_y h
theorem Zoh {i k : Nat} (h : i ≠ k) : Nat.beq i k = false := Bool.eq_false_iff.2 fun e => h (Nat.eq_of_beq_eq_true e)
theorem Ybx {α : Type} [Inhabited α] {xs : List α} {k : Nat} {c : α} (h : k < xs.length) : at_ (xs.set k c) k = c := by simp [at_, h]
theorem Yby {α : Type} [Inhabited α] {xs : List α} {k i : Nat} {c : α} (h : i ≠ k) : at_ (xs.set k c) i = at_ xs i := by
  have : ¬ k = i := fun e => h e.symm
  simp [at_, this]
theorem le_row {ob : Nat → Option Ob} {F N sz p n : Nat} {m : Nat → Nat} {g : Nat → Nat → List AV} {fr : Bool} {f : Nat → List AV} (h : ob F = some (.fam N sz m g)) (hp : p < N) (hn : m p = n)
    (hf : ∀ i, i < n → g p i = f i ∨ (AV.idsL (f i) = [] ∧ leL (fun _ => none) false (g p i) (f i))) : le ob true (.row F p) (.sl fr sz n f) := by
  simp only [le, h]
  exact ⟨fun _ => trivial, hp, trivial, hn, hf⟩
def Zyh (F : Nat) (x : List Reading) (i : Nat) : List AV := [.row F i]
def Zck (F : Nat) (xs : List (List Reading)) (i : Nat) : List AV := Zyh F (at_ xs i) i
def Zdy (xs : List (List Reading)) (p : Nat) : Nat := (at_ xs p).length
def Zdz (xs : List (List Reading)) (p : Nat) : Nat → List AV := Zeg (at_ xs p)
abbrev Zao (F : Nat) (xs : List (List Reading)) : Ob := .oar [F] 1 xs.length (Zck F xs)
abbrev Zal (xs : List (List Reading)) : Ob := .fam xs.length 2 (Zdy xs) (Zdz xs)
theorem Zmp {ob : Nat → Option Ob} {F : Nat} (fr : Bool) (xs : List (List Reading)) (h : ob F = some (.fam xs.length 2 (Zdy xs) (Zdz xs))) : ∀ i, i < xs.length → AV.idsL (Zjh fr xs i) = [] ∧ leL ob true (Zck F xs i) (Zjh fr xs i) :=
  fun i hi => And.intro rfl (And.intro (le_row h hi rfl (fun q _ => .inl rfl)) rfl)
theorem Zss (n : Nat) {g : Nat → Nat → List AV} : n = (List.replicate n ([] : List Reading)).length ∧ 2 = 2 ∧ ∀ p, p < (List.replicate n ([] : List Reading)).length → (fun _ : Nat => (0 : Nat)) p = Zdy (List.replicate n ([] : List Reading)) p ∧ ∀ i, i < Zdy (List.replicate n ([] : List Reading)) p → g p i = Zdz (List.replicate n ([] : List Reading)) p i ∨ (AV.idsL (Zdz (List.replicate n ([] : List Reading)) p i) = [] ∧ leL (fun _ => none) false (g p i) (Zdz (List.replicate n ([] : List Reading)) p i)) := by
  refine ⟨by simp, rfl, fun p hp => ?_⟩
  have e : Zdy (List.replicate n ([] : List Reading)) p = 0 := by simp only [List.length_replicate] at hp; simp [Zdy, at_, hp]
  exact ⟨e.symm, fun i hi => by rw [e] at hi; exact absurd hi (Nat.not_lt_zero _)⟩
theorem Zdr {xs : List (List Reading)} {P m1 : Nat} {ys : List Reading} {f1 : Nat → List AV} (hP : P < xs.length) (hm : m1 = ys.length) (hf : ∀ i, i < m1 → f1 i = Zeg ys i) : xs.length = (xs.set P ys).length ∧ 2 = 2 ∧ ∀ p, p < (xs.set P ys).length → Zgk P m1 (Zdy xs) p = Zdy (xs.set P ys) p ∧ ∀ i, i < Zdy (xs.set P ys) p → Zem P f1 (Zdz xs) p i = Zdz (xs.set P ys) p i ∨ (AV.idsL (Zdz (xs.set P ys) p i) = [] ∧ leL (fun _ => none) false (Zem P f1 (Zdz xs) p i) (Zdz (xs.set P ys) p i)) := by
  refine ⟨by simp, rfl, fun p hp => ?_⟩
  by_cases h : p = P
  · subst h
    have e : at_ (xs.set p ys) p = ys := Ybx hP
    refine ⟨?_, fun i hi => .inl ?_⟩
    · simp only [Zgk, Nat.beq_refl, cond_true, Zdy, e]; exact hm
    · simp only [Zdy, e] at hi; simp only [Zem, Nat.beq_refl, cond_true, Zdz, e]; exact hf i (by omega)
  · have e : at_ (xs.set P ys) p = at_ xs p := Yby h
    have b := Zoh h
    refine ⟨?_, fun i hi => .inl ?_⟩
    · simp only [Zgk, b, cond_false, Zdy, e]
    · simp only [Zem, b, cond_false, Zdz, e]
end Go.Proofs.YtdinloamhmdgjaaGreatDoor.Ax
