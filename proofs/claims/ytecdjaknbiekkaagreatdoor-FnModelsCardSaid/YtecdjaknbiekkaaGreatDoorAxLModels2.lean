/- Contracts that the statement FnModels reaches, part 2. No conditions. -/
import Derived.Test.YtecdjaknbiekkaaGreatDoorAxLModels1
import Derived.LaidMore
import Derived.Lay
import Derived.Lib.IndexBytes
import Derived.Lib.ItoaNum
import Derived.Lib.ParseIntBCases
import Derived.Lib.ParseIntBTie
import Derived.Lib.SplitLaws
import Derived.OpenShut
import Derived.SevenTiedAt
import Derived.Stop.Joined
import Derived.Test.YtecdjaknbiekkaaGreatDoorAxBd
import Derived.Test.YtecdjaknbiekkaaGreatDoorAxIN
import Derived.Test.YtecdjaknbiekkaaGreatDoorAxS
namespace Go.Proofs.YtecdjaknbiekkaaGreatDoor.Ax
open Go.RowKit Go.ChangeShapes Go.WideShapes
set_option linter.unusedVariables false
set_option linter.unusedSimpArgs false


-- spec.l18Draw
theorem l18Draw_ok (s : l00Src) (most : Int) (hs : okSrc s) (ha : s.atx ≤ 3999999999999996000) (hmo : 0 ≤ most ∧ most ≤ 20) : ∃ (v : Model) (s' : l00Src), (okSrc s') ∧ (s'.code = s.code) ∧ (s.atx + 0 ≤ s'.atx ∧ s'.atx ≤ s.atx + 400) ∧ (okMod v) ∧ ((v.Bigrams.length : Int) ≤ most) ∧ CallOK Tryz.prog 54 [.ref 7001 0, I most] (lookO [(7001, bxl00Src s)]) true (agModelT v) (lookO [(7001, bxl00Src s')]) := by
  have hh : ∃ r : Model × l00Src, ((okSrc r.2) ∧ (r.2.code = s.code) ∧ (s.atx + 0 ≤ r.2.atx ∧ r.2.atx ≤ s.atx + 400) ∧ (okMod r.1) ∧ ((r.1.Bigrams.length : Int) ≤ most) ∧ (True)) ∧ CallOK Tryz.prog 54 [.ref 7001 0, I most] (lookO [(7001, bxl00Src s)]) true (agModelT r.1) (lookO [(7001, bxl00Src r.2)]) := by
    refine fn_okX (Φ := fun r : Model × l00Src => (okSrc r.2) ∧ (r.2.code = s.code) ∧ (s.atx + 0 ≤ r.2.atx ∧ r.2.atx ≤ s.atx + 400) ∧ (okMod r.1) ∧ ((r.1.Bigrams.length : Int) ≤ most) ∧ (True)) [(7001, bxl00Src s)] (fun r => [(7001, bxl00Src r.2)]) (fn := Tryz.f54) (nt := 38) Tryz.func54 rfl rfl (args := [.ref 7001 0, I most]) rfl (allcons (.inr trivial) (allcons (.inl ⟨rfl, trivial⟩) allnil)) (res := fun r => agModelT r.1) ?_
    refine xR [(0, .new 4)] [0, 1, 4] [4, 7001] [.ref 7001 0, I most, .ref 4 0] [some (.box [I 0, nilA]), some (bxl00Src s)] [] trivial ?_
    refine x_seq ?_
    obtain ⟨v_1, s'_1, hx1_0, hx1_1, hx1_2, hx1_3, hc1⟩ := pick_ok s 30 (by first | assumption | (simp only [okSrc] at *; simp_all; done)) (by omega)
    refine x_r [(1, .lend [(7001, bxl00Src s, bxl00Src s'_1)] [] [(true, .any), (true, .any)] true (I v_1)), (3, .new 5)] [0, 1, 4, 5] [4, 5, 7001] [.ref 7001 0, I most, .ref 4 0, .ref 5 0] [some (.box [I 0, nilA]), some (.box [I v_1, nilA]), some (bxl00Src s'_1)] [CallOK Tryz.prog 49 [.ref 7001 0, I 30] (lookO [(7001, bxl00Src s)]) true (I v_1) (lookO [(7001, bxl00Src s'_1)]) ∧ (((bxl00Src s : Ob) = bxl00Src s ∨ obLe noOb true (bxl00Src s) (bxl00Src s)) ∧ taggedO false (bxl00Src s)) ∧ True] ⟨⟨hc1, ⟨.inl rfl, (by simp [taggedO, taggedL, tagged, tagU8])⟩, trivial⟩, trivial⟩ ?_
    refine xe_then ?_
    refine x_seq ?_
    refine x_seq ?_
    obtain ⟨v_2, s'_2, hx2_0, hx2_1, hx2_2, hx2_3, hc2⟩ := pick_ok s'_1 (most + 1) (by first | assumption | (simp only [okSrc] at *; simp_all; done)) (by omega)
    refine x_r [(3, .lend [(7001, bxl00Src s'_1, bxl00Src s'_2)] [] [(true, .any), (true, .any)] true (I v_2))] [0, 4, 5, 6] [4, 5, 7001] [.ref 7001 0, .ref 4 0, .ref 5 0, I v_2] [some (.box [I 0, nilA]), some (.box [I v_1, nilA]), some (bxl00Src s'_2)] [inR .i64 (most + 1), CallOK Tryz.prog 49 [.ref 7001 0, I (most + 1)] (lookO [(7001, bxl00Src s'_1)]) true (I v_2) (lookO [(7001, bxl00Src s'_2)]) ∧ (((bxl00Src s'_1 : Ob) = bxl00Src s'_1 ∨ obLe noOb true (bxl00Src s'_1) (bxl00Src s'_1)) ∧ taggedO false (bxl00Src s'_1)) ∧ True] ⟨(inR_i64 (by omega) (by omega)), ⟨hc2, ⟨.inl rfl, (by simp [taggedO, taggedL, tagged, tagU8])⟩, trivial⟩, trivial⟩ ?_
    refine xe_then ?_
    refine x_block ?_
    refine x_weak [] (T := [(0, .ref 7001 0), (4, .ref 4 0), (5, .ref 5 0), (6, I v_2)]) (O := [(4, .box [I 0, nilA]), (5, .box [I ((Model.mk v_1 ([] : List Bigram)).Default), .sl true 3 ((Model.mk v_1 ([] : List Bigram)).Bigrams.length) (fBigram ((Model.mk v_1 ([] : List Bigram)).Bigrams))]), (7001, bxl00Src s'_2)]) rfl (⟨.inl rfl, .inl rfl, .inl rfl, .inl rfl, trivial⟩) (⟨.inl rfl, .inr ⟨(by first | rfl | (simp [valOf]; done) | (simp [valOf]; omega)), ⟨⟨rfl, rfl⟩, rfl⟩⟩, .inl rfl, trivial⟩) ?_
    refine x_loop (X := Int × Model × l00Src) (fun x => mkS [(0, .ref 7001 0), (4, .ref 4 0), (5, .ref 5 0), (6, I x.1)] [(4, .box [I 0, nilA]), (5, bxModelT x.2.1), (7001, bxl00Src x.2.2)]) (fun x => (okSrc x.2.2 ∧ x.2.2.code = s.code ∧ s.atx ≤ x.2.2.atx ∧ x.2.2.atx ≤ s.atx + 20 + 18 * (most - x.1)) ∧ (0 ≤ x.1 ∧ x.1 ≤ most) ∧ (okMod x.2.1) ∧ ((x.2.1.Bigrams.length : Int) + x.1 ≤ most) ∧ True) (fun x => x.1.toNat) (v_2, (Model.mk v_1 ([] : List Bigram)), s'_2) rfl (show (okSrc s'_2 ∧ s'_2.code = s.code ∧ s.atx ≤ s'_2.atx ∧ s'_2.atx ≤ s.atx + 20 + 18 * (most - v_2)) ∧ (0 ≤ v_2 ∧ v_2 ≤ most) ∧ (okMod (Model.mk v_1 ([] : List Bigram))) ∧ (((Model.mk v_1 ([] : List Bigram)).Bigrams.length : Int) + v_2 ≤ most) ∧ True from ⟨(by exact ⟨by assumption, by first | assumption | rfl | (simp only [*]; done), by omega, by omega⟩), (by omega), (by exact okMod_nil (by omega)), (by (simp; omega)), trivial⟩) (fun x hI => ?_)
    obtain ⟨k, out, src⟩ := x
    obtain ⟨hs0, hk0, hla, hno, _⟩ : (okSrc src ∧ src.code = s.code ∧ s.atx ≤ src.atx ∧ src.atx ≤ s.atx + 20 + 18 * (most - k)) ∧ (0 ≤ k ∧ k ≤ most) ∧ (okMod out) ∧ ((out.Bigrams.length : Int) + k ≤ most) ∧ True := hI
    show XW _ _ _ _ (mkS [(0, .ref 7001 0), (4, .ref 4 0), (5, .ref 5 0), (6, I k)] [(4, .box [I 0, nilA]), (5, bxModelT out), (7001, bxl00Src src)]) _ _
    refine x_seq ?_
    refine x_seq ?_
    by_cases h1 : 0 < k
    ·refine x_r [(1, .dec true)] [0, 4, 5, 6, 17] [4, 5, 7001] [.ref 7001 0, .ref 4 0, .ref 5 0, I k, Bv true] [some (.box [I 0, nilA]), some (bxModelT out), some (bxl00Src src)] [0 < k] ⟨h1, trivial⟩ ?_
     refine xe_then ?_
     refine x_true rfl ?_
     refine x_skip ?_
     refine xe_then ?_
     refine x_seq ?_
     refine x_block ?_
     refine x_seq ?_
     obtain ⟨v_3, hx3_0, hx3_1, hc3⟩ := l16Words_ok
     have hwa := hx3_0
     have hwb := hx3_1
     obtain ⟨v_4, s'_4, hx4_0, hx4_1, hx4_2, hx4_3, hx4_4, hc4⟩ := text_ok src v_3 (by first | assumption | (simp only [okSrc] at *; simp_all; done)) (by omega) hwa
     have hw_v_4 : okWord v_4 = true := hwb _ hx4_4
     refine x_r [(1, .call [] true (slS true v_3)), (2, .lend [(7001, bxl00Src src, bxl00Src s'_4)] [] [(true, .any), (false, slS false v_3)] true (Sv v_4))] [0, 4, 5, 6, 7] [4, 5, 7001] [.ref 7001 0, .ref 4 0, .ref 5 0, I k, Sv v_4] [some (.box [I 0, nilA]), some (bxModelT out), some (bxl00Src s'_4)] [Con Tryz.prog 52 [] true (slS true v_3) ∧ True, CallOK Tryz.prog 51 [.ref 7001 0, slS false v_3] (lookO [(7001, bxl00Src src)]) true (Sv v_4) (lookO [(7001, bxl00Src s'_4)]) ∧ ((false = true → true = true) ∧ 1 = 1 ∧ v_3.length = v_3.length ∧ ∀ i_, i_ < v_3.length → (fS v_3) i_ = (fS v_3) i_ ∨ (AV.idsL ((fS v_3) i_) = [] ∧ leL (fun _ => none) false ((fS v_3) i_) ((fS v_3) i_))) ∧ (((bxl00Src src : Ob) = bxl00Src src ∨ obLe noOb true (bxl00Src src) (bxl00Src src)) ∧ taggedO false (bxl00Src src)) ∧ True] ⟨⟨hc3, trivial⟩, ⟨hc4, ⟨(fun h => by cases h), rfl, rfl, fun i _ => .inl rfl⟩, ⟨.inl rfl, (by simp [taggedO, taggedL, tagged, tagU8])⟩, trivial⟩, trivial⟩ ?_
     refine xe_then ?_
     refine x_seq ?_
     refine x_seq ?_
     obtain ⟨v_5, s'_5, hx5_0, hx5_1, hx5_2, hc5⟩ := one_ok s'_4 4 (by first | assumption | (simp only [okSrc] at *; simp_all; done)) (by omega)
     rcases Bool.eq_false_or_eq_true v_5 with h2 | h2
     ·subst h2
      refine x_r [(1, .lend [(7001, bxl00Src s'_4, bxl00Src s'_5)] [] [(true, .any), (true, .any)] true (Bv true))] [0, 4, 5, 6, 7, 24] [4, 5, 7001] [.ref 7001 0, .ref 4 0, .ref 5 0, I k, Sv v_4, Bv true] [some (.box [I 0, nilA]), some (bxModelT out), some (bxl00Src s'_5)] [CallOK Tryz.prog 28 [.ref 7001 0, I 4] (lookO [(7001, bxl00Src s'_4)]) true (Bv true) (lookO [(7001, bxl00Src s'_5)]) ∧ (((bxl00Src s'_4 : Ob) = bxl00Src s'_4 ∨ obLe noOb true (bxl00Src s'_4) (bxl00Src s'_4)) ∧ taggedO false (bxl00Src s'_4)) ∧ True] ⟨⟨hc5, ⟨.inl rfl, (by simp [taggedO, taggedL, tagged, tagU8])⟩, trivial⟩, trivial⟩ ?_
      refine xe_then ?_
      refine x_true rfl ?_
      refine x_r [] [0, 4, 5, 6, 7] [4, 5, 7001] [.ref 7001 0, .ref 4 0, .ref 5 0, I k, Sv (⟨#[]⟩ : ByteArray)] [some (.box [I 0, nilA]), some (bxModelT out), some (bxl00Src s'_5)] [] trivial ?_
      refine xe_then ?_
      refine x_seq ?_
      obtain ⟨v_6, s'_6, hx6_0, hx6_1, hx6_2, hx6_3, hx6_4, hc6⟩ := text_ok s'_5 v_3 (by first | assumption | (simp only [okSrc] at *; simp_all; done)) (by omega) hwa
      have hw_v_6 : okWord v_6 = true := hwb _ hx6_4
      refine x_r [(1, .call [] true (slS true v_3)), (2, .lend [(7001, bxl00Src s'_5, bxl00Src s'_6)] [] [(true, .any), (false, slS false v_3)] true (Sv v_6))] [0, 4, 5, 6, 7, 8] [4, 5, 7001] [.ref 7001 0, .ref 4 0, .ref 5 0, I k, Sv (⟨#[]⟩ : ByteArray), Sv v_6] [some (.box [I 0, nilA]), some (bxModelT out), some (bxl00Src s'_6)] [Con Tryz.prog 52 [] true (slS true v_3) ∧ True, CallOK Tryz.prog 51 [.ref 7001 0, slS false v_3] (lookO [(7001, bxl00Src s'_5)]) true (Sv v_6) (lookO [(7001, bxl00Src s'_6)]) ∧ ((false = true → true = true) ∧ 1 = 1 ∧ v_3.length = v_3.length ∧ ∀ i_, i_ < v_3.length → (fS v_3) i_ = (fS v_3) i_ ∨ (AV.idsL ((fS v_3) i_) = [] ∧ leL (fun _ => none) false ((fS v_3) i_) ((fS v_3) i_))) ∧ (((bxl00Src s'_5 : Ob) = bxl00Src s'_5 ∨ obLe noOb true (bxl00Src s'_5) (bxl00Src s'_5)) ∧ taggedO false (bxl00Src s'_5)) ∧ True] ⟨⟨hc3, trivial⟩, ⟨hc6, ⟨(fun h => by cases h), rfl, rfl, fun i _ => .inl rfl⟩, ⟨.inl rfl, (by simp [taggedO, taggedL, tagged, tagU8])⟩, trivial⟩, trivial⟩ ?_
      refine xe_then ?_
      obtain ⟨v_7, s'_7, hx7_0, hx7_1, hx7_2, hx7_3, hc7⟩ := pick_ok s'_6 30 (by first | assumption | (simp only [okSrc] at *; simp_all; done)) (by omega)
      obtain ⟨v_8, hx8_0, hx8_1, hx8_2, hc8⟩ := l18Put_ok out.Bigrams (Bigram.mk (⟨#[]⟩ : ByteArray) v_6 v_7) hla.2.2.2 (by omega)
      have hput := mod_put hla (e := (Bigram.mk (⟨#[]⟩ : ByteArray) v_6 v_7)) ⟨by dsimp only; assumption, by dsimp only; first | exact .inl rfl | exact .inr (by assumption), by dsimp only; omega⟩ (by omega) hx8_0 hx8_1 hx8_2
      refine x_r [(5, .lend [(7001, bxl00Src s'_6, bxl00Src s'_7)] [] [(true, .any), (true, .any)] true (I v_7)), (7, .call [(false, slBigram false out.Bigrams), (true, .any)] true (slBigram true v_8))] [0, 4, 5, 6] [4, 5, 7001] [.ref 7001 0, .ref 4 0, .ref 5 0, I k] [some (.box [I 0, nilA]), some (.box [I out.Default, slBigram true v_8]), some (bxl00Src s'_7)] [CallOK Tryz.prog 49 [.ref 7001 0, I 30] (lookO [(7001, bxl00Src s'_6)]) true (I v_7) (lookO [(7001, bxl00Src s'_7)]) ∧ (((bxl00Src s'_6 : Ob) = bxl00Src s'_6 ∨ obLe noOb true (bxl00Src s'_6) (bxl00Src s'_6)) ∧ taggedO false (bxl00Src s'_6)) ∧ True, Con Tryz.prog 108 [slBigram false out.Bigrams, .agg [Sv (⟨#[]⟩ : ByteArray), Sv v_6, I v_7]] true (slBigram true v_8) ∧ ((false = true → true = true) ∧ 3 = 3 ∧ out.Bigrams.length = out.Bigrams.length ∧ ∀ i_, i_ < out.Bigrams.length → (fBigram out.Bigrams) i_ = (fBigram out.Bigrams) i_ ∨ (AV.idsL ((fBigram out.Bigrams) i_) = [] ∧ leL (fun _ => none) false ((fBigram out.Bigrams) i_) ((fBigram out.Bigrams) i_))) ∧ True] ⟨⟨hc7, ⟨.inl rfl, (by simp [taggedO, taggedL, tagged, tagU8])⟩, trivial⟩, ⟨hc8, ⟨(fun h => by cases h), rfl, rfl, fun i _ => .inl rfl⟩, trivial⟩, trivial⟩ ?_
      refine xe_block 1 ?_
      refine xe_then ?_
      refine x_r [] [0, 4, 5, 6] [4, 5, 7001] [.ref 7001 0, .ref 4 0, .ref 5 0, I (k - 1)] [some (.box [I 0, nilA]), some (.box [I out.Default, slBigram true v_8]), some (bxl00Src s'_7)] [inR .i64 (k - 1)] ⟨(inR_i64 (by omega) (by omega)), trivial⟩ ?_
      refine xe_weak [] (T := [(0, .ref 7001 0), (4, .ref 4 0), (5, .ref 5 0), (6, I (k - 1))]) (O := [(4, .box [I 0, nilA]), (5, .box [I ((Model.mk out.Default v_8).Default), .sl true 3 ((Model.mk out.Default v_8).Bigrams.length) (fBigram ((Model.mk out.Default v_8).Bigrams))]), (7001, bxl00Src s'_7)]) rfl (⟨.inl rfl, .inl rfl, .inl rfl, .inl rfl, trivial⟩) (⟨.inl rfl, .inr ⟨(by first | rfl | (simp [valOf]; done) | (simp [valOf]; omega)), ⟨⟨(fun _ => rfl), rfl, (by first | rfl | (simp; done) | (simp; omega) | omega), fun i_ hi_ => .inl (by first | rfl | fail)⟩, rfl⟩⟩, .inl rfl, trivial⟩) (xe_again ((k - 1), (Model.mk out.Default v_8), s'_7) rfl (show (okSrc s'_7 ∧ s'_7.code = s.code ∧ s.atx ≤ s'_7.atx ∧ s'_7.atx ≤ s.atx + 20 + 18 * (most - (k - 1))) ∧ (0 ≤ (k - 1) ∧ (k - 1) ≤ most) ∧ (okMod (Model.mk out.Default v_8)) ∧ (((Model.mk out.Default v_8).Bigrams.length : Int) + (k - 1) ≤ most) ∧ True from ⟨(by exact ⟨by assumption, by first | assumption | rfl | (simp only [*]; done), by omega, by omega⟩), (by omega), (by exact hput), (by (dsimp only; omega)), trivial⟩) (by first | (show ((k - 1).toNat : Nat) < k.toNat; omega) | (dsimp only; omega)))
     subst h2
     refine x_r [(1, .lend [(7001, bxl00Src s'_4, bxl00Src s'_5)] [] [(true, .any), (true, .any)] true (Bv false))] [0, 4, 5, 6, 7, 24] [4, 5, 7001] [.ref 7001 0, .ref 4 0, .ref 5 0, I k, Sv v_4, Bv false] [some (.box [I 0, nilA]), some (bxModelT out), some (bxl00Src s'_5)] [CallOK Tryz.prog 28 [.ref 7001 0, I 4] (lookO [(7001, bxl00Src s'_4)]) true (Bv false) (lookO [(7001, bxl00Src s'_5)]) ∧ (((bxl00Src s'_4 : Ob) = bxl00Src s'_4 ∨ obLe noOb true (bxl00Src s'_4) (bxl00Src s'_4)) ∧ taggedO false (bxl00Src s'_4)) ∧ True] ⟨⟨hc5, ⟨.inl rfl, (by simp [taggedO, taggedL, tagged, tagU8])⟩, trivial⟩, trivial⟩ ?_
     refine xe_then ?_
     refine x_false rfl ?_
     refine x_skip ?_
     refine xe_then ?_
     refine x_seq ?_
     obtain ⟨v_9, s'_9, hx9_0, hx9_1, hx9_2, hx9_3, hx9_4, hc9⟩ := text_ok s'_5 v_3 (by first | assumption | (simp only [okSrc] at *; simp_all; done)) (by omega) hwa
     have hw_v_9 : okWord v_9 = true := hwb _ hx9_4
     refine x_r [(1, .call [] true (slS true v_3)), (2, .lend [(7001, bxl00Src s'_5, bxl00Src s'_9)] [] [(true, .any), (false, slS false v_3)] true (Sv v_9))] [0, 4, 5, 6, 7, 8] [4, 5, 7001] [.ref 7001 0, .ref 4 0, .ref 5 0, I k, Sv v_4, Sv v_9] [some (.box [I 0, nilA]), some (bxModelT out), some (bxl00Src s'_9)] [Con Tryz.prog 52 [] true (slS true v_3) ∧ True, CallOK Tryz.prog 51 [.ref 7001 0, slS false v_3] (lookO [(7001, bxl00Src s'_5)]) true (Sv v_9) (lookO [(7001, bxl00Src s'_9)]) ∧ ((false = true → true = true) ∧ 1 = 1 ∧ v_3.length = v_3.length ∧ ∀ i_, i_ < v_3.length → (fS v_3) i_ = (fS v_3) i_ ∨ (AV.idsL ((fS v_3) i_) = [] ∧ leL (fun _ => none) false ((fS v_3) i_) ((fS v_3) i_))) ∧ (((bxl00Src s'_5 : Ob) = bxl00Src s'_5 ∨ obLe noOb true (bxl00Src s'_5) (bxl00Src s'_5)) ∧ taggedO false (bxl00Src s'_5)) ∧ True] ⟨⟨hc3, trivial⟩, ⟨hc9, ⟨(fun h => by cases h), rfl, rfl, fun i _ => .inl rfl⟩, ⟨.inl rfl, (by simp [taggedO, taggedL, tagged, tagU8])⟩, trivial⟩, trivial⟩ ?_
     refine xe_then ?_
     obtain ⟨v_10, s'_10, hx10_0, hx10_1, hx10_2, hx10_3, hc10⟩ := pick_ok s'_9 30 (by first | assumption | (simp only [okSrc] at *; simp_all; done)) (by omega)
     obtain ⟨v_11, hx11_0, hx11_1, hx11_2, hc11⟩ := l18Put_ok out.Bigrams (Bigram.mk v_4 v_9 v_10) hla.2.2.2 (by omega)
     have hput := mod_put hla (e := (Bigram.mk v_4 v_9 v_10)) ⟨by dsimp only; assumption, by dsimp only; first | exact .inl rfl | exact .inr (by assumption), by dsimp only; omega⟩ (by omega) hx11_0 hx11_1 hx11_2
     refine x_r [(5, .lend [(7001, bxl00Src s'_9, bxl00Src s'_10)] [] [(true, .any), (true, .any)] true (I v_10)), (7, .call [(false, slBigram false out.Bigrams), (true, .any)] true (slBigram true v_11))] [0, 4, 5, 6] [4, 5, 7001] [.ref 7001 0, .ref 4 0, .ref 5 0, I k] [some (.box [I 0, nilA]), some (.box [I out.Default, slBigram true v_11]), some (bxl00Src s'_10)] [CallOK Tryz.prog 49 [.ref 7001 0, I 30] (lookO [(7001, bxl00Src s'_9)]) true (I v_10) (lookO [(7001, bxl00Src s'_10)]) ∧ (((bxl00Src s'_9 : Ob) = bxl00Src s'_9 ∨ obLe noOb true (bxl00Src s'_9) (bxl00Src s'_9)) ∧ taggedO false (bxl00Src s'_9)) ∧ True, Con Tryz.prog 108 [slBigram false out.Bigrams, .agg [Sv v_4, Sv v_9, I v_10]] true (slBigram true v_11) ∧ ((false = true → true = true) ∧ 3 = 3 ∧ out.Bigrams.length = out.Bigrams.length ∧ ∀ i_, i_ < out.Bigrams.length → (fBigram out.Bigrams) i_ = (fBigram out.Bigrams) i_ ∨ (AV.idsL ((fBigram out.Bigrams) i_) = [] ∧ leL (fun _ => none) false ((fBigram out.Bigrams) i_) ((fBigram out.Bigrams) i_))) ∧ True] ⟨⟨hc10, ⟨.inl rfl, (by simp [taggedO, taggedL, tagged, tagU8])⟩, trivial⟩, ⟨hc11, ⟨(fun h => by cases h), rfl, rfl, fun i _ => .inl rfl⟩, trivial⟩, trivial⟩ ?_
     refine xe_block 1 ?_
     refine xe_then ?_
     refine x_r [] [0, 4, 5, 6] [4, 5, 7001] [.ref 7001 0, .ref 4 0, .ref 5 0, I (k - 1)] [some (.box [I 0, nilA]), some (.box [I out.Default, slBigram true v_11]), some (bxl00Src s'_10)] [inR .i64 (k - 1)] ⟨(inR_i64 (by omega) (by omega)), trivial⟩ ?_
     refine xe_weak [] (T := [(0, .ref 7001 0), (4, .ref 4 0), (5, .ref 5 0), (6, I (k - 1))]) (O := [(4, .box [I 0, nilA]), (5, .box [I ((Model.mk out.Default v_11).Default), .sl true 3 ((Model.mk out.Default v_11).Bigrams.length) (fBigram ((Model.mk out.Default v_11).Bigrams))]), (7001, bxl00Src s'_10)]) rfl (⟨.inl rfl, .inl rfl, .inl rfl, .inl rfl, trivial⟩) (⟨.inl rfl, .inr ⟨(by first | rfl | (simp [valOf]; done) | (simp [valOf]; omega)), ⟨⟨(fun _ => rfl), rfl, (by first | rfl | (simp; done) | (simp; omega) | omega), fun i_ hi_ => .inl (by first | rfl | fail)⟩, rfl⟩⟩, .inl rfl, trivial⟩) (xe_again ((k - 1), (Model.mk out.Default v_11), s'_10) rfl (show (okSrc s'_10 ∧ s'_10.code = s.code ∧ s.atx ≤ s'_10.atx ∧ s'_10.atx ≤ s.atx + 20 + 18 * (most - (k - 1))) ∧ (0 ≤ (k - 1) ∧ (k - 1) ≤ most) ∧ (okMod (Model.mk out.Default v_11)) ∧ (((Model.mk out.Default v_11).Bigrams.length : Int) + (k - 1) ≤ most) ∧ True from ⟨(by exact ⟨by assumption, by first | assumption | rfl | (simp only [*]; done), by omega, by omega⟩), (by omega), (by exact hput), (by (dsimp only; omega)), trivial⟩) (by first | (show ((k - 1).toNat : Nat) < k.toNat; omega) | (dsimp only; omega)))
    refine x_r [(1, .dec false)] [0, 4, 5, 6, 17] [4, 5, 7001] [.ref 7001 0, .ref 4 0, .ref 5 0, I k, Bv false] [some (.box [I 0, nilA]), some (bxModelT out), some (bxl00Src src)] [¬ (0 < k)] ⟨h1, trivial⟩ ?_
    refine xe_then ?_
    refine x_false rfl ?_
    refine x_exit ?_
    refine xe_exit_then ?_
    refine xe_loop_exit ?_
    refine xe_exit_same ?_
    refine xe_then ?_
    refine xR [] [4] [4, 7001] [.ref 4 0] [some (bxModelT out), some (bxl00Src src)] [] trivial ?_
    refine x_ret ?_
    refine xe_end (out, src) (show (okSrc src) ∧ (src.code = s.code) ∧ (s.atx + 0 ≤ src.atx ∧ src.atx ≤ s.atx + 400) ∧ (okMod out) ∧ ((out.Bigrams.length : Int) ≤ most) ∧ (True) from ⟨(by first | omega | assumption | exact hs0.1 | exact hs0.2.1), (by first | omega | assumption | exact hs0.1 | exact hs0.2.1), (by first | omega | assumption | exact hs0.1 | exact hs0.2.1), (by first | omega | assumption | exact hs0.1 | exact hs0.2.1), (by first | omega | assumption | exact hs0.1 | exact hs0.2.1), trivial⟩) (⟨.inl rfl, trivial⟩) (agModelT out) (by kernel_rfl) (.inl rfl) (fun _ => rfl) (fun _ => (by simp [tagged, taggedL, tagBigram]))
  obtain ⟨⟨v, s'⟩, ⟨hh0, hh1, hh2, hh3, hh4, _⟩, hc⟩ := hh
  exact ⟨v, s', hh0, hh1, hh2, hh3, hh4, hc⟩



-- spec.A2Sentence
theorem A2Sentence_ok (code : List Int) (hc : (∀ j, j < code.length → 0 ≤ at_ code j ∧ at_ code j ≤ 255) ∧ code.length ≤ 4611686018427387904) : ∃ (list : List Lattice) (x : Lexicon) (m : Model) (words : List ByteArray), ((list.length : Int) ≤ 8 ∧ ∀ l ∈ list, okLat l) ∧ (okLex x) ∧ (okMod m) ∧ (words.length = list.length ∧ (words.length : Int) ≤ 3) ∧ (∀ z ∈ words, okWord z = true) ∧ ((m.Bigrams.length : Int) ≤ 6) ∧ Con Tryz.prog 17 [slU8 false code] true (.tup [slLattice true list, .agg [slEntry true x.Entries], agModelT m, slS true words]) := by
  have hh : ∃ r : (List Lattice) × Lexicon × Model × (List ByteArray), (((r.1.length : Int) ≤ 8 ∧ ∀ l ∈ r.1, okLat l) ∧ (okLex r.2.1) ∧ (okMod r.2.2.1) ∧ (r.2.2.2.length = r.1.length ∧ (r.2.2.2.length : Int) ≤ 3) ∧ (∀ z ∈ r.2.2.2, okWord z = true) ∧ ((r.2.2.1.Bigrams.length : Int) ≤ 6) ∧ (True)) ∧ CallOK Tryz.prog 17 [slU8 false code] (lookO []) true (.tup [slLattice true r.1, .agg [slEntry true r.2.1.Entries], agModelT r.2.2.1, slS true r.2.2.2]) (lookO []) := by
    refine fn_okX (Φ := fun r : (List Lattice) × Lexicon × Model × (List ByteArray) => ((r.1.length : Int) ≤ 8 ∧ ∀ l ∈ r.1, okLat l) ∧ (okLex r.2.1) ∧ (okMod r.2.2.1) ∧ (r.2.2.2.length = r.1.length ∧ (r.2.2.2.length : Int) ≤ 3) ∧ (∀ z ∈ r.2.2.2, okWord z = true) ∧ ((r.2.2.1.Bigrams.length : Int) ≤ 6) ∧ (True)) [] (fun r => []) (fn := Tryz.f17) (nt := 39) Tryz.func17 rfl rfl (args := [slU8 false code]) rfl (allcons (.inl ⟨rfl, tagU8 false _⟩) allnil) (res := fun r => .tup [slLattice true r.1, .agg [slEntry true r.2.1.Entries], agModelT r.2.2.1, slS true r.2.2.2]) ?_
    refine xR [(1, .new 3), (2, .new 4)] [0, 3, 4] [3, 4] [slU8 false code, .ref 3 0, .ref 4 0] [some (.box [nilA]), some (.box [I 0, nilA])] [] trivial ?_
    refine x_seq ?_
    obtain ⟨s'_1, hx1_0, hc1⟩ := l00From_ok code
    refine x_r [(1, .lend [] [(7001, bxl00Src s'_1)] [(true, .any)] false (.ref 7001 0))] [3, 4, 6] [3, 4, 7001] [.ref 3 0, .ref 4 0, .ref 7001 0] [some (.box [nilA]), some (.box [I 0, nilA]), some (bxl00Src s'_1)] [CallOK Tryz.prog 27 [slU8 false code] (lookO []) false (.ref 7001 0) (lookO [(7001, bxl00Src s'_1)]) ∧ True] ⟨⟨hc1, trivial⟩, trivial⟩ ?_
    refine xe_then ?_
    refine xR [(0, .new 13)] [3, 4, 6, 7] [3, 4, 13, 7001] [.ref 3 0, .ref 4 0, .ref 7001 0, .arr 13] [some (.box [nilA]), some (.box [I 0, nilA]), some (.arr 2 0 (litF [] 2)), some (bxl00Src s'_1)] [] trivial ?_
    refine xR [(0, .new 14)] [3, 4, 6, 7, 8] [3, 4, 13, 14, 7001] [.ref 3 0, .ref 4 0, .ref 7001 0, .arr 13, .arr 14] [some (.box [nilA]), some (.box [I 0, nilA]), some (.arr 2 0 (litF [] 2)), some (.arr 1 0 (litF [] 1)), some (bxl00Src s'_1)] [] trivial ?_
    refine x_seq ?_
    refine x_seq ?_
    obtain ⟨v_2, s'_2, hx2_0, hx2_1, hx2_2, hx2_3, hc2⟩ := pick_ok s'_1 4 (by first | assumption | (simp only [okSrc] at *; simp_all; done)) (by omega)
    refine x_r [(1, .lend [(7001, bxl00Src s'_1, bxl00Src s'_2)] [] [(true, .any), (true, .any)] true (I v_2))] [3, 4, 6, 7, 8, 9] [3, 4, 13, 14, 7001] [.ref 3 0, .ref 4 0, .ref 7001 0, .arr 13, .arr 14, I v_2] [some (.box [nilA]), some (.box [I 0, nilA]), some (.arr 2 0 (litF [] 2)), some (.arr 1 0 (litF [] 1)), some (bxl00Src s'_2)] [CallOK Tryz.prog 49 [.ref 7001 0, I 4] (lookO [(7001, bxl00Src s'_1)]) true (I v_2) (lookO [(7001, bxl00Src s'_2)]) ∧ (((bxl00Src s'_1 : Ob) = bxl00Src s'_1 ∨ obLe noOb true (bxl00Src s'_1) (bxl00Src s'_1)) ∧ taggedO false (bxl00Src s'_1)) ∧ True] ⟨⟨hc2, ⟨.inl rfl, (by simp [taggedO, taggedL, tagged, tagU8])⟩, trivial⟩, trivial⟩ ?_
    refine xe_then ?_
    refine x_block ?_
    refine x_weak [] (T := [(3, .ref 3 0), (4, .ref 4 0), (6, .ref 7001 0), (7, .arr 13), (8, .arr 14), (9, I v_2)]) (O := [(3, .box [nilA]), (4, .box [I 0, nilA]), (13, tALattice true ([] : List Lattice)), (14, tAS ([] : List ByteArray)), (7001, bxl00Src s'_2)]) rfl (⟨.inl rfl, .inl rfl, .inl rfl, .inl rfl, .inl rfl, .inl rfl, trivial⟩) (⟨.inl rfl, .inl rfl, .inr ⟨rfl, (by first | rfl | (simp; done) | (simp; omega) | omega), fun i_ hi_ => absurd hi_ (Nat.not_lt_zero _)⟩, .inr ⟨rfl, (by first | rfl | (simp; done) | (simp; omega) | omega), fun i_ hi_ => absurd hi_ (Nat.not_lt_zero _)⟩, .inl rfl, trivial⟩) ?_
    refine x_loop (X := (List Lattice) × (List ByteArray) × Int × l00Src) (fun x => mkS [(3, .ref 3 0), (4, .ref 4 0), (6, .ref 7001 0), (7, .arr 13), (8, .arr 14), (9, I x.2.2.1)] [(3, .box [nilA]), (4, .box [I 0, nilA]), (13, tALattice true x.1), (14, tAS x.2.1), (7001, bxl00Src x.2.2.2)]) (fun x => (okSrc x.2.2.2 ∧ x.2.2.2.atx ≤ 1000 + 600 * (3 - x.2.2.1)) ∧ (0 ≤ x.2.2.1 ∧ x.2.2.1 ≤ 3) ∧ ((x.1.length : Int) + x.2.2.1 ≤ 3) ∧ (∀ l ∈ x.1, okLat l) ∧ (x.2.1.length = x.1.length) ∧ (∀ z ∈ x.2.1, okWord z = true) ∧ True) (fun x => x.2.2.1.toNat) (([] : List Lattice), ([] : List ByteArray), v_2, s'_2) rfl (show (okSrc s'_2 ∧ s'_2.atx ≤ 1000 + 600 * (3 - v_2)) ∧ (0 ≤ v_2 ∧ v_2 ≤ 3) ∧ ((([] : List Lattice).length : Int) + v_2 ≤ 3) ∧ (∀ l ∈ ([] : List Lattice), okLat l) ∧ (([] : List ByteArray).length = ([] : List Lattice).length) ∧ (∀ z ∈ ([] : List ByteArray), okWord z = true) ∧ True from ⟨(by first | assumption | (constructor <;> first | assumption | omega)), (by omega), (by simp; omega), (by simp), (by rfl), (by simp), trivial⟩) (fun x hI => ?_)
    obtain ⟨ls, ws, k, src⟩ := x
    obtain ⟨hs0, hk0, hl0, hz0, hw0, hw1, _⟩ : (okSrc src ∧ src.atx ≤ 1000 + 600 * (3 - k)) ∧ (0 ≤ k ∧ k ≤ 3) ∧ ((ls.length : Int) + k ≤ 3) ∧ (∀ l ∈ ls, okLat l) ∧ (ws.length = ls.length) ∧ (∀ z ∈ ws, okWord z = true) ∧ True := hI
    show XW _ _ _ _ (mkS [(3, .ref 3 0), (4, .ref 4 0), (6, .ref 7001 0), (7, .arr 13), (8, .arr 14), (9, I k)] [(3, .box [nilA]), (4, .box [I 0, nilA]), (13, tALattice true ls), (14, tAS ws), (7001, bxl00Src src)]) _ _
    refine x_seq ?_
    refine x_seq ?_
    by_cases h1 : 0 < k
    ·refine x_r [(1, .dec true)] [3, 4, 6, 7, 8, 9, 18] [3, 4, 13, 14, 7001] [.ref 3 0, .ref 4 0, .ref 7001 0, .arr 13, .arr 14, I k, Bv true] [some (.box [nilA]), some (.box [I 0, nilA]), some (tALattice true ls), some (tAS ws), some (bxl00Src src)] [0 < k] ⟨h1, trivial⟩ ?_
     refine xe_then ?_
     refine x_true rfl ?_
     refine x_skip ?_
     refine xe_then ?_
     refine x_seq ?_
     refine x_block ?_
     refine x_seq ?_
     obtain ⟨v_3, s'_3, hx3_0, hx3_1, hx3_2, hx3_3, hc3⟩ := l15Draw_ok src 4 (by first | assumption | (simp only [okSrc] at *; simp_all; done)) (by omega) (by omega)
     have hlt : okLat v_3 := hx3_3
     refine x_r [(2, .lend [(7001, bxl00Src src, bxl00Src s'_3)] [] [(true, .any), (true, .any)] true (agLatticeT v_3)), (3, .new 24), (4, .new 25)] [3, 4, 6, 7, 8, 9] [3, 4, 14, 25, 7001] [.ref 3 0, .ref 4 0, .ref 7001 0, .arr 25, .arr 14, I k] [some (.box [nilA]), some (.box [I 0, nilA]), some (tAS ws), some (.arr 2 (ls.length + 1) (catF ls.length (fLattice true ls) (litF [I v_3.Nodes, slEdge true v_3.Edges] 2))), some (bxl00Src s'_3)] [CallOK Tryz.prog 50 [.ref 7001 0, I 4] (lookO [(7001, bxl00Src src)]) true (agLatticeT v_3) (lookO [(7001, bxl00Src s'_3)]) ∧ (((bxl00Src src : Ob) = bxl00Src src ∨ obLe noOb true (bxl00Src src) (bxl00Src src)) ∧ taggedO false (bxl00Src src)) ∧ True, (ls.length + 1) * 32 ≤ 140737488355328] ⟨⟨hc3, ⟨.inl rfl, (by simp [taggedO, taggedL, tagged, tagU8])⟩, trivial⟩, (by omega), trivial⟩ ?_
     refine xe_then ?_
     refine x_weak [] (T := [(3, .ref 3 0), (4, .ref 4 0), (6, .ref 7001 0), (7, .arr 25), (8, .arr 14), (9, I k)]) (O := [(3, .box [nilA]), (4, .box [I 0, nilA]), (14, tAS ws), (25, tALattice true (ls ++ [v_3])), (7001, bxl00Src s'_3)]) rfl (⟨.inl rfl, .inl rfl, .inl rfl, .inl rfl, .inl rfl, .inl rfl, trivial⟩) (⟨.inl rfl, .inl rfl, .inl rfl, .inr ⟨rfl, (by first | rfl | (simp; done) | (simp; omega) | omega), fun i_ hi_ => .inl (cat_snoc (enc := (cLattice true)) (xs := ls) rfl i_ hi_)⟩, .inl rfl, trivial⟩) ?_
     obtain ⟨v_4, hx4_0, hx4_1, hc4⟩ := l16Words_ok
     have hwa := hx4_0
     have hwb := hx4_1
     obtain ⟨v_5, s'_5, hx5_0, hx5_1, hx5_2, hx5_3, hx5_4, hc5⟩ := text_ok s'_3 v_4 (by first | assumption | (simp only [okSrc] at *; simp_all; done)) (by omega) hwa
     have hw_v_5 : okWord v_5 = true := hwb _ hx5_4
     refine x_r [(2, .call [] true (slS true v_4)), (3, .lend [(7001, bxl00Src s'_3, bxl00Src s'_5)] [] [(true, .any), (false, slS false v_4)] true (Sv v_5)), (4, .new 30), (5, .new 31)] [3, 4, 6, 7, 8, 9] [3, 4, 25, 31, 7001] [.ref 3 0, .ref 4 0, .ref 7001 0, .arr 25, .arr 31, I k] [some (.box [nilA]), some (.box [I 0, nilA]), some (tALattice true (ls ++ [v_3])), some (.arr 1 (ws.length + 1) (catF ws.length (fS ws) (litF [Sv v_5] 1))), some (bxl00Src s'_5)] [Con Tryz.prog 52 [] true (slS true v_4) ∧ True, CallOK Tryz.prog 51 [.ref 7001 0, slS false v_4] (lookO [(7001, bxl00Src s'_3)]) true (Sv v_5) (lookO [(7001, bxl00Src s'_5)]) ∧ ((false = true → true = true) ∧ 1 = 1 ∧ v_4.length = v_4.length ∧ ∀ i_, i_ < v_4.length → (fS v_4) i_ = (fS v_4) i_ ∨ (AV.idsL ((fS v_4) i_) = [] ∧ leL (fun _ => none) false ((fS v_4) i_) ((fS v_4) i_))) ∧ (((bxl00Src s'_3 : Ob) = bxl00Src s'_3 ∨ obLe noOb true (bxl00Src s'_3) (bxl00Src s'_3)) ∧ taggedO false (bxl00Src s'_3)) ∧ True, (ws.length + 1) * 16 ≤ 140737488355328] ⟨⟨hc4, trivial⟩, ⟨hc5, ⟨(fun h => by cases h), rfl, rfl, fun i _ => .inl rfl⟩, ⟨.inl rfl, (by simp [taggedO, taggedL, tagged, tagU8])⟩, trivial⟩, (by omega), trivial⟩ ?_
     refine xe_block 1 ?_
     refine xe_then ?_
     refine x_weak [] (T := [(3, .ref 3 0), (4, .ref 4 0), (6, .ref 7001 0), (7, .arr 25), (8, .arr 31), (9, I k)]) (O := [(3, .box [nilA]), (4, .box [I 0, nilA]), (25, tALattice true (ls ++ [v_3])), (31, tAS (ws ++ [v_5])), (7001, bxl00Src s'_5)]) rfl (⟨.inl rfl, .inl rfl, .inl rfl, .inl rfl, .inl rfl, .inl rfl, trivial⟩) (⟨.inl rfl, .inl rfl, .inl rfl, .inr ⟨rfl, (by first | rfl | (simp; done) | (simp; omega) | omega), fun i_ hi_ => .inl (cat_snoc (enc := cS) (xs := ws) rfl i_ hi_)⟩, .inl rfl, trivial⟩) ?_
     refine x_r [] [3, 4, 6, 7, 8, 9] [3, 4, 25, 31, 7001] [.ref 3 0, .ref 4 0, .ref 7001 0, .arr 25, .arr 31, I (k - 1)] [some (.box [nilA]), some (.box [I 0, nilA]), some (tALattice true (ls ++ [v_3])), some (tAS (ws ++ [v_5])), some (bxl00Src s'_5)] [inR .i64 (k - 1)] ⟨(inR_i64 (by omega) (by omega)), trivial⟩ ?_
     refine xe_weak [(13, 25), (14, 31)] (T := [(3, .ref 3 0), (4, .ref 4 0), (6, .ref 7001 0), (7, .arr 13), (8, .arr 14), (9, I (k - 1))]) (O := [(3, .box [nilA]), (4, .box [I 0, nilA]), (13, tALattice true (ls ++ [v_3])), (14, tAS (ws ++ [v_5])), (7001, bxl00Src s'_5)]) rfl (⟨.inl rfl, .inl rfl, .inl rfl, .inl rfl, .inl rfl, .inl rfl, trivial⟩) (⟨.inl rfl, .inl rfl, .inl rfl, .inl rfl, .inl rfl, trivial⟩) (xe_again ((ls ++ [v_3]), (ws ++ [v_5]), (k - 1), s'_5) rfl (show (okSrc s'_5 ∧ s'_5.atx ≤ 1000 + 600 * (3 - (k - 1))) ∧ (0 ≤ (k - 1) ∧ (k - 1) ≤ 3) ∧ (((ls ++ [v_3]).length : Int) + (k - 1) ≤ 3) ∧ (∀ l ∈ (ls ++ [v_3]), okLat l) ∧ ((ws ++ [v_5]).length = (ls ++ [v_3]).length) ∧ (∀ z ∈ (ws ++ [v_5]), okWord z = true) ∧ True from ⟨(by constructor <;> first | assumption | omega), (by omega), (by simp; omega), (by intro l hl; rcases List.mem_append.1 hl with hl | hl; (exact hz0 l hl); (simp only [List.mem_singleton] at hl; subst hl; assumption)), (by simp [hw0]), (by intro l hl; rcases List.mem_append.1 hl with hl | hl; (exact hw1 l hl); (simp only [List.mem_singleton] at hl; subst hl; assumption)), trivial⟩) (by first | (show ((k - 1).toNat : Nat) < k.toNat; omega) | (dsimp only; omega)))
    refine x_r [(1, .dec false)] [3, 4, 6, 7, 8, 9, 18] [3, 4, 13, 14, 7001] [.ref 3 0, .ref 4 0, .ref 7001 0, .arr 13, .arr 14, I k, Bv false] [some (.box [nilA]), some (.box [I 0, nilA]), some (tALattice true ls), some (tAS ws), some (bxl00Src src)] [¬ (0 < k)] ⟨h1, trivial⟩ ?_
    refine xe_then ?_
    refine x_false rfl ?_
    refine x_exit ?_
    refine xe_exit_then ?_
    refine xe_loop_exit ?_
    refine xe_exit_same ?_
    refine xe_then ?_
    refine x_seq ?_
    obtain ⟨v_6, s'_6, hx6_0, hx6_1, hx6_2, hx6_3, hc6⟩ := l16Draw_ok src 16 (by first | assumption | (simp only [okSrc] at *; simp_all; done)) (by omega) (by omega)
    refine x_r [(1, .lend [(7001, bxl00Src src, bxl00Src s'_6)] [] [(true, .any), (true, .any)] true (.agg [slEntry true v_6.Entries])), (2, .new 10)] [3, 4, 6, 7, 8, 10] [3, 4, 10, 13, 14, 7001] [.ref 3 0, .ref 4 0, .ref 7001 0, .arr 13, .arr 14, .ref 10 0] [some (.box [nilA]), some (.box [I 0, nilA]), some (.box [slEntry true v_6.Entries]), some (tALattice true ls), some (tAS ws), some (bxl00Src s'_6)] [CallOK Tryz.prog 53 [.ref 7001 0, I 16] (lookO [(7001, bxl00Src src)]) true (.agg [slEntry true v_6.Entries]) (lookO [(7001, bxl00Src s'_6)]) ∧ (((bxl00Src src : Ob) = bxl00Src src ∨ obLe noOb true (bxl00Src src) (bxl00Src src)) ∧ taggedO false (bxl00Src src)) ∧ True] ⟨⟨hc6, ⟨.inl rfl, (by simp [taggedO, taggedL, tagged, tagU8])⟩, trivial⟩, trivial⟩ ?_
    refine xe_then ?_
    refine x_seq ?_
    obtain ⟨v_7, s'_7, hx7_0, hx7_1, hx7_2, hx7_3, hx7_4, hc7⟩ := l18Draw_ok s'_6 6 (by first | assumption | (simp only [okSrc] at *; simp_all; done)) (by omega) (by omega)
    refine x_r [(3, .lend [(7001, bxl00Src s'_6, bxl00Src s'_7)] [] [(true, .any), (true, .any)] true (agModelT v_7))] [2, 3, 4, 5] [3, 4, 13, 14] [.arr 13, .ref 3 0, .ref 4 0, .arr 14] [some (.box [slEntry true v_6.Entries]), some (bxModelT v_7), some (tALattice true ls), some (tAS ws)] [CallOK Tryz.prog 54 [.ref 7001 0, I 6] (lookO [(7001, bxl00Src s'_6)]) true (agModelT v_7) (lookO [(7001, bxl00Src s'_7)]) ∧ (((bxl00Src s'_6 : Ob) = bxl00Src s'_6 ∨ obLe noOb true (bxl00Src s'_6) (bxl00Src s'_6)) ∧ taggedO false (bxl00Src s'_6)) ∧ True] ⟨⟨hc7, ⟨.inl rfl, (by simp [taggedO, taggedL, tagged, tagU8])⟩, trivial⟩, trivial⟩ ?_
    refine xe_then ?_
    refine x_ret ?_
    refine xe_end (ls, v_6, v_7, ws) (show ((ls.length : Int) ≤ 8 ∧ ∀ l ∈ ls, okLat l) ∧ (okLex v_6) ∧ (okMod v_7) ∧ (ws.length = ls.length ∧ (ws.length : Int) ≤ 3) ∧ (∀ z ∈ ws, okWord z = true) ∧ ((v_7.Bigrams.length : Int) ≤ 6) ∧ (True) from ⟨(by first | assumption | omega | exact ⟨by omega, hz0⟩ | exact ⟨by omega, by omega⟩), (by first | assumption | omega | exact ⟨by omega, hz0⟩ | exact ⟨by omega, by omega⟩), (by first | assumption | omega | exact ⟨by omega, hz0⟩ | exact ⟨by omega, by omega⟩), (by first | assumption | omega | exact ⟨by omega, hz0⟩ | exact ⟨by omega, by omega⟩), (by first | assumption | omega | exact ⟨by omega, hz0⟩ | exact ⟨by omega, by omega⟩), (by first | assumption | omega | exact ⟨by omega, hz0⟩ | exact ⟨by omega, by omega⟩), trivial⟩) (trivial) (.tup [.arr 13, .agg [slEntry true v_6.Entries], agModelT v_7, .arr 14]) (by kernel_rfl) (.inr ⟨⟨(fun _ => rfl), rfl, rfl, fun i _ => .inl rfl⟩, ⟨⟨⟨(fun _ => rfl), rfl, rfl, fun i _ => .inl rfl⟩, rfl⟩, ⟨⟨rfl, ⟨⟨(fun _ => rfl), rfl, rfl, fun i _ => .inl rfl⟩, rfl⟩⟩, ⟨⟨(fun _ => rfl), rfl, rfl, fun i _ => .inl rfl⟩, rfl⟩⟩⟩⟩) (fun _ => rfl) (fun _ => (by simp [tagged, taggedL, tagBigram, tagEntry, tagLattice, tagS]))
  obtain ⟨⟨list, x, m, words⟩, ⟨hh0, hh1, hh2, hh3, hh4, hh5, _⟩, hc⟩ := hh
  exact ⟨list, x, m, words, hh0, hh1, hh2, hh3, hh4, hh5, hc⟩



-- spec.A2Word
theorem A2Word_ok (code : List Int) (hc : (∀ j, j < code.length → 0 ≤ at_ code j ∧ at_ code j ≤ 255) ∧ code.length ≤ 4611686018427387904) : ∃ (v : ByteArray), (okWord v = true) ∧ Con Tryz.prog 18 [slU8 false code] true (Sv v) := by
  have hh : ∃ r : ByteArray, ((okWord r = true) ∧ (True)) ∧ CallOK Tryz.prog 18 [slU8 false code] (lookO []) true (Sv r) (lookO []) := by
    refine fn_okX (Φ := fun r : ByteArray => (okWord r = true) ∧ (True)) [] (fun r => []) (fn := Tryz.f18) (nt := 7) Tryz.func18 rfl rfl (args := [slU8 false code]) rfl (allcons (.inl ⟨rfl, tagU8 false _⟩) allnil) (res := fun r => Sv r) ?_
    refine xR [] [0] [] [slU8 false code] [] [] trivial ?_
    refine x_seq ?_
    obtain ⟨s'_1, hx1_0, hc1⟩ := l00From_ok code
    obtain ⟨v_2, hx2_0, hx2_1, hc2⟩ := l16Words_ok
    have hwa := hx2_0
    have hwb := hx2_1
    obtain ⟨v_3, s'_3, hx3_0, hx3_1, hx3_2, hx3_3, hx3_4, hc3⟩ := text_ok s'_1 v_2 (by first | assumption | (simp only [okSrc] at *; simp_all; done)) (by omega) hwa
    have hw_v_3 : okWord v_3 = true := hwb _ hx3_4
    refine x_r [(1, .lend [] [(7001, bxl00Src s'_1)] [(true, .any)] false (.ref 7001 0)), (2, .call [] true (slS true v_2)), (3, .lend [(7001, bxl00Src s'_1, bxl00Src s'_3)] [] [(true, .any), (false, slS false v_2)] true (Sv v_3))] [2] [] [Sv v_3] [] [CallOK Tryz.prog 27 [slU8 false code] (lookO []) false (.ref 7001 0) (lookO [(7001, bxl00Src s'_1)]) ∧ True, Con Tryz.prog 52 [] true (slS true v_2) ∧ True, CallOK Tryz.prog 51 [.ref 7001 0, slS false v_2] (lookO [(7001, bxl00Src s'_1)]) true (Sv v_3) (lookO [(7001, bxl00Src s'_3)]) ∧ ((false = true → true = true) ∧ 1 = 1 ∧ v_2.length = v_2.length ∧ ∀ i_, i_ < v_2.length → (fS v_2) i_ = (fS v_2) i_ ∨ (AV.idsL ((fS v_2) i_) = [] ∧ leL (fun _ => none) false ((fS v_2) i_) ((fS v_2) i_))) ∧ (((bxl00Src s'_1 : Ob) = bxl00Src s'_1 ∨ obLe noOb true (bxl00Src s'_1) (bxl00Src s'_1)) ∧ taggedO false (bxl00Src s'_1)) ∧ True] ⟨⟨hc1, trivial⟩, ⟨hc2, trivial⟩, ⟨hc3, ⟨(fun h => by cases h), rfl, rfl, fun i _ => .inl rfl⟩, ⟨.inl rfl, (by simp [taggedO, taggedL, tagged, tagU8])⟩, trivial⟩, trivial⟩ ?_
    refine xe_then ?_
    refine x_ret ?_
    refine xe_end v_3 (show (okWord v_3 = true) ∧ (True) from ⟨(by assumption), trivial⟩) (trivial) (Sv v_3) (by kernel_rfl) (.inl rfl) (fun _ => rfl) (fun _ => trivial)
  obtain ⟨v, ⟨hh0, _⟩, hc⟩ := hh
  exact ⟨v, hh0, hc⟩



-- impl.isLetter
theorem isLetter_ok (c : Int) : Con Tryz.prog 113 [.val (.int .u8 c)] true (Bv (inB c 97 122)) := by
  refine fn_ok (fn := Tryz.f113) (nt := 9) Tryz.func113 rfl rfl rfl rfl (by simp [taggedL, tagged]) fun B hB => ?_
  refine aR [] [0] [] [.val (.int .u8 c)] [] [] hB trivial ?_
  refine aw_seq ?_
  by_cases h1 : 97 ≤ c
  ·refine aw_r [(1, .dec true)] [2] [] [Bv (decide (c ≤ 122))] [] [97 ≤ c] hB ⟨h1, trivial⟩ ?_
   refine ae_then ?_
   refine aw_ret ?_
   refine ae_ret hB (Bv (decide (c ≤ 122))) (by kernel_rfl) (.inl (by first | rfl | (refine congrArg Bv ?_; simp [inB, *]; done) | (refine congrArg Bv ?_; simp [inB, *]; omega) | (refine congrArg Bv ?_; simp_all [inB]; done) | (refine congrArg Bv ?_; simp_all [inB]; omega))) rfl (fun _ => trivial)
  refine aw_r [(1, .dec false)] [2] [] [Bv false] [] [¬ (97 ≤ c)] hB ⟨h1, trivial⟩ ?_
  refine ae_then ?_
  refine aw_ret ?_
  refine ae_ret hB (Bv false) (by kernel_rfl) (.inl (by first | rfl | (refine congrArg Bv ?_; simp [inB, *]; done) | (refine congrArg Bv ?_; simp [inB, *]; omega) | (refine congrArg Bv ?_; simp_all [inB]; done) | (refine congrArg Bv ?_; simp_all [inB]; omega))) rfl (fun _ => trivial)



-- impl.IsWord
theorem IsWord_ok (s : ByteArray) (hs : s.size ≤ 1000) : Con Tryz.prog 61 [Sv s] true (Bv (okWord s)) := by
  refine fn_ok (fn := Tryz.f61) (nt := 24) Tryz.func61 rfl rfl rfl rfl (by simp [taggedL, tagged]) fun B hB => ?_
  refine aR [] [0] [] [Sv s] [] [] hB trivial ?_
  refine aw_seq ?_
  refine aR [] [0, 6, 7, 8] [] [Sv s, .sl true 1 s.size (byteF s), I (s.size : Int), I 0] [] [s.size ≤ 140737488355328] hB ⟨(by omega), trivial⟩ ?_
  refine aw_block ?_
  refine aw_loop (fun gn gσ => ∃ (t8 : Int), gn = ((s.size : Int) - t8).toNat ∧ (0 ≤ t8 ∧ t8 ≤ (s.size : Int)) ∧ (∀ j : Nat, (j : Int) < t8 → letB (bAt s j) = true) ∧ gσ = mkS [(0, Sv s), (6, .sl true 1 s.size (byteF s)), (7, I (s.size : Int)), (8, I t8)] []) (((s.size : Int) - 0).toNat) ⟨0, rfl, (by omega), (by intro j hj; omega), rfl⟩ (fun gn gσ hI => ?_)
  obtain ⟨t8, rfl, hi0, hz0, rfl⟩ := hI
  refine aw_seq ?_
  by_cases h1 : t8 < (s.size : Int)
  ·refine aw_r [(0, .dec true)] [0, 6, 7, 8, 9] [] [Sv s, .sl true 1 s.size (byteF s), I (s.size : Int), I t8, Bv true] [] [t8 < (s.size : Int)] hB ⟨h1, trivial⟩ ?_
   refine ae_then ?_
   refine aw_seq ?_
   refine aw_true rfl ?_
   refine aw_skip ?_
   refine ae_then ?_
   refine aw_seq ?_
   refine aw_block ?_
   refine aR [] [0, 4, 6, 7, 8] [] [Sv s, .val (.int .u8 (bAt s t8.toNat)), .sl true 1 s.size (byteF s), I (s.size : Int), I t8] [] [(0 : Int) ≤ t8 ∧ t8 < (s.size : Int)] hB ⟨⟨(by omega), (by omega)⟩, trivial⟩ ?_
   refine aw_seq ?_
   rcases Bool.eq_false_or_eq_true (inB (bAt s t8.toNat) 97 122) with h2 | h2
   ·refine aw_r [(1, .call [(true, .any)] true (Bv true))] [0, 6, 7, 8, 14] [] [Sv s, .sl true 1 s.size (byteF s), I (s.size : Int), I t8, Bv false] [] [Con Tryz.prog 113 [.val (.int .u8 (bAt s t8.toNat))] true (Bv true) ∧ True] hB ⟨⟨(con_bool h2 (isLetter_ok (bAt s t8.toNat))), trivial⟩, trivial⟩ ?_
    refine ae_then ?_
    refine aw_false rfl ?_
    refine aw_skip ?_
    refine ae_block 1 ?_
    refine ae_then ?_
    refine aw_r [] [0, 6, 7, 8] [] [Sv s, .sl true 1 s.size (byteF s), I (s.size : Int), I (t8 + 1)] [] [inR .i64 (t8 + 1)] hB ⟨(inR_i64 (by omega) (by omega)), trivial⟩ ?_
    exact ae_again _ (by omega) ⟨(t8 + 1), rfl, (by omega), (by intro j hj; by_cases ej : j = t8.toNat; (subst ej; assumption); exact hz0 j (by omega)), rfl⟩
   refine aw_r [(1, .call [(true, .any)] true (Bv false))] [0, 6, 7, 8, 14] [] [Sv s, .sl true 1 s.size (byteF s), I (s.size : Int), I t8, Bv true] [] [Con Tryz.prog 113 [.val (.int .u8 (bAt s t8.toNat))] true (Bv false) ∧ True] hB ⟨⟨(con_bool h2 (isLetter_ok (bAt s t8.toNat))), trivial⟩, trivial⟩ ?_
   refine ae_then ?_
   refine aw_true rfl ?_
   refine aR [] [2] [] [Bv false] [] [] hB trivial ?_
   refine aw_ret ?_
   refine ae_ret_block (ae_ret_then (ae_ret_then (ae_ret_block (ae_ret_then ?_))))
   refine ae_ret hB (Bv false) (by kernel_rfl) (.inl (by first | (refine congrArg Bv ?_; rw [okWord_sz (fun j hj => hz0 j (by omega))]; first | exact decide_eq_decide.2 ⟨fun _ => by omega, fun _ => by omega⟩ | exact (decide_eq_true (by omega)).symm | exact (decide_eq_false (by omega)).symm | (simp; omega)) | (refine congrArg Bv ?_; exact (okWord_no (j := t8.toNat) (by omega) (by assumption)).symm))) rfl (fun _ => trivial)
  refine aw_r [(0, .dec false)] [0, 6, 7, 8, 9] [] [Sv s, .sl true 1 s.size (byteF s), I (s.size : Int), I t8, Bv false] [] [¬ (t8 < (s.size : Int))] hB ⟨h1, trivial⟩ ?_
  refine ae_then ?_
  refine aw_seq ?_
  refine aw_false rfl ?_
  refine aw_exit ?_
  refine ae_exit_then ?_
  refine ae_exit_then ?_
  refine ae_exit_same ?_
  refine ae_then ?_
  refine aw_seq ?_
  by_cases h3 : 1 ≤ (s.size : Int)
  ·refine aw_r [(2, .dec true)] [2] [] [Bv (decide ((s.size : Int) ≤ 10))] [] [1 ≤ (s.size : Int)] hB ⟨h3, trivial⟩ ?_
   refine ae_then ?_
   refine aw_ret ?_
   refine ae_ret hB (Bv (decide ((s.size : Int) ≤ 10))) (by kernel_rfl) (.inl (by first | (refine congrArg Bv ?_; rw [okWord_sz (fun j hj => hz0 j (by omega))]; first | exact decide_eq_decide.2 ⟨fun _ => by omega, fun _ => by omega⟩ | exact (decide_eq_true (by omega)).symm | exact (decide_eq_false (by omega)).symm | (simp; omega)) | (refine congrArg Bv ?_; exact (okWord_no (j := t8.toNat) (by omega) (by assumption)).symm))) rfl (fun _ => trivial)
  refine aw_r [(2, .dec false)] [2] [] [Bv false] [] [¬ (1 ≤ (s.size : Int))] hB ⟨h3, trivial⟩ ?_
  refine ae_then ?_
  refine aw_ret ?_
  refine ae_ret hB (Bv false) (by kernel_rfl) (.inl (by first | (refine congrArg Bv ?_; rw [okWord_sz (fun j hj => hz0 j (by omega))]; first | exact decide_eq_decide.2 ⟨fun _ => by omega, fun _ => by omega⟩ | exact (decide_eq_true (by omega)).symm | exact (decide_eq_false (by omega)).symm | (simp; omega)) | (refine congrArg Bv ?_; exact (okWord_no (j := t8.toNat) (by omega) (by assumption)).symm))) rfl (fun _ => trivial)



-- impl.within
theorem within_ok (n : Int) (low : Int) (high : Int) : Con Tryz.prog 117 [I n, I low, I high] true (Bv (inB n low high)) := by
  refine fn_ok (fn := Tryz.f117) (nt := 15) Tryz.func117 rfl rfl rfl rfl (by simp [taggedL, tagged]) fun B hB => ?_
  refine aR [] [0, 1, 2] [] [I n, I low, I high] [] [] hB trivial ?_
  refine aw_seq ?_
  by_cases h1 : low ≤ n
  ·refine aw_r [(2, .dec true)] [6] [] [Bv (decide (n ≤ high))] [] [low ≤ n] hB ⟨h1, trivial⟩ ?_
   refine ae_then ?_
   refine aw_ret ?_
   refine ae_ret hB (Bv (decide (n ≤ high))) (by kernel_rfl) (.inl (by first | rfl | (refine congrArg Bv ?_; simp [inB, *]; done) | (refine congrArg Bv ?_; simp [inB, *]; omega) | (refine congrArg Bv ?_; simp_all [inB]; done) | (refine congrArg Bv ?_; simp_all [inB]; omega))) rfl (fun _ => trivial)
  refine aw_r [(2, .dec false)] [6] [] [Bv false] [] [¬ (low ≤ n)] hB ⟨h1, trivial⟩ ?_
  refine ae_then ?_
  refine aw_ret ?_
  refine ae_ret hB (Bv false) (by kernel_rfl) (.inl (by first | rfl | (refine congrArg Bv ?_; simp [inB, *]; done) | (refine congrArg Bv ?_; simp [inB, *]; omega) | (refine congrArg Bv ?_; simp_all [inB]; done) | (refine congrArg Bv ?_; simp_all [inB]; omega))) rfl (fun _ => trivial)



-- impl.isCost
theorem isCost_ok (n : Int) : Con Tryz.prog 69 [I n] true (Bv (inB n 0 1000000)) := by
  refine fn_ok (fn := Tryz.f69) (nt := 5) Tryz.func69 rfl rfl rfl rfl (by simp [taggedL, tagged]) fun B hB => ?_
  refine aR [] [0] [] [I n] [] [] hB trivial ?_
  refine aR [(1, .call [(true, .any), (true, .any), (true, .any)] true (Bv (inB n 0 1000000)))] [2] [] [Bv (inB n 0 1000000)] [] [Con Tryz.prog 117 [I n, I 0, I 1000000] true (Bv (inB n 0 1000000)) ∧ True] hB ⟨⟨(within_ok n 0 1000000), trivial⟩, trivial⟩ ?_
  refine aw_ret ?_
  refine ae_ret hB (Bv (inB n 0 1000000)) (by kernel_rfl) (.inl rfl) rfl (fun _ => trivial)



-- impl.validBigram
theorem validBigram_ok (b : Bigram) (hb : okBig b) : Con Tryz.prog 56 [agBigram b] true (Bv true) := by
  have hw := (okWord_iff.1 hb.1).1
  have hw2 : b.First.size ≤ 10 := by rcases hb.2.1 with q | q; (rw [q]; decide); exact (okWord_iff.1 q).1.2
  refine fn_ok (fn := Tryz.f56) (nt := 21) Tryz.func56 rfl rfl rfl rfl (by simp [taggedL, tagged]) fun B hB => ?_
  refine aR [(0, .new 1)] [1] [1] [.ref 1 0] [some (bxBigram b)] [] hB trivial ?_
  refine aw_seq ?_
  by_cases h1 : b.First = (⟨#[]⟩ : ByteArray)
  ·refine aw_r [(2, .call [(true, .any)] true (Bv true)), (6, .dec true), (16, .call [(true, .any)] true (Bv (inB b.Cost 0 1000000)))] [2] [] [Bv (inB b.Cost 0 1000000)] [] [Con Tryz.prog 61 [Sv b.Second] true (Bv true) ∧ True, b.First = (⟨#[]⟩ : ByteArray), Con Tryz.prog 69 [I b.Cost] true (Bv (inB b.Cost 0 1000000)) ∧ True] hB ⟨⟨(con_bool hb.1 (IsWord_ok b.Second (by omega))), trivial⟩, h1, ⟨(isCost_ok b.Cost), trivial⟩, trivial⟩ ?_
   refine ae_then ?_
   refine aw_ret ?_
   refine ae_ret hB (Bv (inB b.Cost 0 1000000)) (by kernel_rfl) (.inl (by first | rfl | (refine congrArg Bv ?_; exact inB_iff.2 hb.2.2) | (exfalso; rcases hb.2.1 with q | q; (first | exact absurd q (by assumption) | (rw [q] at *; contradiction)); (first | (rw [q] at h2; cases h2) | (rw [q] at h1; cases h1))))) rfl (fun _ => trivial)
  rcases Bool.eq_false_or_eq_true (okWord b.First) with h2 | h2
  ·refine aw_r [(2, .call [(true, .any)] true (Bv true)), (6, .dec false), (10, .call [(true, .any)] true (Bv true)), (16, .call [(true, .any)] true (Bv (inB b.Cost 0 1000000)))] [2] [] [Bv (inB b.Cost 0 1000000)] [] [Con Tryz.prog 61 [Sv b.Second] true (Bv true) ∧ True, ¬ (b.First = (⟨#[]⟩ : ByteArray)), Con Tryz.prog 61 [Sv b.First] true (Bv true) ∧ True, Con Tryz.prog 69 [I b.Cost] true (Bv (inB b.Cost 0 1000000)) ∧ True] hB ⟨⟨(con_bool hb.1 (IsWord_ok b.Second (by omega))), trivial⟩, h1, ⟨(con_bool h2 (IsWord_ok b.First (by omega))), trivial⟩, ⟨(isCost_ok b.Cost), trivial⟩, trivial⟩ ?_
   refine ae_then ?_
   refine aw_ret ?_
   refine ae_ret hB (Bv (inB b.Cost 0 1000000)) (by kernel_rfl) (.inl (by first | rfl | (refine congrArg Bv ?_; exact inB_iff.2 hb.2.2) | (exfalso; rcases hb.2.1 with q | q; (first | exact absurd q (by assumption) | (rw [q] at *; contradiction)); (first | (rw [q] at h2; cases h2) | (rw [q] at h1; cases h1))))) rfl (fun _ => trivial)
  refine aw_r [(2, .call [(true, .any)] true (Bv true)), (6, .dec false), (10, .call [(true, .any)] true (Bv false))] [2] [] [Bv false] [] [Con Tryz.prog 61 [Sv b.Second] true (Bv true) ∧ True, ¬ (b.First = (⟨#[]⟩ : ByteArray)), Con Tryz.prog 61 [Sv b.First] true (Bv false) ∧ True] hB ⟨⟨(con_bool hb.1 (IsWord_ok b.Second (by omega))), trivial⟩, h1, ⟨(con_bool h2 (IsWord_ok b.First (by omega))), trivial⟩, trivial⟩ ?_
  refine ae_then ?_
  refine aw_ret ?_
  refine ae_ret hB (Bv false) (by kernel_rfl) (.inl (by first | rfl | (refine congrArg Bv ?_; exact inB_iff.2 hb.2.2) | (exfalso; rcases hb.2.1 with q | q; (first | exact absurd q (by assumption) | (rw [q] at *; contradiction)); (first | (rw [q] at h2; cases h2) | (rw [q] at h1; cases h1))))) rfl (fun _ => trivial)



-- cmp.isNaN[string]
theorem isNaNS_ok (x : ByteArray) : Con Tryz.prog 139 [Sv x] true (Bv false) := by
  refine fn_ok (fn := Tryz.f139) (nt := 6) Tryz.func139 rfl rfl rfl rfl (by simp [taggedL, tagged]) fun B hB => ?_
  refine aR [] [0] [] [Sv x] [] [] hB trivial ?_
  refine aR [(2, .dec false)] [2] [] [Bv false] [] [¬ (x ≠ x)] hB ⟨(fun hq => hq rfl), trivial⟩ ?_
  refine aw_ret ?_
  refine ae_ret hB (Bv false) (by kernel_rfl) (.inl rfl) rfl (fun _ => trivial)



-- cmp.Compare[string]
theorem CompareS_ok (x : ByteArray) (y : ByteArray) : Con Tryz.prog 110 [Sv x, Sv y] true (I (cmpS x y)) := by
  refine fn_ok (fn := Tryz.f110) (nt := 20) Tryz.func110 rfl rfl rfl rfl (by simp [taggedL, tagged]) fun B hB => ?_
  refine aR [] [0, 1] [] [Sv x, Sv y] [] [] hB trivial ?_
  refine aR [(1, .call [(true, .any)] true (Bv false))] [0, 1, 5] [] [Sv x, Sv y, Bv false] [] [Con Tryz.prog 139 [Sv x] true (Bv false) ∧ True] hB ⟨⟨(isNaNS_ok x), trivial⟩, trivial⟩ ?_
  refine aR [(1, .call [(true, .any)] true (Bv false))] [0, 1, 5, 6] [] [Sv x, Sv y, Bv false, Bv false] [] [Con Tryz.prog 139 [Sv y] true (Bv false) ∧ True] hB ⟨⟨(isNaNS_ok y), trivial⟩, trivial⟩ ?_
  refine aw_seq ?_
  refine aR [] [0, 1, 6, 11] [] [Sv x, Sv y, Bv false, Bv false] [] [] hB trivial ?_
  refine aw_false rfl ?_
  refine aw_skip ?_
  refine ae_then ?_
  refine aw_seq ?_
  refine aR [] [0, 1, 13] [] [Sv x, Sv y, Bv false] [] [] hB trivial ?_
  refine aw_false rfl ?_
  refine aw_skip ?_
  refine ae_then ?_
  refine aw_seq ?_
  refine aw_seq ?_
  by_cases h1 : sless x y = true
  ·refine aw_r [(2, .dec true)] [0, 1, 16] [] [Sv x, Sv y, Bv true] [] [sless x y = true] hB ⟨h1, trivial⟩ ?_
   refine ae_then ?_
   refine aw_true rfl ?_
   refine aR [] [4] [] [I (-1)] [] [] hB trivial ?_
   refine aw_ret ?_
   refine ae_ret_then ?_
   refine ae_ret hB (I (-1)) (by kernel_rfl) (.inl (by refine congrArg I ?_; unfold cmpS; first | (rw [if_pos (by assumption)]; done) | (rw [if_neg (by assumption), if_pos (by assumption)]; done) | (rw [if_neg (by assumption), if_neg (by assumption)]; done))) rfl (fun _ => trivial)
  refine aw_r [(2, .dec false)] [0, 1, 16] [] [Sv x, Sv y, Bv false] [] [¬ (sless x y = true)] hB ⟨h1, trivial⟩ ?_
  refine ae_then ?_
  refine aw_false rfl ?_
  refine aw_skip ?_
  refine ae_then ?_
  refine aw_seq ?_
  refine aw_seq ?_
  by_cases h2 : sless x y = false ∧ x ≠ y
  ·refine aw_r [(2, .dec true)] [19] [] [Bv true] [] [sless x y = false ∧ x ≠ y] hB ⟨h2, trivial⟩ ?_
   refine ae_then ?_
   refine aw_true rfl ?_
   refine aR [] [4] [] [I 1] [] [] hB trivial ?_
   refine aw_ret ?_
   refine ae_ret_then ?_
   refine ae_ret hB (I 1) (by kernel_rfl) (.inl (by refine congrArg I ?_; unfold cmpS; first | (rw [if_pos (by assumption)]; done) | (rw [if_neg (by assumption), if_pos (by assumption)]; done) | (rw [if_neg (by assumption), if_neg (by assumption)]; done))) rfl (fun _ => trivial)
  refine aw_r [(2, .dec false)] [19] [] [Bv false] [] [¬ (sless x y = false ∧ x ≠ y)] hB ⟨h2, trivial⟩ ?_
  refine ae_then ?_
  refine aw_false rfl ?_
  refine aw_skip ?_
  refine ae_then ?_
  refine aR [] [4] [] [I 0] [] [] hB trivial ?_
  refine aw_ret ?_
  refine ae_ret hB (I 0) (by kernel_rfl) (.inl (by refine congrArg I ?_; unfold cmpS; first | (rw [if_pos (by assumption)]; done) | (rw [if_neg (by assumption), if_pos (by assumption)]; done) | (rw [if_neg (by assumption), if_neg (by assumption)]; done))) rfl (fun _ => trivial)



-- cmp.Or[int]
theorem OrI_ok (vals : List Int) : Con Tryz.prog 109 [slI false vals] true (I (orL vals)) := by
  refine fn_ok (fn := Tryz.f109) (nt := 18) Tryz.func109 rfl rfl rfl rfl (by simp [taggedL, tagged, tagI]) fun B hB => ?_
  refine aw_lens (x := slI false vals) 0 rfl (fun len_vals => ?_)
  simp [LenOK, LenL, cI, fI, slI] at len_vals
  refine aR [] [0] [] [slI false vals] [] [] hB trivial ?_
  refine aR [] [0, 3] [] [slI false vals, I 0] [] [] hB trivial ?_
  refine aw_seq ?_
  refine aR [] [3, 6, 7, 8] [] [I 0, slI false vals, I (vals.length : Int), I 0] [] [] hB trivial ?_
  refine aw_block ?_
  refine aw_loop (fun gn gσ => ∃ (t8 : Int), gn = ((vals.length : Int) - t8).toNat ∧ (0 ≤ t8 ∧ t8 ≤ (vals.length : Int)) ∧ (∀ j : Nat, (j : Int) < t8 → at_ vals j = 0) ∧ gσ = mkS [(3, I 0), (6, slI false vals), (7, I (vals.length : Int)), (8, I t8)] []) (((vals.length : Int) - 0).toNat) ⟨0, rfl, (by omega), (by intro j hj; omega), rfl⟩ (fun gn gσ hI => ?_)
  obtain ⟨t8, rfl, hi0, hz0, rfl⟩ := hI
  refine aw_seq ?_
  by_cases h1 : t8 < (vals.length : Int)
  ·have hi : t8.toNat < vals.length := by omega
   refine aw_r [(0, .dec true)] [3, 6, 7, 8, 9] [] [I 0, slI false vals, I (vals.length : Int), I t8, Bv true] [] [t8 < (vals.length : Int)] hB ⟨h1, trivial⟩ ?_
   refine ae_then ?_
   refine aw_seq ?_
   refine aw_true rfl ?_
   refine aw_skip ?_
   refine ae_then ?_
   refine aw_seq ?_
   refine aw_block ?_
   refine aR [] [3, 5, 6, 7, 8] [] [I 0, I (at_ vals t8.toNat), slI false vals, I (vals.length : Int), I t8] [] [(0 : Int) ≤ t8 ∧ t8 < (vals.length : Int)] hB ⟨⟨(by omega), (by omega)⟩, trivial⟩ ?_
   refine aw_seq ?_
   by_cases h2 : (at_ vals t8.toNat) = 0
   ·refine aw_r [(2, .dec false)] [3, 5, 6, 7, 8, 14] [] [I 0, I (at_ vals t8.toNat), slI false vals, I (vals.length : Int), I t8, Bv false] [] [¬ ((at_ vals t8.toNat) ≠ 0)] hB ⟨(fun hq => hq h2), trivial⟩ ?_
    refine ae_then ?_
    refine aw_false rfl ?_
    refine aw_skip ?_
    refine ae_block 1 ?_
    refine ae_then ?_
    refine aw_r [] [3, 6, 7, 8] [] [I 0, slI false vals, I (vals.length : Int), I (t8 + 1)] [] [inR .i64 (t8 + 1)] hB ⟨(inR_i64 (by omega) (by omega)), trivial⟩ ?_
    exact ae_again _ (by omega) ⟨(t8 + 1), rfl, (by omega), (by intro j hj; by_cases ej : j = t8.toNat; (subst ej; assumption); exact hz0 j (by omega)), rfl⟩
   refine aw_r [(2, .dec true)] [3, 5, 6, 7, 8, 14] [] [I 0, I (at_ vals t8.toNat), slI false vals, I (vals.length : Int), I t8, Bv true] [] [(at_ vals t8.toNat) ≠ 0] hB ⟨h2, trivial⟩ ?_
   refine ae_then ?_
   refine aw_true rfl ?_
   refine aR [] [2] [] [I (at_ vals t8.toNat)] [] [] hB trivial ?_
   refine aw_ret ?_
   refine ae_ret_block (ae_ret_then (ae_ret_then (ae_ret_block (ae_ret_then ?_))))
   refine ae_ret hB (I (at_ vals t8.toNat)) (by kernel_rfl) (.inl (by refine congrArg I ?_; first | (rw [orL_none (fun j hj => hz0 j (by omega))]; done) | (rw [orL_at hi (fun j hj => hz0 j (by omega)) (by assumption)]; done) | (rw [orL_at hi (fun j hj => hz0 j (by omega)) (by assumption)]))) rfl (fun _ => trivial)
  refine aw_r [(0, .dec false)] [3, 6, 7, 8, 9] [] [I 0, slI false vals, I (vals.length : Int), I t8, Bv false] [] [¬ (t8 < (vals.length : Int))] hB ⟨h1, trivial⟩ ?_
  refine ae_then ?_
  refine aw_seq ?_
  refine aw_false rfl ?_
  refine aw_exit ?_
  refine ae_exit_then ?_
  refine ae_exit_then ?_
  refine ae_exit_same ?_
  refine ae_then ?_
  refine aR [] [2] [] [I 0] [] [] hB trivial ?_
  refine aw_ret ?_
  refine ae_ret hB (I 0) (by kernel_rfl) (.inl (by refine congrArg I ?_; first | (rw [orL_none (fun j hj => hz0 j (by omega))]; done) | (rw [orL_at hi (fun j hj => hz0 j (by omega)) (by assumption)]; done) | (rw [orL_at hi (fun j hj => hz0 j (by omega)) (by assumption)]))) rfl (fun _ => trivial)



-- impl.compareBigrams
theorem compareBigrams_ok (a : Bigram) (b : Bigram) : Con Tryz.prog 58 [agBigram a, agBigram b] true (I (cmpG a b)) := by
  refine fn_ok (fn := Tryz.f58) (nt := 17) Tryz.func58 rfl rfl rfl rfl (by simp [taggedL, tagged]) fun B hB => ?_
  refine aR [(0, .new 2), (1, .new 3)] [2, 3] [2, 3] [.ref 2 0, .ref 3 0] [some (bxBigram a), some (bxBigram b)] [] hB trivial ?_
  refine aR [(4, .call [(true, .any), (true, .any)] true (I (cmpS a.First b.First))), (9, .call [(true, .any), (true, .any)] true (I (cmpS a.Second b.Second))), (10, .new 15), (11, .call [(false, slI false ([(cmpS a.First b.First), (cmpS a.Second b.Second)]))] true (I (orL ([(cmpS a.First b.First), (cmpS a.Second b.Second)]))))] [4] [] [I (orL ([(cmpS a.First b.First), (cmpS a.Second b.Second)]))] [] [Con Tryz.prog 110 [Sv a.First, Sv b.First] true (I (cmpS a.First b.First)) ∧ True, Con Tryz.prog 110 [Sv a.Second, Sv b.Second] true (I (cmpS a.Second b.Second)) ∧ True, Con Tryz.prog 109 [slI false ([(cmpS a.First b.First), (cmpS a.Second b.Second)])] true (I (orL ([(cmpS a.First b.First), (cmpS a.Second b.Second)]))) ∧ ((false = true → true = true) ∧ 1 = 1 ∧ 2 = (([(cmpS a.First b.First), (cmpS a.Second b.Second)]).length) ∧ ∀ i_, i_ < (([(cmpS a.First b.First), (cmpS a.Second b.Second)]).length) → (litF [I (cmpS a.First b.First), I (cmpS a.Second b.Second)] 1) i_ = (fI ([(cmpS a.First b.First), (cmpS a.Second b.Second)])) i_ ∨ (AV.idsL ((fI ([(cmpS a.First b.First), (cmpS a.Second b.Second)])) i_) = [] ∧ leL (fun _ => none) false ((litF [I (cmpS a.First b.First), I (cmpS a.Second b.Second)] 1) i_) ((fI ([(cmpS a.First b.First), (cmpS a.Second b.Second)])) i_))) ∧ True] hB ⟨⟨(CompareS_ok a.First b.First), trivial⟩, ⟨(CompareS_ok a.Second b.Second), trivial⟩, ⟨(OrI_ok ([(cmpS a.First b.First), (cmpS a.Second b.Second)])), ⟨(fun h => by cases h), rfl, (by first | rfl | (simp; done) | (simp; omega) | omega), fun i_ hi_ => .inl (match i_, hi_ with | 0, _ => rfl | 1, _ => rfl | (i + 2), h => absurd h (by simp))⟩, trivial⟩, trivial⟩ ?_
  refine aw_ret ?_
  refine ae_ret hB (I (orL ([(cmpS a.First b.First), (cmpS a.Second b.Second)]))) (by kernel_rfl) (.inl (by rfl)) rfl (fun _ => trivial)



-- impl.ValidModel
theorem ValidModel_ok (m : Model) (hm : okMod m) : Con Tryz.prog 55 [agModel m] true (Bv true) := by
  have hc := hm.2.1
  refine fn_ok (fn := Tryz.f55) (nt := 41) Tryz.func55 rfl rfl rfl rfl (by simp [taggedL, tagged, tagBigram]) fun B hB => ?_
  refine aw_lens (x := agModel m) 0 rfl (fun len_m => ?_)
  simp [LenOK, LenL, cBigram, fBigram, slBigram] at len_m
  refine aR [(0, .new 1)] [1] [1] [.ref 1 0] [some (bxModel m)] [] hB trivial ?_
  refine aw_seq ?_
  refine aR [] [1, 6, 7, 8] [1] [.ref 1 0, slBigram false m.Bigrams, I (m.Bigrams.length : Int), I 0] [some (bxModel m)] [] hB trivial ?_
  refine aw_block ?_
  refine aw_loop (fun gn gσ => ∃ (t8 : Int), gn = ((m.Bigrams.length : Int) - t8).toNat ∧ (0 ≤ t8 ∧ t8 ≤ (m.Bigrams.length : Int)) ∧ gσ = mkS [(1, .ref 1 0), (6, slBigram false m.Bigrams), (7, I (m.Bigrams.length : Int)), (8, I t8)] [(1, bxModel m)]) (((m.Bigrams.length : Int) - 0).toNat) ⟨0, rfl, (by omega), rfl⟩ (fun gn gσ hI => ?_)
  obtain ⟨t8, rfl, hi0, rfl⟩ := hI
  refine aw_seq ?_
  by_cases h1 : t8 < (m.Bigrams.length : Int)
  ·have hi : t8.toNat < m.Bigrams.length := by omega
   have hen := hm.2.2.1 _ (at_mem hi)
   have hed := hen
   refine aw_r [(0, .dec true)] [1, 6, 7, 8, 9] [1] [.ref 1 0, slBigram false m.Bigrams, I (m.Bigrams.length : Int), I t8, Bv true] [some (bxModel m)] [t8 < (m.Bigrams.length : Int)] hB ⟨h1, trivial⟩ ?_
   refine ae_then ?_
   refine aw_seq ?_
   refine aw_true rfl ?_
   refine aw_skip ?_
   refine ae_then ?_
   refine aw_seq ?_
   refine aw_block ?_
   refine aR [(3, .new 4)] [1, 3, 4, 6, 7, 8] [1, 4] [.ref 1 0, I t8, .ref 4 0, slBigram false m.Bigrams, I (m.Bigrams.length : Int), I t8] [some (bxModel m), some (bxBigram (at_ m.Bigrams t8.toNat))] [(0 : Int) ≤ t8 ∧ t8 < (m.Bigrams.length : Int)] hB ⟨⟨(by omega), (by omega)⟩, trivial⟩ ?_
   refine aw_seq ?_
   by_cases h2 : 0 < t8
   ·have hpr := pw_get hm.2.2.2 (show (t8 - 1).toNat < t8.toNat by omega) hi
    have hpa := (cmpG_w.anti _ _).1 hpr
    refine aw_r [(1, .call [(true, .any)] true (Bv true)), (5, .dec true), (14, .call [(true, .any), (true, .any)] true (I (cmpG (at_ m.Bigrams ((t8 - 1).toNat)) (at_ m.Bigrams t8.toNat)))), (15, .dec false)] [1, 6, 7, 8, 30] [1] [.ref 1 0, slBigram false m.Bigrams, I (m.Bigrams.length : Int), I t8, Bv false] [some (bxModel m)] [Con Tryz.prog 56 [agBigram (at_ m.Bigrams t8.toNat)] true (Bv true) ∧ True, 0 < t8, inR .i64 (t8 - 1), (0 : Int) ≤ (t8 - 1) ∧ (t8 - 1) < (m.Bigrams.length : Int), Con Tryz.prog 58 [agBigram (at_ m.Bigrams ((t8 - 1).toNat)), agBigram (at_ m.Bigrams t8.toNat)] true (I (cmpG (at_ m.Bigrams ((t8 - 1).toNat)) (at_ m.Bigrams t8.toNat))) ∧ True, ¬ (0 ≤ (cmpG (at_ m.Bigrams ((t8 - 1).toNat)) (at_ m.Bigrams t8.toNat)))] hB ⟨⟨(validBigram_ok (at_ m.Bigrams t8.toNat) hen), trivial⟩, h2, (inR_i64 (by omega) (by omega)), ⟨(by omega), (by omega)⟩, ⟨(compareBigrams_ok (at_ m.Bigrams ((t8 - 1).toNat)) (at_ m.Bigrams t8.toNat)), trivial⟩, (by omega), trivial⟩ ?_
    refine ae_then ?_
    refine aw_false rfl ?_
    refine aw_skip ?_
    refine ae_block 1 ?_
    refine ae_then ?_
    refine aw_r [] [1, 6, 7, 8] [1] [.ref 1 0, slBigram false m.Bigrams, I (m.Bigrams.length : Int), I (t8 + 1)] [some (bxModel m)] [inR .i64 (t8 + 1)] hB ⟨(inR_i64 (by omega) (by omega)), trivial⟩ ?_
    exact ae_again _ (by omega) ⟨(t8 + 1), rfl, (by omega), rfl⟩
   refine aw_r [(1, .call [(true, .any)] true (Bv true)), (5, .dec false)] [1, 6, 7, 8, 30] [1] [.ref 1 0, slBigram false m.Bigrams, I (m.Bigrams.length : Int), I t8, Bv false] [some (bxModel m)] [Con Tryz.prog 56 [agBigram (at_ m.Bigrams t8.toNat)] true (Bv true) ∧ True, ¬ (0 < t8)] hB ⟨⟨(validBigram_ok (at_ m.Bigrams t8.toNat) hen), trivial⟩, h2, trivial⟩ ?_
   refine ae_then ?_
   refine aw_false rfl ?_
   refine aw_skip ?_
   refine ae_block 1 ?_
   refine ae_then ?_
   refine aw_r [] [1, 6, 7, 8] [1] [.ref 1 0, slBigram false m.Bigrams, I (m.Bigrams.length : Int), I (t8 + 1)] [some (bxModel m)] [inR .i64 (t8 + 1)] hB ⟨(inR_i64 (by omega) (by omega)), trivial⟩ ?_
   exact ae_again _ (by omega) ⟨(t8 + 1), rfl, (by omega), rfl⟩
  refine aw_r [(0, .dec false)] [1, 6, 7, 8, 9] [1] [.ref 1 0, slBigram false m.Bigrams, I (m.Bigrams.length : Int), I t8, Bv false] [some (bxModel m)] [¬ (t8 < (m.Bigrams.length : Int))] hB ⟨h1, trivial⟩ ?_
  refine ae_then ?_
  refine aw_seq ?_
  refine aw_false rfl ?_
  refine aw_exit ?_
  refine ae_exit_then ?_
  refine ae_exit_then ?_
  refine ae_exit_same ?_
  refine ae_then ?_
  refine aR [(2, .call [(true, .any)] true (Bv true)), (7, .dec true)] [2] [] [Bv true] [] [Con Tryz.prog 69 [I m.Default] true (Bv true) ∧ True, (m.Bigrams.length : Int) ≤ 60] hB ⟨⟨(con_bool (inB_iff.2 hm.1) (isCost_ok m.Default)), trivial⟩, (by omega), trivial⟩ ?_
  refine aw_ret ?_
  refine ae_ret hB (Bv true) (by kernel_rfl) (.inl rfl) rfl (fun _ => trivial)



-- impl.Bigram]
theorem cloneG0_ok (s : List Bigram) (hl : s.length ≤ 100000) : ∃ (out : List Bigram), (out = s) ∧ CallOK Tryz.prog 59 [slBigram false s] (lookO []) false (.arr 8440) (lookO [(8440, .arr 3 out.length (fBigram out))]) := by
  refine ⟨s, rfl, ?_⟩
  refine fn_okL [] [(8440, .arr 3 s.length (fBigram s))] (fn := Tryz.f59) (nt := 8) Tryz.func59 rfl rfl (args := [slBigram false s]) rfl (allcons (.inl ⟨rfl, tagBigram false _⟩) allnil) (res := .arr 8440) (fun B hB => ?_)
  refine aw_seq ?_
  refine aw_reg [] [0] [] [slBigram false s] [] [] (by kernel_rfl) hB trivial ?_
  refine ae_then ?_
  refine aw_seq ?_
  refine aw_seq ?_
  refine aw_reg [] [0, 4] [] [slBigram false s, .nilq s.length] [] [] (by kernel_rfl) hB trivial ?_
  refine ae_then ?_
  refine aw_nilq (n := s.length) rfl (fun h1 => ?_) ?_
  · refine aw_seq ?_
    refine aw_reg [] [2] [] [nilA] [] [] (by kernel_rfl) hB trivial ?_
    refine ae_then ?_
    refine aw_ret ?_
    refine ae_ret_then ?_
    refine ae_nil hB 2 8440 3 (fun _ => []) (by kernel_rfl) ?_
    refine ae_weak hB [] (T := [(2, .arr 8440)]) (O := [(8440, .arr 3 s.length (fBigram s))]) rfl (⟨.inl rfl, trivial⟩) (⟨.inr ⟨rfl, (by omega), fun i_ hi_ => absurd hi_ (by omega)⟩, trivial⟩) ?_
    refine ae_retL hB [(8440, .arr 3 s.length (fBigram s))] (⟨.inl rfl, trivial⟩) (.arr 8440) (by kernel_rfl) (.inl rfl) (fun h => by cases h) (fun h => by cases h)
  · refine aw_skip ?_
    refine ae_then ?_
    refine aw_seq ?_
    refine aw_reg [(0, .new 5), (2, .new 7)] [2] [7] [.arr 7] [some (.arr 3 (0 + s.length) (catF 0 (litF [] 3) (fBigram s)))] [(0 + s.length) * 40 ≤ 140737488355328] (by kernel_rfl) hB ⟨(by omega), trivial⟩ ?_
    refine ae_then ?_
    refine aw_ret ?_
    refine ae_weak hB [(8440, 7)] (T := [(2, .arr 8440)]) (O := [(8440, .arr 3 s.length (fBigram s))]) rfl (⟨.inl rfl, trivial⟩) (⟨.inr ⟨rfl, (by simp), fun i_ hi_ => .inl (cat_nil i_)⟩, trivial⟩) ?_
    refine ae_retL hB [(8440, .arr 3 s.length (fBigram s))] (⟨.inl rfl, trivial⟩) (.arr 8440) (by kernel_rfl) (.inl rfl) (fun h => by cases h) (fun h => by cases h)


-- impl.Bigram]

set_option maxHeartbeats 4000000 in
set_option maxRecDepth 100000 in
theorem insB_shift (b n c i vb vc : Nat) (cur cur2 : Array Value) (e e2 : TypeId) (cs vs : List Value) (w : World) (hw : w.heap[b]? = some (.cells cur e (0, 0))) (hi : i < n) (hroom : n + 1 ≤ c) (hcc : c * 3 ≤ cur.size) (hcm : c ≤ maxLen) (hvb : vb ≠ b) (hw2 : w.heap[vb]? = some (.cells cur2 e2 (0, 0)))
    (hvc : 1 ≤ vc) (hv2 : vc * 3 ≤ cur2.size) (hcl : cs.length = n * 3) (hvl : vs.length = 3) (hcs : ∀ (t : Nat) (v : Value), cs[t]? = some v → cur[t]? = some v) (hvs : ∀ (t : Nat) (v : Value), vs[t]? = some v → cur2[t]? = some v) (h1c : ∀ v ∈ cs, v.oneCell' = true) (h1v : ∀ v ∈ vs, v.oneCell' = true) :
    Calls Tryz.prog 60 #[.slice (some ⟨b, 0, none⟩) n c, .int .i64 i, .slice (some ⟨vb, 0, none⟩) 1 vc] w (InsPost w b (n + 1) 3 (cs.take (i * 3) ++ vs ++ cs.drop (i * 3))) := by
  have hc63 : c ≤ 9223372036854775807 := by unfold maxLen at hcm; omega
  have hbw : b < w.heap.size := (Array.getElem?_eq_some_iff.1 hw).1
  have hz2 : ¬ ((i : Int) = (n : Int)) := by omega
  have hsz : (Tryz.prog.info? 63).map (·.size) = some 3 := by kernel_rfl
  have hszw : ∀ w, (Go.sizeOf 63).run Tryz.prog w = .ok 3 w := run_sizeOf (by kernel_rfl)
  have hfro : ∀ o, w.frozen? ⟨b, o, none⟩ = false := fun o => Lib.frozen_of_heap hw _
  have hcel : ∀ o, w.cell? ⟨b, o, none⟩ = cur[o]? := fun o => by simp [World.cell?, hw]
  have hcel2 : ∀ o, w.cell? ⟨vb, o, none⟩ = cur2[o]? := fun o => by simp [World.cell?, hw2]
  have hov : ∀ lb cb, (callFunc 111 #[.slice (some ⟨vb, 0, none⟩) 1 vc, .slice (some ⟨b, (i + 1) * 3, none⟩) lb cb]).run Tryz.prog w = .ok (.value (.bool false)) w := fun lb cb => by
    rw [run_callFunc_extern Tryz.func111 (by kernel_rfl) (by kernel_rfl) (by kernel_rfl) (e := Extern.SlicesOverlaps.overlaps #[53, 53] #[4]) (by kernel_rfl),
      Lib.run_overlaps_apart w 53 4 63 Tryz.underlying53 3 hszw ⟨vb, 0, none⟩ ⟨b, (i + 1) * 3, none⟩ 1 vc lb cb hvb e2 e cur2.size cur.size (by simp [World.shape?, hw2]) (by simp [World.shape?, hw]) (by omega) (Lib.frozen_of_heap hw2 _) (Lib.frozen_of_heap hw2 _)]
    rfl
  have hdl : (cs.drop (i * 3)).length = (n - i) * 3 := by rw [List.length_drop, hcl, Nat.sub_mul]
  have mixed : Tryz.prog.follows .mixedOrders = true := by kernel_rfl
  have hw1 : IntKind.i64.wrap ((i : Int) + 1) = (i : Int) + 1 := by rw [IntKind.wrap_i64]; omega
  have hb1 : (0 : Int) ≤ (i : Int) + 1 := by omega
  have hin : i ≤ n := by omega
  have htn : ((i : Int) + 1).toNat = i + 1 := by omega
  have hb2 : ¬ (c = i + 1) := by omega
  have hb3 : (i : Int) ≤ (n : Int) + 1 := by omega
  have hb4 : ¬ (c = i) := by omega
  have hcp1 : ∀ ty dc sc, (Builtin.copy_ #[53, 53] ty #[.slice (some ⟨b, (i + 1) * 3, none⟩) (n - i) dc, .slice (some ⟨b, i * 3, none⟩) (n + 1 - i) sc]).run Tryz.prog w.drew = .ok (goInt (Nat.min (n + 1 - i) (n - i))) (w.drew.setCells b ((i + 1) * 3) (cs.drop (i * 3))) := fun ty dc sc =>
    run_copyK w.drew _ _ ty 63 3 b ((i + 1) * 3) (n - i) dc ⟨b, i * 3, none⟩ (n + 1 - i) sc (cs.drop (i * 3)) Tryz.underlying53 hsz (by rw [hdl]; congr 1; simp only [Nat.min_def]; split <;> omega)
      (fun j v hj => by rw [Addr.add_lit]; rw [List.getElem?_drop] at hj; exact (hcel _).trans (hcs _ v hj))
      (fun j hj => by rw [show w.drew.cell? _ = w.cell? _ from rfl, hcel, Array.getElem?_eq_getElem (by rw [hdl] at hj; omega)]; rfl) (fun j hj => hfro _) (fun v hv => h1c v (List.mem_of_mem_drop hv))
  obtain ⟨W1, hW1⟩ : ∃ W1, W1 = w.drew.setCells b ((i + 1) * 3) (cs.drop (i * 3)) := ⟨_, rfl⟩
  obtain ⟨c1, a1, a2, a3, a4, a5, a6, a7, a8, a9⟩ := setCells_at (cs.drop (i * 3)) b ((i + 1) * 3) cur e w.drew hw (by rw [hdl]; omega)
  rw [← hW1] at hcp1 a1 a5 a6 a7 a8 a9
  have hcp2 : ∀ (W : World), W.heap = W1.heap → ∀ ty dc, (Builtin.copy_ #[53, 53] ty #[.slice (some ⟨b, i * 3, none⟩) (n + 1 - i) dc, .slice (some ⟨vb, 0, none⟩) 1 vc]).run Tryz.prog W = .ok (goInt (Nat.min 1 (n + 1 - i))) (W.setCells b (i * 3) vs) := fun W hWh ty dc =>
    run_copyK W _ _ ty 63 3 b (i * 3) (n + 1 - i) dc ⟨vb, 0, none⟩ 1 vc vs Tryz.underlying53 hsz (by rw [hvl]; simp only [Nat.min_def]; split <;> omega)
      (fun j v hj => by rw [Addr.add_lit]; simp only [World.cell?, hWh]; rw [a5 vb hvb, show w.drew.heap = w.heap from rfl, hw2]; simpa using hvs j v hj)
      (fun j hj => by simp only [World.cell?, hWh]; rw [a1]; simp; omega) (fun j hj => by simp [World.frozen?, hWh, a1]) h1v
  go_enter Tryz.func60, Tryz.ntmps60
  go_wp2_with (simp only [hov])
  go_region_law_o (refine step_copyK rfl _ _ 53 53 rfl _ _ (by simp [Act.eval, Act.put]) (by simp [Act.eval, Act.put]) (hcp1 _ _ _) ?_)
  go_wp2_with (at_builtin; refine wpList_copyK _ rfl _ _ 53 53 rfl _ _ rfl rfl (hcp2 _ rfl _ _) ?_)
  go_ret
  obtain ⟨c2, b1, b2, b3, b4, b5, b6, b7, b8, b9⟩ := setCells_at vs b (i * 3) c1 e W1 a1 (by rw [hvl, a2]; omega)
  rw [← hW1]
  refine ⟨⟨b, c, c2, e, rfl, .inl rfl, by rw [b6, a6]; exact hbw, fun b' hb' hne => (b5 b' hne).trans (a5 b' hne), b1, by omega, hroom, by rw [b2, a2]; exact hcc, hcm, ?_⟩, b7.trans a7, b8.trans a8, b9.trans a9, by rw [b6, a6]; exact Nat.le_refl _⟩
  exact ins_row (by rw [hcl]; omega) hvl hcs (fun j hj => by have := a3 j hj; rwa [show (i + 1) * 3 + j = i * 3 + 3 + j from by omega] at this) (fun j hj => a4 j (.inl (by omega))) b3 b4

set_option maxHeartbeats 4000000 in
set_option maxRecDepth 100000 in
theorem insB_room (b n c vb vc : Nat) (cur cur2 : Array Value) (e e2 : TypeId) (cs vs : List Value) (w : World) (hw : w.heap[b]? = some (.cells cur e (0, 0))) (hroom : n + 1 ≤ c) (hcc : c * 3 ≤ cur.size) (hcm : c ≤ maxLen) (hw2 : w.heap[vb]? = some (.cells cur2 e2 (0, 0)))
    (hcl : cs.length = n * 3) (hvl : vs.length = 3) (hcs : ∀ (t : Nat) (v : Value), cs[t]? = some v → cur[t]? = some v) (hvs : ∀ (t : Nat) (v : Value), vs[t]? = some v → cur2[t]? = some v) (h1v : ∀ v ∈ vs, v.oneCell' = true) :
    Calls Tryz.prog 60 #[.slice (some ⟨b, 0, none⟩) n c, .int .i64 n, .slice (some ⟨vb, 0, none⟩) 1 vc] w (InsPost w b (n + 1) 3 (cs.take (n * 3) ++ vs ++ cs.drop (n * 3))) := by
  have hc63 : c ≤ 9223372036854775807 := by unfold maxLen at hcm; omega
  have hbw : b < w.heap.size := (Array.getElem?_eq_some_iff.1 hw).1
  obtain ⟨i0, hi0, hz0⟩ := Option.map_eq_some_iff.1 (show (Tryz.prog.info? 63).map (fun i => i.size) = some 3 from by kernel_rfl)
  have hsrc : Src Tryz.prog i0.size 53 (.slice (some ⟨vb, 0, none⟩) 1 vc) 1 vs w := by
    rw [hz0]
    exact Src.ofSlice w Tryz.underlying53 ⟨vb, 0, none⟩ 1 vc vs (by omega) (fun j u hj => by rw [Addr.add_lit]; simp only [World.cell?, hw2]; simpa using hvs j u hj) h1v
  have mixed : Tryz.prog.follows .mixedOrders = true := by kernel_rfl
  have hcel : ∀ o, w.cell? ⟨b, o, none⟩ = cur[o]? := fun o => by simp [World.cell?, hw]
  go_enter Tryz.func60, Tryz.ntmps60
  go_wp2_with (at_builtin; refine wpList_append_room_src _ rfl _ _ 53 53 rfl 63 i0 Tryz.underlying53 hi0 b 0 n c rfl _ rfl 1 vs hsrc hroom (fun j hj => by rw [hz0, hcel, Array.getElem?_eq_getElem (by rw [hvl] at hj; omega)]; rfl) (fun j hj => Lib.frozen_of_heap hw _) ?_)
  go_ret
  obtain ⟨c2, b1, b2, b3, b4, b5, b6, b7, b8, b9⟩ := setCells_at vs b (n * 3) cur e w hw (by rw [hvl]; omega)
  refine ⟨⟨b, c, c2, e, rfl, .inl rfl, by rw [b6]; exact hbw, fun b' hb' hne => b5 b' hne, b1, by omega, hroom, by rw [b2]; exact hcc, hcm, ?_⟩, b7, b8, b9, by rw [b6]; exact Nat.le_refl _⟩
  exact ins_row (by rw [hcl]; omega) hvl hcs (c1 := cur) (fun j hj => by rw [List.length_drop, hcl] at hj; omega) (fun j hj => rfl) b3 b4

theorem insB_zero (k : Nat) : (Builtin.zeroCells (Value.agg #[.string ⟨#[]⟩, .string ⟨#[]⟩, .int .i64 0]).cells k).size = k * 3 := by simp [Builtin.zeroCells, Value.cells]
set_option maxHeartbeats 4000000 in
set_option maxRecDepth 100000 in
theorem insB_egrow (base : Option Addr) (n c vb vc : Nat) (cur2 : Array Value) (e2 : TypeId) (cs vs : List Value) (w : World) (hnc : n ≤ c) (hroom : c < n + 1) (hn : n ≤ 1000000) (hnil : base = none → n = 0) (hcb : ∀ a, base = some a → ∀ (t : Nat) (v : Value), cs[t]? = some v → w.cell? (a.add t) = some v) (hw2 : w.heap[vb]? = some (.cells cur2 e2 (0, 0)))
    (hcl : cs.length = n * 3) (hvl : vs.length = 3) (hvs : ∀ (t : Nat) (v : Value), vs[t]? = some v → cur2[t]? = some v) (h1v : ∀ v ∈ vs, v.oneCell' = true) (k0 : Nat) :
    Calls Tryz.prog 60 #[.slice base n c, .int .i64 n, .slice (some ⟨vb, 0, none⟩) 1 vc] w (InsPost w k0 (n + 1) 3 (cs.take (n * 3) ++ vs ++ cs.drop (n * 3))) := by
  obtain ⟨i0, hi0, hq0⟩ := Option.map_eq_some_iff.1 (show (Tryz.prog.info? 63).map (fun i => (i.zero, i.size, i.bytes)) = some (some (Value.agg #[.string ⟨#[]⟩, .string ⟨#[]⟩, .int .i64 0]), 3, 40) from by kernel_rfl)
  simp only [Prod.mk.injEq] at hq0
  obtain ⟨hz0, hzs, hzb⟩ := hq0
  have hsrc : Src Tryz.prog i0.size 53 (.slice (some ⟨vb, 0, none⟩) 1 vc) 1 vs w := by
    rw [hzs]
    exact Src.ofSlice w Tryz.underlying53 ⟨vb, 0, none⟩ 1 vc vs (by omega) (fun j u hj => by rw [Addr.add_lit]; simp only [World.cell?, hw2]; simpa using hvs j u hj) h1v
  have mixed : Tryz.prog.follows .mixedOrders = true := by kernel_rfl
  have hold : (Builtin.firstCells i0.size n (.slice base n c)).run Tryz.prog w.drew = .ok cs.toArray w.drew := by
    rw [hzs]
    cases base with
    | none =>
      have h0 := hnil rfl
      subst h0
      have hcs0 : cs = [] := List.length_eq_zero_iff.1 (by omega)
      rw [hcs0]
      exact run_firstCells_none w.drew 3 0 0 c
    | some a => exact run_firstCells_some w.drew 3 n a n c cs (by omega) (fun j v hj => hcb a rfl j v hj)
  have hfit : Builtin.nextslicecap (n + 1) c * i0.bytes ≤ 281474976710656 := by rw [hzb]; exact growslice_fits hroom (by omega)
  have hrun : ∀ ty, (Builtin.append_ #[53, 53] ty #[.slice base n c, .slice (some ⟨vb, 0, none⟩) 1 vc]).run Tryz.prog w = _ := fun ty =>
    run_append_grow_src w 53 53 ty 63 i0 _ Tryz.underlying53 hi0 hz0 base n c cs hold _ 1 vs hsrc hroom (by omega) hfit
  have hG1 := grownCap_ge w (n + 1) c 63
  have hG2 := grownCap_le_maxLen w (n + 1) c 63 (by unfold maxLen; omega)
  have hfin : InsPost w k0 (n + 1) 3 (cs.take (n * 3) ++ vs ++ cs.drop (n * 3)) (.returned (.slice (some ⟨w.heap.size, 0, none⟩) (n + 1) (grownCap w (n + 1) c 63))) (w.drew.alloc (.cells ((cs ++ vs).toArray ++ Builtin.zeroCells (Value.agg #[.string ⟨#[]⟩, .string ⟨#[]⟩, .int .i64 0]).cells (grownCap w (n + 1) c 63 - (n + 1))) 63)) := by
    refine ⟨⟨w.heap.size, _, _, 63, rfl, .inr rfl, by simp, fun b' hb' hne => Go.heap_alloc_old w.drew _ hb', heap_alloc_new w.drew _, by omega, hG1, ?_, hG2, fun t v h => ?_⟩, rfl, rfl, rfl, by simp⟩
    · rw [Array.size_append, insB_zero]; simp only [List.size_toArray, List.length_append, hcl, hvl]; omega
    · rw [show cs.take (n * 3) = cs from List.take_of_length_le (by omega), show cs.drop (n * 3) = [] from List.drop_of_length_le (by omega), List.append_nil] at h
      rw [Array.getElem?_append_left (by simpa using (List.getElem?_eq_some_iff.1 h).1)]
      simpa using h
  go_enter Tryz.func60, Tryz.ntmps60
  cases base with
  | none =>
    have h0 := hnil rfl
    subst h0
    go_wp2_with (at_builtin; refine Lib.wpList_append_run _ rfl _ _ _ _ rfl _ _ rfl rfl _ _ (hrun _) ?_)
    go_ret
    exact hfin
  | some a =>
    obtain ⟨ab, ao, asp⟩ := a
    go_wp2_with (at_builtin; refine Lib.wpList_append_run _ rfl _ _ _ _ rfl _ _ rfl rfl _ _ (hrun _) ?_)
    all_goals (go_ret; exact hfin)

set_option maxHeartbeats 4000000 in
set_option maxRecDepth 100000 in
theorem insB_grow (b n c i vb vc : Nat) (cur cur2 : Array Value) (e e2 : TypeId) (cs vs : List Value) (w : World) (hw : w.heap[b]? = some (.cells cur e (0, 0))) (hi : i < n) (hnc : n ≤ c) (hroom : c < n + 1) (hn : n ≤ 1000000) (hcc : c * 3 ≤ cur.size) (hw2 : w.heap[vb]? = some (.cells cur2 e2 (0, 0)))
    (hcl : cs.length = n * 3) (hvl : vs.length = 3) (hcs : ∀ (t : Nat) (v : Value), cs[t]? = some v → cur[t]? = some v) (hvs : ∀ (t : Nat) (v : Value), vs[t]? = some v → cur2[t]? = some v) (h1c : ∀ v ∈ cs, v.oneCell' = true) (h1v : ∀ v ∈ vs, v.oneCell' = true) :
    Calls Tryz.prog 60 #[.slice (some ⟨b, 0, none⟩) n c, .int .i64 i, .slice (some ⟨vb, 0, none⟩) 1 vc] w (InsPost w b (n + 1) 3 (cs.take (i * 3) ++ vs ++ cs.drop (i * 3))) := by
  obtain ⟨i0, hi0, hq0⟩ := Option.map_eq_some_iff.1 (show (Tryz.prog.info? 63).map (fun i => (i.zero, i.size, i.bytes)) = some (some (Value.agg #[.string ⟨#[]⟩, .string ⟨#[]⟩, .int .i64 0]), 3, 40) from by kernel_rfl)
  simp only [Prod.mk.injEq] at hq0
  obtain ⟨hz0, hzs, hzb⟩ := hq0
  have mixed : Tryz.prog.follows .mixedOrders = true := by kernel_rfl
  have hz2 : ¬ ((i : Int) = (n : Int)) := by omega
  have hz3 : (c : Int) < (n : Int) + 1 := by omega
  have hsz : (Tryz.prog.info? 63).map (·.size) = some 3 := by rw [hi0]; simp [hzs]
  have hbw : b < w.heap.size := (Array.getElem?_eq_some_iff.1 hw).1
  have hvw : vb < w.heap.size := (Array.getElem?_eq_some_iff.1 hw2).1
  have hcel : ∀ o, w.cell? ⟨b, o, none⟩ = cur[o]? := fun o => by simp [World.cell?, hw]
  have hkk : (n : Int) + 1 - (i : Int) = ((n + 1 - i : Nat) : Int) := by omega
  have hik : i + (n + 1 - i) = n + 1 := by omega
  have htl : (cs.take (i * 3)).length = i * 3 := by rw [List.length_take]; omega
  have hold : (Builtin.firstCells i0.size i (.slice (some ⟨b, 0, none⟩) i c)).run Tryz.prog w.drew = .ok (cs.take (i * 3)).toArray w.drew := by
    rw [hzs]
    exact run_firstCells_some w.drew 3 i ⟨b, 0, none⟩ i c (cs.take (i * 3)) htl (fun j v hj => by
      rw [Addr.add_lit, Nat.zero_add]
      have hjl := (List.getElem?_eq_some_iff.1 hj).1
      rw [List.getElem?_take, if_pos (by omega)] at hj
      exact (hcel _).trans (hcs j v hj))
  obtain ⟨G, hG⟩ : ∃ G, G = grownCap w (n + 1) c 63 := ⟨_, rfl⟩
  have hGn : n + 1 ≤ G := by rw [hG]; exact grownCap_ge w _ _ _
  have hGm : G ≤ maxLen := by rw [hG]; exact grownCap_le_maxLen w (n + 1) c 63 (by unfold maxLen; omega)
  have hG63 : G ≤ 9223372036854775807 := by unfold maxLen at hGm; omega
  obtain ⟨ROW, hROW⟩ : ∃ ROW : Array Value, ROW = (cs.take (i * 3)).toArray ++ Builtin.zeroCells (Value.agg #[.string ⟨#[]⟩, .string ⟨#[]⟩, .int .i64 0]).cells (n + 1 - i) ++ Builtin.zeroCells (Value.agg #[.string ⟨#[]⟩, .string ⟨#[]⟩, .int .i64 0]).cells (G - (n + 1)) := ⟨_, rfl⟩
  have hfit : Builtin.nextslicecap (n + 1) c * i0.bytes ≤ 281474976710656 := by rw [hzb]; exact growslice_fits hroom (by omega)
  have hrz : ∀ ty, (Builtin.append_ #[53, 3] ty #[.slice (some ⟨b, 0, none⟩) i c, .int .i64 ((n : Int) + 1 - (i : Int))]).run Tryz.prog w =
      .ok (.slice (some ⟨w.heap.size, 0, none⟩) (n + 1) G) (w.drew.alloc (.cells ROW 63)) := fun ty => by
    have h := Lib.run_append_grow_zeros w 53 3 ty 63 i0 _ .i64 .i64 Tryz.underlying53 Tryz.underlying3 hi0 hz0 (some ⟨b, 0, none⟩) i c (cs.take (i * 3)) hold (n + 1 - i) (by omega) (by omega) (by omega) (by omega) (by rw [hzb]; omega) (by rw [hik]; exact hfit)
    rw [hik, ← hG, ← hROW] at h
    rw [hkk]
    exact h
  have hRl : ROW.size = G * 3 := by rw [hROW]; simp only [Array.size_append, insB_zero, List.size_toArray, htl]; omega
  have hR0 : ∀ j, j < i * 3 → ROW[j]? = cs[j]? := fun j hj => by
    rw [hROW, Array.append_assoc, Array.getElem?_append_left (by simpa [htl] using hj)]
    simp only [List.getElem?_toArray]
    rw [List.getElem?_take, if_pos hj]
  obtain ⟨W1, hW1⟩ : ∃ W1, W1 = w.drew.alloc (.cells ROW 63) := ⟨_, rfl⟩
  rw [← hW1] at hrz
  have g1 : W1.heap[w.heap.size]? = some (.cells ROW 63 (0, 0)) := by rw [hW1]; exact heap_alloc_new w.drew _
  have g2 : ∀ k, k < w.heap.size → W1.heap[k]? = w.heap[k]? := fun k hk => by rw [hW1]; exact Go.heap_alloc_old w.drew _ hk
  have g3 : W1.heap.size = w.heap.size + 1 := by rw [hW1]; exact World.size_alloc _ _
  obtain ⟨c1, a1, a2, a3, a4, a5, a6, a7, a8, a9⟩ := setCells_at vs w.heap.size (i * 3) ROW 63 W1 g1 (by rw [hvl, hRl]; omega)
  have hcpA : ∀ (W : World), W.heap = W1.heap → ∀ ty dc, (Builtin.copy_ #[53, 53] ty #[.slice (some ⟨w.heap.size, i * 3, none⟩) (n + 1 - i) dc, .slice (some ⟨vb, 0, none⟩) 1 vc]).run Tryz.prog W = .ok (goInt (Nat.min 1 (n + 1 - i))) (W.setCells w.heap.size (i * 3) vs) := fun W hWh ty dc =>
    run_copyK W _ _ ty 63 3 w.heap.size (i * 3) (n + 1 - i) dc ⟨vb, 0, none⟩ 1 vc vs Tryz.underlying53 hsz (by rw [hvl]; simp only [Nat.min_def]; split <;> omega)
      (fun j v hj => by rw [Addr.add_lit]; simp only [World.cell?, hWh]; rw [g2 vb hvw, hw2]; simpa using hvs j v hj)
      (fun j hj => by simp only [World.cell?, hWh]; rw [g1]; simp; omega) (fun j hj => by simp [World.frozen?, hWh, g1]) h1v
  have hdl : (cs.drop (i * 3)).length = (n - i) * 3 := by rw [List.length_drop, hcl, Nat.sub_mul]
  have hcpB : ∀ (W : World), W.heap = (W1.setCells w.heap.size (i * 3) vs).heap → ∀ ty dc sc, (Builtin.copy_ #[53, 53] ty #[.slice (some ⟨w.heap.size, (i + 1) * 3, none⟩) (n - i) dc, .slice (some ⟨b, i * 3, none⟩) (n - i) sc]).run Tryz.prog W = .ok (goInt (Nat.min (n - i) (n - i))) (W.setCells w.heap.size ((i + 1) * 3) (cs.drop (i * 3))) := fun W hWh ty dc sc =>
    run_copyK W _ _ ty 63 3 w.heap.size ((i + 1) * 3) (n - i) dc ⟨b, i * 3, none⟩ (n - i) sc (cs.drop (i * 3)) Tryz.underlying53 hsz (by rw [hdl]; congr 1; simp only [Nat.min_def]; split <;> omega)
      (fun j v hj => by
        rw [Addr.add_lit]; simp only [World.cell?, hWh]; rw [a5 b (by omega), g2 b hbw, hw]
        rw [List.getElem?_drop] at hj
        simpa using hcs _ v hj)
      (fun j hj => by simp only [World.cell?, hWh]; rw [a1]; simp; omega) (fun j hj => by simp [World.frozen?, hWh, a1]) (fun v hv => h1c v (List.mem_of_mem_drop hv))
  have hGi : ¬ (G = i) := by omega
  have hGim : ¬ (G = i + 1) := by omega
  have hci : ¬ (c = i) := by omega
  have hw1 : IntKind.i64.wrap ((i : Int) + 1) = (i : Int) + 1 := by rw [IntKind.wrap_i64]; omega
  have hb1 : (0 : Int) ≤ (i : Int) + 1 := by omega
  have hin : i ≤ n := by omega
  have htn : ((i : Int) + 1).toNat = i + 1 := by omega
  have hb3 : (i : Int) ≤ (n : Int) := by omega
  clear hkk hik hold hROW hG hfit
  subst hW1
  have hE1 : ((w.alloc (.cells ROW 63)).drew).heap = (w.drew.alloc (.cells ROW 63)).heap := rfl
  have hF1 : (((w.alloc (.cells ROW 63)).drew.setCells w.heap.size (i * 3) vs).drew).heap = ((w.drew.alloc (.cells ROW 63)).setCells w.heap.size (i * 3) vs).heap := rfl
  go_enter Tryz.func60, Tryz.ntmps60
  go_wp2_with (first
    | (at_builtin; refine Lib.wpList_append_run _ rfl _ _ _ _ rfl _ _ rfl rfl _ _ (hrz _) ?_)
    | (at_builtin; refine wpList_copyK _ rfl _ _ 53 53 rfl _ _ rfl rfl (hcpA _ hE1 _ _) ?_)
    | (at_builtin; refine wpList_copyK _ rfl _ _ 53 53 rfl _ _ rfl rfl (hcpB _ rfl _ _ _) ?_))
  go_region_law_o (refine step_copyK rfl _ _ 53 53 rfl (.slice (some ⟨w.heap.size, (i + 1) * 3, none⟩) (n - i) (G - (i + 1))) (.slice (some ⟨b, i * 3, none⟩) (n - i) (c - i)) (by simp [Act.eval, Act.put]) (by simp [Act.eval, Act.put]) (hcpB _ hF1 3 (G - (i + 1)) (c - i)) ?_)
  go_wp2
  go_ret
  obtain ⟨c2, b1, b2, b3, b4, b5, b6, b7, b8, b9⟩ := setCells_at (cs.drop (i * 3)) w.heap.size ((i + 1) * 3) c1 63 ((((w.alloc (.cells ROW 63)).drew).setCells w.heap.size (i * 3) vs).drew) a1 (by rw [hdl, a2, hRl]; omega)
  refine ⟨⟨w.heap.size, G, c2, 63, rfl, .inr rfl, by rw [b6]; show w.heap.size < ((w.drew.alloc (.cells ROW 63)).setCells w.heap.size (i * 3) vs).heap.size; rw [a6, g3]; omega, fun b' hb' hne => (b5 b' hne).trans ((a5 b' hne).trans (g2 b' hb')), b1, by omega, hGn, by rw [b2, a2, hRl]; exact Nat.le_refl _, hGm, ?_⟩, b7.trans a7, b8.trans a8, b9.trans a9, by rw [b6]; show w.heap.size ≤ ((w.drew.alloc (.cells ROW 63)).setCells w.heap.size (i * 3) vs).heap.size; rw [a6, g3]; omega⟩
  refine ins_row2 (by rw [hcl]; omega) hvl (fun j hj => ?_) (fun j hj => ?_) (fun j hj => ?_)
  · rw [b4 j (.inl (by omega)), a4 j (.inl hj), hR0 j hj]
  · rw [b4 (i * 3 + j) (.inl (by omega)), a3 j (by omega)]
  · have := b3 j hj
    rwa [show (i + 1) * 3 + j = i * 3 + 3 + j from by omega] at this

def insBe (x : Bigram) : List Value := [.string x.First, .string x.Second, .int .i64 x.Cost]
theorem insB_ok (xs : List Bigram) (i : Int) (ys : List Bigram) (hi : 0 ≤ i ∧ i ≤ (xs.length : Int)) (hy : ys.length = 1) (hl : xs.length ≤ 1000) : ∃ v : List Bigram, (v = xs.take i.toNat ++ ys ++ xs.drop i.toNat) ∧ CallC Tryz.prog 60 [] [.arr 8430, I i, .arr 8432] (lookO [(8430, .arr 3 xs.length (fBigram xs)), (8432, .arr 3 ys.length (fBigram ys))]) false (.arr 8431) (lookO [(8431, .arr 3 v.length (fBigram v))]) := by
  have hk : ∀ x : Bigram, (insBe x).length = 3 := fun _ => rfl
  have h1 : ∀ x : Bigram, ∀ v ∈ insBe x, v.oneCell' = true := fun x v hv => by simp only [insBe, List.mem_cons, List.not_mem_nil, or_false] at hv; rcases hv with rfl | rfl | rfl <;> rfl
  have hb : ∀ x : Bigram, ∀ v ∈ insBe x, blk v = none := fun x v hv => by simp only [insBe, List.mem_cons, List.not_mem_nil, or_false] at hv; rcases hv with rfl | rfl | rfl <;> rfl
  have h1L : ∀ zs : List Bigram, ∀ v ∈ cellsL insBe zs, v.oneCell' = true := fun zs v hv => by
    obtain ⟨x, _, hx⟩ := List.mem_flatMap.1 hv
    exact h1 x v hx
  refine ⟨_, rfl, ins_callC hk (by decide) h1 hb hi (by omega) (fun k c cur e w vb vc cur2 e2 hw h0 hn hcc hcm hcs hvb hw2 h0v hyv hv2 hvs => ?_) (fun A w vb vc cur2 e2 hx hw2 h0v hyv hv2 hvs => ?_) 8430 8432 8431 (by decide) (fun p _ => rfl) (fun p _ => rfl) (fun p _ => rfl)⟩
  · obtain ⟨m, rfl⟩ : ∃ m : Nat, i = (m : Int) := ⟨i.toNat, by omega⟩
    rw [Int.toNat_natCast, ins_cells hk xs ys m (by omega), hy]
    have hcl := cellsL_len hk xs
    have hvl : (cellsL insBe ys).length = 3 := by rw [cellsL_len hk, hy]
    rw [hy] at hyv
    by_cases hmn : m = xs.length
    · subst hmn
      by_cases hr : xs.length + 1 ≤ c
      · exact insB_room k xs.length c vb vc cur cur2 e e2 _ _ w hw hr hcc hcm hw2 hcl hvl hcs hvs (h1L ys)
      · exact insB_egrow (some ⟨k, 0, none⟩) xs.length c vb vc cur2 e2 _ _ w hn (by omega) (by omega) (fun q => by cases q) (fun a ha t v ht => by cases ha; rw [Addr.add_lit, Nat.zero_add]; simpa [World.cell?, hw] using hcs t v ht) hw2 hcl hvl hvs (h1L ys) k
    · by_cases hr : xs.length + 1 ≤ c
      · exact insB_shift k xs.length c m vb vc cur cur2 e e2 _ _ w hw (by omega) hr hcc hcm hvb hw2 hyv hv2 hcl hvl hcs hvs (h1L xs) (h1L ys)
      · exact insB_grow k xs.length c m vb vc cur cur2 e e2 _ _ w hw (by omega) hn (by omega) (by omega) hcc hw2 hcl hvl hcs hvs (h1L xs) (h1L ys)
  · have hi0 : i = ((0 : Nat) : Int) := by rw [hx] at hi; simp at hi; omega
    have hvl : (cellsL insBe ys).length = 3 := by rw [cellsL_len hk, hy]
    have := insB_egrow A 0 0 vb vc cur2 e2 [] _ w (Nat.le_refl _) (by decide) (by decide) (fun _ => rfl) (fun a _ t v ht => by simp at ht) hw2 rfl hvl hvs (h1L ys) w.heap.size
    rw [hi0, hy]
    simpa using this



theorem bs_lo {α : Type} [Inhabited α] {d : α → α → Int} (hw : CmpW d) {xs : List α} {e : α} (hp : xs.Pairwise fun x y => d x y < 0) {k h : Nat} (hk : k < h) (hh : h < xs.length) (hc : d (at_ xs h) e < 0) : d (at_ xs k) e < 0 :=
  hw.trans _ _ _ (by have := pw_get hp hk hh; omega) hc
theorem bs_hi {α : Type} [Inhabited α] {d : α → α → Int} (hw : CmpW d) {xs : List α} {e : α} (hp : xs.Pairwise fun x y => d x y < 0) {k h : Nat} (hk : k < h) (hh : h < xs.length) (hc : ¬ d (at_ xs k) e < 0) : ¬ d (at_ xs h) e < 0 := fun q => hc (bs_lo hw hp hk hh q)
theorem bs_no {α : Type} [Inhabited α] {d : α → α → Int} (hw : CmpW d) {xs : List α} {e : α} (hp : xs.Pairwise fun x y => d x y < 0) {a : Nat} (h1 : ∀ k : Nat, k < a → d (at_ xs k) e < 0) (h3 : ∀ k : Nat, a ≤ k → k < xs.length → ¬ d (at_ xs k) e < 0) (h2 : ¬ (a < xs.length ∧ d (at_ xs a) e = 0)) : ∀ j : Nat, j < xs.length → d (at_ xs j) e ≠ 0 := fun j hj q => by
  by_cases c1 : j < a
  · have := h1 j c1; omega
  · by_cases c2 : j = a
    · subst c2; exact h2 ⟨hj, q⟩
    · have n1 := h3 a (Nat.le_refl _) (by omega)
      have n2 : d (at_ xs a) e ≠ 0 := fun z => h2 ⟨by omega, z⟩
      have p := pw_get hp (show a < j by omega) hj
      have a1 := hw.anti e (at_ xs a)
      have a2 := hw.anti e (at_ xs j)
      have := hw.trans e (at_ xs a) (at_ xs j) (by omega) p
      omega


def pcM (m : Model) (a b : ByteArray) : Int := match m.Bigrams.find? (fun g => decide (g.First = a ∧ g.Second = b)) with
  | some g => g.Cost
  | none => m.Default
theorem find_at {α : Type} [Inhabited α] {xs : List α} {p : α → Bool} {k : Nat} (hk : k < xs.length) (h : p (at_ xs k) = true) (hn : ∀ j : Nat, j < k → ¬ p (at_ xs j) = true) : xs.find? p = some (at_ xs k) := by
  rw [at_eq hk] at *
  rw [List.find?_eq_some_iff_getElem]
  refine ⟨h, k, hk, rfl, fun j hj => ?_⟩
  have := hn j hj
  rw [at_eq (by omega)] at this
  simpa using this
theorem find_no {α : Type} [Inhabited α] {xs : List α} {p : α → Bool} (hn : ∀ j : Nat, j < xs.length → ¬ p (at_ xs j) = true) : xs.find? p = none := by
  rw [List.find?_eq_none]
  intro x hx
  obtain ⟨j, hj, q⟩ := List.getElem_of_mem hx
  have := hn j hj
  rwa [at_eq hj, q] at this
theorem pc_hit {m : Model} {a b : ByteArray} {c : Int} {k : Nat} (hp : m.Bigrams.Pairwise fun x y => cmpG x y < 0) (hk : k < m.Bigrams.length) (h : cmpG (at_ m.Bigrams k) (Bigram.mk a b c) = 0) : pcM m a b = (at_ m.Bigrams k).Cost := by
  have e : m.Bigrams.find? (fun g => decide (g.First = a ∧ g.Second = b)) = some (at_ m.Bigrams k) := find_at hk (decide_eq_true (cmpG_zero.1 h)) fun j hj q => by
    have z := cmpG_zero.2 (show (at_ m.Bigrams j).First = (Bigram.mk a b c).First ∧ (at_ m.Bigrams j).Second = (Bigram.mk a b c).Second from of_decide_eq_true q)
    have := bs_lo cmpG_w hp hj hk (e := Bigram.mk a b c)
    have p := pw_get hp hj hk
    have h2 := cmpG_zero.1 h
    have h3 := cmpG_zero.1 z
    have : cmpG (at_ m.Bigrams j) (at_ m.Bigrams k) = 0 := cmpG_zero.2 ⟨h3.1.trans h2.1.symm, h3.2.trans h2.2.symm⟩
    omega
  unfold pcM; rw [e]
theorem pc_no {m : Model} {a b : ByteArray} {c : Int} (h : ∀ j : Nat, j < m.Bigrams.length → cmpG (at_ m.Bigrams j) (Bigram.mk a b c) ≠ 0) : pcM m a b = m.Default := by
  unfold pcM; rw [find_no fun j hj q => h j hj (cmpG_zero.2 (of_decide_eq_true q))]
theorem pc_bd {m : Model} (h : okMod m) (a b : ByteArray) : 0 ≤ pcM m a b ∧ pcM m a b ≤ 1000000 := by
  unfold pcM
  split
  · rename_i g e
    exact (h.2.2.1 g (List.mem_of_find?_eq_some e)).2.2
  · exact h.1


theorem pc_mem {m : Model} (hp : m.Bigrams.Pairwise fun x y => cmpG x y < 0) {g : Bigram} (hg : g ∈ m.Bigrams) : pcM m g.First g.Second = g.Cost := by
  obtain ⟨k, hk, e⟩ := List.getElem_of_mem hg
  have e2 : at_ m.Bigrams k = g := by rw [at_eq hk, e]
  rw [pc_hit (c := 0) hp hk (by rw [e2]; exact cmpG_zero.2 ⟨rfl, rfl⟩), e2]
theorem pc_nomem {m : Model} {a b : ByteArray} (h : ∀ g ∈ m.Bigrams, ¬ (g.First = a ∧ g.Second = b)) : pcM m a b = m.Default := pc_no (c := 0) fun j hj q => h _ (at_mem hj) (cmpG_zero.1 q)
theorem pc_put {m : Model} {e : Bigram} {v : List Bigram} (hp : m.Bigrams.Pairwise fun x y => cmpG x y < 0) (hv : v.Pairwise fun x y => cmpG x y < 0) (hm : ∀ y, y ∈ v ↔ y = e ∨ (y ∈ m.Bigrams ∧ ¬ (y.First = e.First ∧ y.Second = e.Second))) (a b : ByteArray) :
    pcM ⟨m.Default, v⟩ a b = if a = e.First ∧ b = e.Second then e.Cost else pcM m a b := by
  split
  · rename_i h
    obtain ⟨rfl, rfl⟩ := h
    exact pc_mem (m := ⟨m.Default, v⟩) hv ((hm e).2 (.inl rfl))
  · rename_i h
    by_cases q : ∃ g ∈ m.Bigrams, g.First = a ∧ g.Second = b
    · obtain ⟨g, hg, rfl, rfl⟩ := q
      rw [pc_mem hp hg]
      exact pc_mem (m := ⟨m.Default, v⟩) hv ((hm g).2 (.inr ⟨hg, h⟩))
    · rw [pc_nomem (fun g hg q2 => q ⟨g, hg, q2⟩)]
      refine pc_nomem (m := ⟨m.Default, v⟩) fun g hg q2 => ?_
      rcases (hm g).1 hg with rfl | ⟨hg2, _⟩
      · exact h ⟨q2.1.symm, q2.2.symm⟩
      · exact q ⟨g, hg2, q2⟩
theorem cmpG_cong {a b c : Bigram} (h : b.First = c.First ∧ b.Second = c.Second) : cmpG a b = cmpG a c ∧ cmpG b a = cmpG c a := by unfold cmpG; rw [h.1, h.2]; exact ⟨rfl, rfl⟩
theorem set_pw {xs : List Bigram} (hp : xs.Pairwise fun x y => cmpG x y < 0) {k : Nat} (hk : k < xs.length) {e : Bigram} (h : cmpG (at_ xs k) e = 0) :
    (xs.set k e).Pairwise (fun x y => cmpG x y < 0) ∧ ∀ y, y ∈ xs.set k e ↔ y = e ∨ (y ∈ xs ∧ ¬ (y.First = e.First ∧ y.Second = e.Second)) := by
  have hz := cmpG_zero.1 h
  rw [at_eq hk] at hz
  have hne : ∀ i (hi : i < xs.length), i ≠ k → cmpG xs[i] xs[k] ≠ 0 := fun i hi q => by
    rcases Nat.lt_or_gt_of_ne q with q | q
    · have := (List.pairwise_iff_getElem.1 hp) i k hi hk q; omega
    · have := (List.pairwise_iff_getElem.1 hp) k i hk hi q
      have := (cmpG_w.anti _ _).1 this
      omega
  constructor
  · rw [List.pairwise_iff_getElem]
    intro i j hi hj hij
    simp only [List.length_set] at hi hj
    have p := (List.pairwise_iff_getElem.1 hp) i j hi hj hij
    rw [List.getElem_set, List.getElem_set]
    by_cases e1 : k = i <;> by_cases e2 : k = j
    · omega
    · rw [if_pos e1, if_neg e2]; subst e1; rw [← (cmpG_cong hz).2]; exact p
    · rw [if_neg e1, if_pos e2]; subst e2; rw [← (cmpG_cong hz).1]; exact p
    · rw [if_neg e1, if_neg e2]; exact p
  · intro y
    constructor
    · intro hy
      obtain ⟨i, hi, q⟩ := List.getElem_of_mem hy
      simp only [List.length_set] at hi
      rw [List.getElem_set] at q
      by_cases e1 : k = i
      · rw [if_pos e1] at q; exact .inl q.symm
      · rw [if_neg e1] at q
        refine .inr ⟨by rw [← q]; exact List.getElem_mem hi, fun z => hne i hi (fun w => e1 w.symm) ?_⟩
        rw [q]; exact cmpG_zero.2 ⟨z.1.trans hz.1.symm, z.2.trans hz.2.symm⟩
    · rintro (rfl | ⟨hy, hn⟩)
      · have := List.getElem_mem (l := xs.set k y) (n := k) (by simpa using hk)
        simpa using this
      · obtain ⟨i, hi, q⟩ := List.getElem_of_mem hy
        have e1 : k ≠ i := fun w => by subst w; rw [q] at hz; exact hn hz
        have := List.getElem_mem (l := xs.set k e) (n := i) (by simpa using hi)
        rw [List.getElem_set_ne e1, q] at this
        exact this
theorem mod_found {m : Model} {b : Bigram} {k : Nat} (hmd : okMod m) (hbg : okBig b) (hk : k < m.Bigrams.length) (h : cmpG (at_ m.Bigrams k) b = 0) :
    okMod ⟨m.Default, m.Bigrams.set k b⟩ ∧ ∀ x_ y_ : ByteArray, pcM ⟨m.Default, m.Bigrams.set k b⟩ x_ y_ = if x_ = b.First ∧ y_ = b.Second then b.Cost else pcM m x_ y_ := by
  obtain ⟨q1, q2⟩ := set_pw hmd.2.2.2 hk h
  refine ⟨⟨hmd.1, by show (m.Bigrams.set k b).length ≤ 60; rw [List.length_set]; exact hmd.2.1, fun y hy => ?_, q1⟩, pc_put hmd.2.2.2 q1 q2⟩
  rcases (q2 y).1 hy with rfl | z
  · exact hbg
  · exact hmd.2.2.1 y z.1
theorem mod_ins {m : Model} {b : Bigram} {k : Nat} (hmd : okMod m) (hbg : okBig b) (h60 : m.Bigrams.length < 60) (hk : k ≤ m.Bigrams.length) (hlo : ∀ j : Nat, j < k → cmpG (at_ m.Bigrams j) b < 0) (hhi : ∀ j : Nat, k ≤ j → j < m.Bigrams.length → ¬ cmpG (at_ m.Bigrams j) b < 0) (hne : ∀ j : Nat, j < m.Bigrams.length → cmpG (at_ m.Bigrams j) b ≠ 0) :
    okMod ⟨m.Default, m.Bigrams.take k ++ [b] ++ m.Bigrams.drop k⟩ ∧ ∀ x_ y_ : ByteArray, pcM ⟨m.Default, m.Bigrams.take k ++ [b] ++ m.Bigrams.drop k⟩ x_ y_ = if x_ = b.First ∧ y_ = b.Second then b.Cost else pcM m x_ y_ := by
  have hne2 : ∀ x ∈ m.Bigrams, cmpG x b ≠ 0 := fun x hx => by obtain ⟨j, hj, q⟩ := List.getElem_of_mem hx; rw [← q, ← at_eq hj]; exact hne j hj
  have q1 := ins_ok cmpG_w hmd.2.2.2 hk (by by_cases e : k = 0; (exact .inl e); (right; have := hlo (k - 1) (by omega); omega)) (fun j h1 h2 => by have := hhi j h1 h2; have := hne j h2; omega) hne2
  have q2 : ∀ y, y ∈ m.Bigrams.take k ++ [b] ++ m.Bigrams.drop k ↔ y = b ∨ (y ∈ m.Bigrams ∧ ¬ (y.First = b.First ∧ y.Second = b.Second)) := fun y => by
    rw [ins_mem]
    constructor
    · rintro (h | h)
      · exact .inl h
      · exact .inr ⟨h, fun z => hne2 y h (cmpG_zero.2 z)⟩
    · rintro (h | h)
      · exact .inl h
      · exact .inr h.1
  refine ⟨⟨hmd.1, ?_, fun y hy => ?_, q1⟩, pc_put hmd.2.2.2 q1 q2⟩
  · show (m.Bigrams.take k ++ [b] ++ m.Bigrams.drop k).length ≤ 60
    rw [ins_len hk]; omega
  · rcases (q2 y).1 hy with rfl | z
    · exact hbg
    · exact hmd.2.2.1 y z.1


-- impl.SetBigram
theorem bsBig_ok (xs : List Bigram) (target : Bigram) (hp : xs.Pairwise fun x_ y_ => cmpG x_ y_ < 0) (hll : xs.length ≤ 1000) : ∃ (pl : Int) (found : Bool), (0 ≤ pl ∧ pl ≤ (xs.length : Int)) ∧ (found = true → pl < (xs.length : Int) ∧ cmpG (at_ xs pl.toNat) target = 0) ∧ (found = false → ∀ j : Nat, j < xs.length → cmpG (at_ xs j) target ≠ 0) ∧ (∀ k : Nat, (k : Int) < pl → cmpG (at_ xs k) target < 0) ∧ (∀ k : Nat, pl ≤ (k : Int) → k < xs.length → ¬ cmpG (at_ xs k) target < 0) ∧ Con Tryz.prog 57 [slBigram false xs, agBigram target, .fn 58 []] true (.tup [I pl, Bv found]) := by
  have hh : ∃ r : Int × Bool, ((0 ≤ r.1 ∧ r.1 ≤ (xs.length : Int)) ∧ (r.2 = true → r.1 < (xs.length : Int) ∧ cmpG (at_ xs r.1.toNat) target = 0) ∧ (r.2 = false → ∀ j : Nat, j < xs.length → cmpG (at_ xs j) target ≠ 0) ∧ (∀ k : Nat, (k : Int) < r.1 → cmpG (at_ xs k) target < 0) ∧ (∀ k : Nat, r.1 ≤ (k : Int) → k < xs.length → ¬ cmpG (at_ xs k) target < 0) ∧ (True)) ∧ CallOK Tryz.prog 57 [slBigram false xs, agBigram target, .fn 58 []] (lookO []) true (.tup [I r.1, Bv r.2]) (lookO []) := by
    refine fn_okX (Φ := fun r : Int × Bool => (0 ≤ r.1 ∧ r.1 ≤ (xs.length : Int)) ∧ (r.2 = true → r.1 < (xs.length : Int) ∧ cmpG (at_ xs r.1.toNat) target = 0) ∧ (r.2 = false → ∀ j : Nat, j < xs.length → cmpG (at_ xs j) target ≠ 0) ∧ (∀ k : Nat, (k : Int) < r.1 → cmpG (at_ xs k) target < 0) ∧ (∀ k : Nat, r.1 ≤ (k : Int) → k < xs.length → ¬ cmpG (at_ xs k) target < 0) ∧ (True)) [] (fun r => []) (fn := Tryz.f57) (nt := 49) Tryz.func57 rfl rfl (args := [slBigram false xs, agBigram target, .fn 58 []]) rfl (allcons (.inl ⟨rfl, tagBigram false _⟩) (allcons (.inl ⟨rfl, by simp [tagged, taggedL]⟩) (allcons (.inl ⟨rfl, trivial⟩) allnil))) (res := fun r => .tup [I r.1, Bv r.2]) ?_
    refine xR [(0, .new 4)] [0, 2, 4] [4] [slBigram false xs, .fn 58 [], .ref 4 0] [some (bxBigram target)] [] trivial ?_
    refine xR [] [0, 2, 4, 8] [4] [slBigram false xs, .fn 58 [], .ref 4 0, I (xs.length : Int)] [some (bxBigram target)] [] trivial ?_
    refine xR [] [0, 2, 4, 8, 9, 10] [4] [slBigram false xs, .fn 58 [], .ref 4 0, I (xs.length : Int), I 0, I (xs.length : Int)] [some (bxBigram target)] [] trivial ?_
    refine x_seq ?_
    refine x_block ?_
    refine x_loop (X := Int × Int) (fun x => mkS [(0, slBigram false xs), (2, .fn 58 []), (4, .ref 4 0), (8, I (xs.length : Int)), (9, I x.1), (10, I x.2)] [(4, bxBigram target)]) (fun x => (0 ≤ x.1 ∧ x.1 ≤ x.2 ∧ x.2 ≤ (xs.length : Int)) ∧ (∀ k : Nat, (k : Int) < x.1 → cmpG (at_ xs k) target < 0) ∧ (∀ k : Nat, x.2 ≤ (k : Int) → k < xs.length → ¬ cmpG (at_ xs k) target < 0) ∧ True) (fun x => (x.2 - x.1).toNat) (0, (xs.length : Int)) rfl (show (0 ≤ (0 : Int) ∧ (0 : Int) ≤ (xs.length : Int) ∧ (xs.length : Int) ≤ (xs.length : Int)) ∧ (∀ k : Nat, (k : Int) < (0 : Int) → cmpG (at_ xs k) target < 0) ∧ (∀ k : Nat, (xs.length : Int) ≤ (k : Int) → k < xs.length → ¬ cmpG (at_ xs k) target < 0) ∧ True from ⟨(by omega), (by intro k hk; omega), (by intro k h1 h2; omega), trivial⟩) (fun x hI => ?_)
    obtain ⟨i, j⟩ := x
    obtain ⟨hi0, hlo, hhi, _⟩ : (0 ≤ i ∧ i ≤ j ∧ j ≤ (xs.length : Int)) ∧ (∀ k : Nat, (k : Int) < i → cmpG (at_ xs k) target < 0) ∧ (∀ k : Nat, j ≤ (k : Int) → k < xs.length → ¬ cmpG (at_ xs k) target < 0) ∧ True := hI
    show XW _ _ _ _ (mkS [(0, slBigram false xs), (2, .fn 58 []), (4, .ref 4 0), (8, I (xs.length : Int)), (9, I i), (10, I j)] [(4, bxBigram target)]) _ _
    refine x_seq ?_
    refine x_seq ?_
    by_cases h1 : i < j
    ·have hij : i < j := h1
     refine x_r [(2, .dec true)] [0, 2, 4, 8, 9, 10, 17] [4] [slBigram false xs, .fn 58 [], .ref 4 0, I (xs.length : Int), I i, I j, Bv true] [some (bxBigram target)] [i < j] ⟨h1, trivial⟩ ?_
     refine xe_then ?_
     refine x_true rfl ?_
     refine x_skip ?_
     refine xe_then ?_
     refine x_block ?_
     refine xR [] [0, 2, 4, 8, 9, 10, 11] [4] [slBigram false xs, .fn 58 [], .ref 4 0, I (xs.length : Int), I i, I j, I ((i + j) / 2)] [some (bxBigram target)] [inR .i64 (i + j), inR .u64 (i + j), (0 : Int) ≤ 1 ∧ (1 : Int) ≤ ((IntKind.bits .u64 : Nat) : Int), inR .i64 ((i + j) / 2)] ⟨(inR_i64 (by omega) (by omega)), (inR_u64 (by omega) (by omega)), ⟨(by decide), (by decide)⟩, (inR_i64 (by omega) (by omega)), trivial⟩ ?_
     refine x_seq ?_
     by_cases h2 : (cmpG (at_ xs (((i + j) / 2).toNat)) target) < 0
     ·refine x_r [(6, .call [(true, .any), (true, .any)] true (I (cmpG (at_ xs (((i + j) / 2).toNat)) target))), (7, .dec true)] [0, 2, 4, 8, 9, 10, 11, 31] [4] [slBigram false xs, .fn 58 [], .ref 4 0, I (xs.length : Int), I i, I j, I ((i + j) / 2), Bv true] [some (bxBigram target)] [(0 : Int) ≤ ((i + j) / 2) ∧ ((i + j) / 2) < (xs.length : Int), Con Tryz.prog 58 [agBigram (at_ xs (((i + j) / 2).toNat)), agBigram target] true (I (cmpG (at_ xs (((i + j) / 2).toNat)) target)) ∧ True, (cmpG (at_ xs (((i + j) / 2).toNat)) target) < 0] ⟨⟨(by omega), (by omega)⟩, ⟨(compareBigrams_ok (at_ xs (((i + j) / 2).toNat)) target), trivial⟩, h2, trivial⟩ ?_
      refine xe_then ?_
      refine x_true rfl ?_
      refine x_r [] [0, 2, 4, 8, 9, 10] [4] [slBigram false xs, .fn 58 [], .ref 4 0, I (xs.length : Int), I (((i + j) / 2) + 1), I j] [some (bxBigram target)] [inR .i64 (((i + j) / 2) + 1)] ⟨(inR_i64 (by omega) (by omega)), trivial⟩ ?_
      refine xe_block 1 ?_
      exact xe_again ((((i + j) / 2) + 1), j) rfl (show (0 ≤ (((i + j) / 2) + 1) ∧ (((i + j) / 2) + 1) ≤ j ∧ j ≤ (xs.length : Int)) ∧ (∀ k : Nat, (k : Int) < (((i + j) / 2) + 1) → cmpG (at_ xs k) target < 0) ∧ (∀ k : Nat, j ≤ (k : Int) → k < xs.length → ¬ cmpG (at_ xs k) target < 0) ∧ True from ⟨(by omega), (by first | exact hlo | (intro k hk; by_cases ek : (k : Int) = (i + j) / 2; (rw [show k = ((i + j) / 2).toNat from by omega]; assumption); exact bs_lo cmpG_w hp (k := k) (h := ((i + j) / 2).toNat) (by omega) (by omega) (by assumption))), (by first | exact hhi | (intro k hk1 hk2; by_cases ek : (k : Int) = (i + j) / 2; (rw [show k = ((i + j) / 2).toNat from by omega]; assumption); exact bs_hi cmpG_w hp (k := ((i + j) / 2).toNat) (h := k) (by omega) hk2 (by assumption))), trivial⟩) (by first | (show ((j - (((i + j) / 2) + 1)).toNat : Nat) < (j - i).toNat; omega) | (dsimp only; omega))
     refine x_r [(6, .call [(true, .any), (true, .any)] true (I (cmpG (at_ xs (((i + j) / 2).toNat)) target))), (7, .dec false)] [0, 2, 4, 8, 9, 10, 11, 31] [4] [slBigram false xs, .fn 58 [], .ref 4 0, I (xs.length : Int), I i, I j, I ((i + j) / 2), Bv false] [some (bxBigram target)] [(0 : Int) ≤ ((i + j) / 2) ∧ ((i + j) / 2) < (xs.length : Int), Con Tryz.prog 58 [agBigram (at_ xs (((i + j) / 2).toNat)), agBigram target] true (I (cmpG (at_ xs (((i + j) / 2).toNat)) target)) ∧ True, ¬ ((cmpG (at_ xs (((i + j) / 2).toNat)) target) < 0)] ⟨⟨(by omega), (by omega)⟩, ⟨(compareBigrams_ok (at_ xs (((i + j) / 2).toNat)) target), trivial⟩, h2, trivial⟩ ?_
     refine xe_then ?_
     refine x_false rfl ?_
     refine x_r [] [0, 2, 4, 8, 9, 10] [4] [slBigram false xs, .fn 58 [], .ref 4 0, I (xs.length : Int), I i, I ((i + j) / 2)] [some (bxBigram target)] [] trivial ?_
     refine xe_block 1 ?_
     exact xe_again (i, ((i + j) / 2)) rfl (show (0 ≤ i ∧ i ≤ ((i + j) / 2) ∧ ((i + j) / 2) ≤ (xs.length : Int)) ∧ (∀ k : Nat, (k : Int) < i → cmpG (at_ xs k) target < 0) ∧ (∀ k : Nat, ((i + j) / 2) ≤ (k : Int) → k < xs.length → ¬ cmpG (at_ xs k) target < 0) ∧ True from ⟨(by omega), (by first | exact hlo | (intro k hk; by_cases ek : (k : Int) = (i + j) / 2; (rw [show k = ((i + j) / 2).toNat from by omega]; assumption); exact bs_lo cmpG_w hp (k := k) (h := ((i + j) / 2).toNat) (by omega) (by omega) (by assumption))), (by first | exact hhi | (intro k hk1 hk2; by_cases ek : (k : Int) = (i + j) / 2; (rw [show k = ((i + j) / 2).toNat from by omega]; assumption); exact bs_hi cmpG_w hp (k := ((i + j) / 2).toNat) (h := k) (by omega) hk2 (by assumption))), trivial⟩) (by first | (show ((((i + j) / 2) - i).toNat : Nat) < (j - i).toNat; omega) | (dsimp only; omega))
    refine x_r [(2, .dec false)] [0, 2, 4, 8, 9, 10, 17] [4] [slBigram false xs, .fn 58 [], .ref 4 0, I (xs.length : Int), I i, I j, Bv false] [some (bxBigram target)] [¬ (i < j)] ⟨h1, trivial⟩ ?_
    refine xe_then ?_
    refine x_false rfl ?_
    refine x_exit ?_
    refine xe_exit_then ?_
    refine xe_loop_exit ?_
    refine xe_exit_same ?_
    refine xe_then ?_
    refine x_seq ?_
    by_cases h3 : i < (xs.length : Int)
    ·refine x_r [(3, .dec true), (11, .call [(true, .any), (true, .any)] true (I (cmpG (at_ xs i.toNat) target)))] [6, 7] [] [I i, Bv (decide ((cmpG (at_ xs i.toNat) target) = 0))] [] [i < (xs.length : Int), (0 : Int) ≤ i ∧ i < (xs.length : Int), Con Tryz.prog 58 [agBigram (at_ xs i.toNat), agBigram target] true (I (cmpG (at_ xs i.toNat) target)) ∧ True] ⟨h3, ⟨(by omega), (by omega)⟩, ⟨(compareBigrams_ok (at_ xs i.toNat) target), trivial⟩, trivial⟩ ?_
     refine xe_then ?_
     refine x_ret ?_
     refine xe_end (i, decide ((cmpG (at_ xs i.toNat) target) = 0)) (show (0 ≤ i ∧ i ≤ (xs.length : Int)) ∧ ((decide ((cmpG (at_ xs i.toNat) target) = 0)) = true → i < (xs.length : Int) ∧ cmpG (at_ xs i.toNat) target = 0) ∧ ((decide ((cmpG (at_ xs i.toNat) target) = 0)) = false → ∀ j : Nat, j < xs.length → cmpG (at_ xs j) target ≠ 0) ∧ (∀ k : Nat, (k : Int) < i → cmpG (at_ xs k) target < 0) ∧ (∀ k : Nat, i ≤ (k : Int) → k < xs.length → ¬ cmpG (at_ xs k) target < 0) ∧ (True) from ⟨(by first | omega | exact fun q => ⟨by omega, of_decide_eq_true q⟩ | exact fun q => absurd q (by decide) | exact fun q => bs_no cmpG_w hp (a := i.toNat) (fun k hk => hlo k (by omega)) (fun k h1 h2 => hhi k (by omega) h2) (fun z => absurd z.2 (of_decide_eq_false q)) | exact fun _ => bs_no cmpG_w hp (a := i.toNat) (fun k hk => hlo k (by omega)) (fun k h1 h2 => hhi k (by omega) h2) (fun z => absurd z.1 (by omega))), (by first | omega | exact fun q => ⟨by omega, of_decide_eq_true q⟩ | exact fun q => absurd q (by decide) | exact fun q => bs_no cmpG_w hp (a := i.toNat) (fun k hk => hlo k (by omega)) (fun k h1 h2 => hhi k (by omega) h2) (fun z => absurd z.2 (of_decide_eq_false q)) | exact fun _ => bs_no cmpG_w hp (a := i.toNat) (fun k hk => hlo k (by omega)) (fun k h1 h2 => hhi k (by omega) h2) (fun z => absurd z.1 (by omega))), (by first | omega | exact fun q => ⟨by omega, of_decide_eq_true q⟩ | exact fun q => absurd q (by decide) | exact fun q => bs_no cmpG_w hp (a := i.toNat) (fun k hk => hlo k (by omega)) (fun k h1 h2 => hhi k (by omega) h2) (fun z => absurd z.2 (of_decide_eq_false q)) | exact fun _ => bs_no cmpG_w hp (a := i.toNat) (fun k hk => hlo k (by omega)) (fun k h1 h2 => hhi k (by omega) h2) (fun z => absurd z.1 (by omega))), (by first | exact fun k hk => hlo k (by omega) | exact fun k h1 h2 => hhi k (by omega) h2), (by first | exact fun k hk => hlo k (by omega) | exact fun k h1 h2 => hhi k (by omega) h2), trivial⟩) (trivial) (.tup [I i, Bv (decide ((cmpG (at_ xs i.toNat) target) = 0))]) (by kernel_rfl) (.inl rfl) (fun _ => rfl) (fun _ => (by simp [tagged, taggedL]))
    refine x_r [(3, .dec false)] [6, 7] [] [I i, Bv false] [] [¬ (i < (xs.length : Int))] ⟨h3, trivial⟩ ?_
    refine xe_then ?_
    refine x_ret ?_
    refine xe_end (i, false) (show (0 ≤ i ∧ i ≤ (xs.length : Int)) ∧ (false = true → i < (xs.length : Int) ∧ cmpG (at_ xs i.toNat) target = 0) ∧ (false = false → ∀ j : Nat, j < xs.length → cmpG (at_ xs j) target ≠ 0) ∧ (∀ k : Nat, (k : Int) < i → cmpG (at_ xs k) target < 0) ∧ (∀ k : Nat, i ≤ (k : Int) → k < xs.length → ¬ cmpG (at_ xs k) target < 0) ∧ (True) from ⟨(by first | omega | exact fun q => ⟨by omega, of_decide_eq_true q⟩ | exact fun q => absurd q (by decide) | exact fun q => bs_no cmpG_w hp (a := i.toNat) (fun k hk => hlo k (by omega)) (fun k h1 h2 => hhi k (by omega) h2) (fun z => absurd z.2 (of_decide_eq_false q)) | exact fun _ => bs_no cmpG_w hp (a := i.toNat) (fun k hk => hlo k (by omega)) (fun k h1 h2 => hhi k (by omega) h2) (fun z => absurd z.1 (by omega))), (by first | omega | exact fun q => ⟨by omega, of_decide_eq_true q⟩ | exact fun q => absurd q (by decide) | exact fun q => bs_no cmpG_w hp (a := i.toNat) (fun k hk => hlo k (by omega)) (fun k h1 h2 => hhi k (by omega) h2) (fun z => absurd z.2 (of_decide_eq_false q)) | exact fun _ => bs_no cmpG_w hp (a := i.toNat) (fun k hk => hlo k (by omega)) (fun k h1 h2 => hhi k (by omega) h2) (fun z => absurd z.1 (by omega))), (by first | omega | exact fun q => ⟨by omega, of_decide_eq_true q⟩ | exact fun q => absurd q (by decide) | exact fun q => bs_no cmpG_w hp (a := i.toNat) (fun k hk => hlo k (by omega)) (fun k h1 h2 => hhi k (by omega) h2) (fun z => absurd z.2 (of_decide_eq_false q)) | exact fun _ => bs_no cmpG_w hp (a := i.toNat) (fun k hk => hlo k (by omega)) (fun k h1 h2 => hhi k (by omega) h2) (fun z => absurd z.1 (by omega))), (by first | exact fun k hk => hlo k (by omega) | exact fun k h1 h2 => hhi k (by omega) h2), (by first | exact fun k hk => hlo k (by omega) | exact fun k h1 h2 => hhi k (by omega) h2), trivial⟩) (trivial) (.tup [I i, Bv false]) (by kernel_rfl) (.inl rfl) (fun _ => rfl) (fun _ => (by simp [tagged, taggedL]))
  obtain ⟨⟨pl, found⟩, ⟨hh0, hh1, hh2, hh3, hh4, _⟩, hc⟩ := hh
  exact ⟨pl, found, hh0, hh1, hh2, hh3, hh4, hc⟩

theorem SetBigram_ok (m : Model) (b : Bigram) (hmd : okMod m) (hbg : okBig b) (h60 : m.Bigrams.length < 60) : ∃ (v : Model) (c : Int), (okMod v) ∧ (∀ x_ y_ : ByteArray, pcM v x_ y_ = if x_ = b.First ∧ y_ = b.Second then b.Cost else pcM m x_ y_) ∧ (c = 0) ∧ Con Tryz.prog 19 [agModel m, agBigram b] true (.tup [agModelT v, I c]) := by
  have hh : ∃ r : Model × Int, ((okMod r.1) ∧ (∀ x_ y_ : ByteArray, pcM r.1 x_ y_ = if x_ = b.First ∧ y_ = b.Second then b.Cost else pcM m x_ y_) ∧ (r.2 = 0) ∧ (True)) ∧ CallOK Tryz.prog 19 [agModel m, agBigram b] (lookO []) true (.tup [agModelT r.1, I r.2]) (lookO []) := by
    refine fn_okX (Φ := fun r : Model × Int => (okMod r.1) ∧ (∀ x_ y_ : ByteArray, pcM r.1 x_ y_ = if x_ = b.First ∧ y_ = b.Second then b.Cost else pcM m x_ y_) ∧ (r.2 = 0) ∧ (True)) [] (fun r => []) (fn := Tryz.f19) (nt := 51) Tryz.func19 rfl rfl (args := [agModel m, agBigram b]) rfl (allcons (.inl ⟨rfl, by simp [tagged, taggedL, tagBigram]⟩) (allcons (.inl ⟨rfl, by simp [tagged, taggedL]⟩) allnil)) (res := fun r => .tup [agModelT r.1, I r.2]) ?_
    refine xR [(0, .new 2), (1, .new 3), (2, .new 4)] [2, 3, 4] [2, 3, 4] [.ref 2 0, .ref 3 0, .ref 4 0] [some (bxModel m), some (bxBigram b), some (.box [I 0, nilA])] [] trivial ?_
    refine x_seq ?_
    refine xR [(1, .call [(true, .any)] true (Bv true)), (5, .call [(true, .any)] true (Bv true))] [2, 3, 4, 16] [2, 3, 4] [.ref 2 0, .ref 3 0, .ref 4 0, Bv false] [some (bxModel m), some (bxBigram b), some (.box [I 0, nilA])] [Con Tryz.prog 55 [agModel m] true (Bv true) ∧ True, Con Tryz.prog 56 [agBigram b] true (Bv true) ∧ True] ⟨⟨(ValidModel_ok m hmd), trivial⟩, ⟨(validBigram_ok b hbg), trivial⟩, trivial⟩ ?_
    refine x_false rfl ?_
    refine x_skip ?_
    refine xe_then ?_
    refine x_seq ?_
    obtain ⟨pl_1, found_1, hx1_0, hx1_1, hx1_2, hx1_3, hx1_4, hc1⟩ := bsBig_ok m.Bigrams b hmd.2.2.2 (by omega)
    have hb0 := hx1_0
    have hb1 := hx1_1
    have hb2 := hx1_2
    have hlo := hx1_3
    have hhi := hx1_4
    refine x_r [(3, .call [(true, .any), (true, .any), (true, .any)] true (.tup [I pl_1, Bv found_1]))] [2, 3, 4, 6, 7] [2, 3, 4] [.ref 2 0, .ref 3 0, .ref 4 0, I pl_1, Bv found_1] [some (bxModel m), some (bxBigram b), some (.box [I 0, nilA])] [Con Tryz.prog 57 [slBigram false m.Bigrams, agBigram b, .fn 58 []] true (.tup [I pl_1, Bv found_1]) ∧ True] ⟨⟨hc1, trivial⟩, trivial⟩ ?_
    refine xe_then ?_
    refine x_seq ?_
    obtain ⟨out_2, hx2_0, hc2⟩ := cloneG0_ok m.Bigrams (by omega)
    have hcl : out_2 = m.Bigrams := hx2_0
    have hcll : out_2.length = m.Bigrams.length := by rw [hcl]
    refine x_r [(4, .lend [] [(8440, tABigram out_2)] [(true, .any)] false (.arr 8440)), (6, .new 8)] [2, 3, 4, 6, 7, 8] [2, 3, 4, 8, 8440] [.ref 2 0, .ref 3 0, .ref 4 0, I pl_1, Bv found_1, .ref 8 0] [some (bxModel m), some (bxBigram b), some (.box [I 0, nilA]), some (.box [I m.Default, .arr 8440]), some (tABigram out_2)] [CallOK Tryz.prog 59 [slBigram false m.Bigrams] (lookO []) false (.arr 8440) (lookO [(8440, tABigram out_2)]) ∧ True] ⟨⟨hc2, trivial⟩, trivial⟩ ?_
    refine xe_then ?_
    refine x_seq ?_
    refine xR [] [2, 3, 4, 6, 8, 31] [2, 3, 4, 8, 8440] [.ref 2 0, .ref 3 0, .ref 4 0, I pl_1, .ref 8 0, Bv found_1] [some (bxModel m), some (bxBigram b), some (.box [I 0, nilA]), some (.box [I m.Default, .arr 8440]), some (tABigram out_2)] [] trivial ?_
    rcases Bool.eq_false_or_eq_true found_1 with h1 | h1
    ·refine x_true (congrArg Bv h1) ?_
     refine x_seq ?_
     have hb3 := hb1 (by assumption)
     have hb4 := hb3.1
     refine x_r [] [4, 8] [4, 8, 8440] [.ref 4 0, .ref 8 0] [some (.box [I 0, nilA]), some (.box [I m.Default, .arr 8440]), some (.arr 3 out_2.length (fun q => bif Nat.beq q pl_1.toNat then [Sv b.First, Sv b.Second, I b.Cost] else (fBigram out_2) q))] [(0 : Int) ≤ pl_1 ∧ pl_1 < (out_2.length : Int), pl_1.toNat < out_2.length] ⟨⟨(by omega), (by omega)⟩, (by omega), trivial⟩ ?_
     refine xe_then ?_
     refine xR [] [4, 5] [4, 8440] [.ref 4 0, I 0] [some (.box [I m.Default, .arr 8440]), some (.arr 3 out_2.length (fun q => bif Nat.beq q pl_1.toNat then [Sv b.First, Sv b.Second, I b.Cost] else (fBigram out_2) q))] [] trivial ?_
     refine x_ret ?_
     refine xe_ret_then ?_
     refine xe_end ((Model.mk m.Default (out_2.set pl_1.toNat b)), 0) (show (okMod (Model.mk m.Default (out_2.set pl_1.toNat b))) ∧ (∀ x_ y_ : ByteArray, pcM (Model.mk m.Default (out_2.set pl_1.toNat b)) x_ y_ = if x_ = b.First ∧ y_ = b.Second then b.Cost else pcM m x_ y_) ∧ (0 = 0) ∧ (True) from ⟨(by first | (rw [hcl]; exact (mod_found hmd hbg (by omega) hb3.2).1) | (rw [hins, hcl]; exact (mod_ins hmd hbg h60 (by omega) (fun j hj => hlo j (by omega)) (fun j h1 h2 => hhi j (by omega) h2) hb5).1)), (by first | (rw [hcl]; exact (mod_found hmd hbg (by omega) hb3.2).2) | (rw [hins, hcl]; exact (mod_ins hmd hbg h60 (by omega) (fun j hj => hlo j (by omega)) (fun j h1 h2 => hhi j (by omega) h2) hb5).2)), (by rfl), trivial⟩) (trivial) (.tup [.agg [I m.Default, .arr 8440], I 0]) (by kernel_rfl) (.inr ⟨⟨rfl, ⟨⟨(fun _ => rfl), rfl, (by first | rfl | (simp; done) | (simp; omega) | omega), fun i_ hi_ => .inl (upd_enc (enc := cBigram) rfl i_ hi_)⟩, rfl⟩⟩, ⟨rfl, rfl⟩⟩) (fun _ => rfl) (fun _ => (by simp [tagged, taggedL, tagBigram]))
    refine x_false (congrArg Bv h1) ?_
    refine x_skip ?_
    refine xe_then ?_
    refine x_seq ?_
    refine x_seq ?_
    have hb5 := hb2 (by assumption)
    refine x_r [(3, .dec false)] [3, 4, 6, 8, 41] [3, 4, 8, 8440] [.ref 3 0, .ref 4 0, I pl_1, .ref 8 0, Bv false] [some (bxBigram b), some (.box [I 0, nilA]), some (.box [I m.Default, .arr 8440]), some (tABigram out_2)] [¬ (60 ≤ (m.Bigrams.length : Int))] ⟨(by omega), trivial⟩ ?_
    refine xe_then ?_
    refine x_false rfl ?_
    refine x_skip ?_
    refine xe_then ?_
    refine x_seq ?_
    refine x_weak [(8430, 8440)] (T := [(3, .ref 3 0), (4, .ref 4 0), (6, I pl_1), (8, .ref 8 0), (41, Bv false)]) (O := [(3, bxBigram b), (4, .box [I 0, nilA]), (8, .box [I m.Default, .arr 8430]), (8430, tABigram out_2)]) rfl (⟨.inl rfl, .inl rfl, .inl rfl, .inl rfl, .inl rfl, trivial⟩) (⟨.inl rfl, .inl rfl, .inl rfl, .inl rfl, trivial⟩) ?_
    obtain ⟨v_3, hx3_0, hc3⟩ := insB_ok out_2 pl_1 ([b]) (by rw [hcll]; exact hb0) rfl (by omega)
    have hins := hx3_0
    refine x_r [(4, .new 8432), (5, .lendc [] [(8430, tABigram out_2), (8432, tABigram ([b]))] [(8431, tABigram v_3)] [(true, .any), (true, .any), (true, .any)] false (.arr 8431))] [4, 8] [4, 8, 8431] [.ref 4 0, .ref 8 0] [some (.box [I 0, nilA]), some (.box [I m.Default, .arr 8431]), some (tABigram v_3)] [CallC Tryz.prog 60 [] [.arr 8430, I pl_1, .arr 8432] (lookO [(8430, tABigram out_2), (8432, tABigram ([b]))]) false (.arr 8431) (lookO [(8431, tABigram v_3)]) ∧ (((tABigram out_2 : Ob) = tABigram out_2 ∨ obLe noOb true (tABigram out_2) (tABigram out_2)) ∧ taggedO false (tABigram out_2)) ∧ (((.arr 3 1 (litF [Sv b.First, Sv b.Second, I b.Cost] 3) : Ob) = tABigram ([b]) ∨ obLe noOb true (.arr 3 1 (litF [Sv b.First, Sv b.Second, I b.Cost] 3)) (tABigram ([b]))) ∧ taggedO false (tABigram ([b]))) ∧ True] ⟨⟨hc3, ⟨.inl rfl, fun _ _ => tagcBigram false _⟩, ⟨.inr ⟨rfl, (by first | rfl | (simp; done) | (simp; omega) | omega), fun i_ hi_ => .inl (match i_, hi_ with | 0, _ => rfl | (i + 1), h => absurd h (by simp))⟩, fun _ _ => tagcBigram false _⟩, trivial⟩, trivial⟩ ?_
    refine xe_then ?_
    refine xR [] [4, 5] [4, 8431] [.ref 4 0, I 0] [some (.box [I m.Default, .arr 8431]), some (tABigram v_3)] [] trivial ?_
    refine x_ret ?_
    refine xe_end ((Model.mk m.Default v_3), 0) (show (okMod (Model.mk m.Default v_3)) ∧ (∀ x_ y_ : ByteArray, pcM (Model.mk m.Default v_3) x_ y_ = if x_ = b.First ∧ y_ = b.Second then b.Cost else pcM m x_ y_) ∧ (0 = 0) ∧ (True) from ⟨(by first | (rw [hcl]; exact (mod_found hmd hbg (by omega) hb3.2).1) | (rw [hins, hcl]; exact (mod_ins hmd hbg h60 (by omega) (fun j hj => hlo j (by omega)) (fun j h1 h2 => hhi j (by omega) h2) hb5).1)), (by first | (rw [hcl]; exact (mod_found hmd hbg (by omega) hb3.2).2) | (rw [hins, hcl]; exact (mod_ins hmd hbg h60 (by omega) (fun j hj => hlo j (by omega)) (fun j h1 h2 => hhi j (by omega) h2) hb5).2)), (by rfl), trivial⟩) (trivial) (.tup [.agg [I m.Default, .arr 8431], I 0]) (by kernel_rfl) (.inr ⟨⟨rfl, ⟨⟨(fun _ => rfl), rfl, rfl, fun i _ => .inl rfl⟩, rfl⟩⟩, ⟨rfl, rfl⟩⟩) (fun _ => rfl) (fun _ => (by simp [tagged, taggedL, tagBigram]))
  obtain ⟨⟨v, c⟩, ⟨hh0, hh1, hh2, _⟩, hc⟩ := hh
  exact ⟨v, c, hh0, hh1, hh2, hc⟩



-- impl.pairCost
theorem pairCost_ok (m : Model) (a : ByteArray) (b : ByteArray) (hmd : okMod m) : ∃ (v : Int), (v = pcM m a b) ∧ Con Tryz.prog 62 [agModel m, Sv a, Sv b] true (I v) := by
  have hc := hmd.2.1
  have hh : ∃ r : Int, ((r = pcM m a b) ∧ (True)) ∧ CallOK Tryz.prog 62 [agModel m, Sv a, Sv b] (lookO []) true (I r) (lookO []) := by
    refine fn_okX (Φ := fun r : Int => (r = pcM m a b) ∧ (True)) [] (fun r => []) (fn := Tryz.f62) (nt := 28) Tryz.func62 rfl rfl (args := [agModel m, Sv a, Sv b]) rfl (allcons (.inl ⟨rfl, by simp [tagged, taggedL, tagBigram]⟩) (allcons (.inl ⟨rfl, trivial⟩) (allcons (.inl ⟨rfl, trivial⟩) allnil))) (res := fun r => I r) ?_
    refine xR [(0, .new 3)] [1, 2, 3] [3] [Sv a, Sv b, .ref 3 0] [some (bxModel m)] [] trivial ?_
    refine x_seq ?_
    obtain ⟨pl_1, found_1, hx1_0, hx1_1, hx1_2, hx1_3, hx1_4, hc1⟩ := bsBig_ok m.Bigrams (Bigram.mk a b 0) hmd.2.2.2 (by omega)
    have hb0 := hx1_0
    have hb1 := hx1_1
    have hb2 := hx1_2
    refine x_r [(5, .call [(true, .any), (true, .any), (true, .any)] true (.tup [I pl_1, Bv found_1]))] [3, 7, 8] [3] [.ref 3 0, I pl_1, Bv found_1] [some (bxModel m)] [Con Tryz.prog 57 [slBigram false m.Bigrams, .agg [Sv a, Sv b, I 0], .fn 58 []] true (.tup [I pl_1, Bv found_1]) ∧ True] ⟨⟨hc1, trivial⟩, trivial⟩ ?_
    refine xe_then ?_
    refine x_seq ?_
    refine x_seq ?_
    rcases Bool.eq_false_or_eq_true found_1 with h1 | h1
    ·subst h1
     have hb3 := hb1 rfl
     have hb4 := hb3.1
     refine x_r [] [3, 7, 19] [3] [.ref 3 0, I pl_1, Bv false] [some (bxModel m)] [] trivial ?_
     refine xe_then ?_
     refine x_false rfl ?_
     refine x_skip ?_
     refine xe_then ?_
     refine xR [] [6] [] [I ((at_ m.Bigrams pl_1.toNat).Cost)] [] [(0 : Int) ≤ pl_1 ∧ pl_1 < (m.Bigrams.length : Int)] ⟨⟨(by omega), (by omega)⟩, trivial⟩ ?_
     refine x_ret ?_
     refine xe_end ((at_ m.Bigrams pl_1.toNat).Cost) (show (((at_ m.Bigrams pl_1.toNat).Cost) = pcM m a b) ∧ (True) from ⟨(by first | exact (pc_hit hmd.2.2.2 (by omega) (hb1 rfl).2).symm | exact (pc_no (hb2 rfl)).symm), trivial⟩) (trivial) (I ((at_ m.Bigrams pl_1.toNat).Cost)) (by kernel_rfl) (.inl rfl) (fun _ => rfl) (fun _ => trivial)
    subst h1
    refine x_r [] [3, 7, 19] [3] [.ref 3 0, I pl_1, Bv true] [some (bxModel m)] [] trivial ?_
    refine xe_then ?_
    refine x_true rfl ?_
    refine xR [] [6] [] [I m.Default] [] [] trivial ?_
    refine x_ret ?_
    refine xe_ret_then ?_
    refine xe_end m.Default (show (m.Default = pcM m a b) ∧ (True) from ⟨(by first | exact (pc_hit hmd.2.2.2 (by omega) (hb1 rfl).2).symm | exact (pc_no (hb2 rfl)).symm), trivial⟩) (trivial) (I m.Default) (by kernel_rfl) (.inl rfl) (fun _ => rfl) (fun _ => trivial)
  obtain ⟨v, ⟨hh0, _⟩, hc⟩ := hh
  exact ⟨v, hh0, hc⟩



-- impl.PairCost
theorem PairCost_ok (m : Model) (a : ByteArray) (b : ByteArray) (hmd : okMod m) (hwa : a = ⟨#[]⟩ ∨ okWord a = true) (hwb : okWord b = true) : ∃ (v : Int) (c : Int), (v = pcM m a b) ∧ (c = 0) ∧ Con Tryz.prog 20 [agModel m, Sv a, Sv b] true (.tup [I v, I c]) := by
  have hzb := (okWord_iff.1 hwb).1
  have hza : a.size ≤ 10 := by rcases hwa with q | q; (rw [q]; decide); exact (okWord_iff.1 q).1.2
  have hh : ∃ r : Int × Int, ((r.1 = pcM m a b) ∧ (r.2 = 0) ∧ (True)) ∧ CallOK Tryz.prog 20 [agModel m, Sv a, Sv b] (lookO []) true (.tup [I r.1, I r.2]) (lookO []) := by
    refine fn_okX (Φ := fun r : Int × Int => (r.1 = pcM m a b) ∧ (r.2 = 0) ∧ (True)) [] (fun r => []) (fn := Tryz.f20) (nt := 27) Tryz.func20 rfl rfl (args := [agModel m, Sv a, Sv b]) rfl (allcons (.inl ⟨rfl, by simp [tagged, taggedL, tagBigram]⟩) (allcons (.inl ⟨rfl, trivial⟩) (allcons (.inl ⟨rfl, trivial⟩) allnil))) (res := fun r => .tup [I r.1, I r.2]) ?_
    refine xR [(0, .new 3)] [1, 2, 3] [3] [Sv a, Sv b, .ref 3 0] [some (bxModel m)] [] trivial ?_
    refine x_seq ?_
    refine xR [(1, .call [(true, .any)] true (Bv true))] [1, 2, 3, 10] [3] [Sv a, Sv b, .ref 3 0, Bv false] [some (bxModel m)] [Con Tryz.prog 55 [agModel m] true (Bv true) ∧ True] ⟨⟨(ValidModel_ok m hmd), trivial⟩, trivial⟩ ?_
    refine x_false rfl ?_
    refine x_skip ?_
    refine xe_then ?_
    refine x_seq ?_
    refine x_seq ?_
    by_cases h1 : a = (⟨#[]⟩ : ByteArray)
    ·refine x_r [(1, .call [(true, .any)] true (Bv true)), (5, .dec false)] [1, 2, 3, 22] [3] [Sv a, Sv b, .ref 3 0, Bv false] [some (bxModel m)] [Con Tryz.prog 61 [Sv b] true (Bv true) ∧ True, ¬ (a ≠ (⟨#[]⟩ : ByteArray))] ⟨⟨(con_bool hwb (IsWord_ok b (by omega))), trivial⟩, (fun hq => hq h1), trivial⟩ ?_
     refine xe_then ?_
     refine x_false rfl ?_
     refine x_skip ?_
     refine xe_then ?_
     refine x_seq ?_
     obtain ⟨v_1, hx1_0, hc1⟩ := pairCost_ok m a b hmd
     refine x_r [(3, .call [(true, .any), (true, .any), (true, .any)] true (I v_1))] [6, 7] [] [I v_1, I 0] [] [Con Tryz.prog 62 [agModel m, Sv a, Sv b] true (I v_1) ∧ True] ⟨⟨hc1, trivial⟩, trivial⟩ ?_
     refine xe_then ?_
     refine x_ret ?_
     refine xe_end (v_1, 0) (show (v_1 = pcM m a b) ∧ (0 = 0) ∧ (True) from ⟨(by first | assumption | rfl), (by first | assumption | rfl), trivial⟩) (trivial) (.tup [I v_1, I 0]) (by kernel_rfl) (.inl rfl) (fun _ => rfl) (fun _ => (by simp [tagged, taggedL]))
    refine x_r [(1, .call [(true, .any)] true (Bv true)), (5, .dec true), (8, .call [(true, .any)] true (Bv true))] [1, 2, 3, 22] [3] [Sv a, Sv b, .ref 3 0, Bv false] [some (bxModel m)] [Con Tryz.prog 61 [Sv b] true (Bv true) ∧ True, a ≠ (⟨#[]⟩ : ByteArray), Con Tryz.prog 61 [Sv a] true (Bv true) ∧ True] ⟨⟨(con_bool hwb (IsWord_ok b (by omega))), trivial⟩, h1, ⟨(con_bool (hwa.resolve_left (by assumption)) (IsWord_ok a (by omega))), trivial⟩, trivial⟩ ?_
    refine xe_then ?_
    refine x_false rfl ?_
    refine x_skip ?_
    refine xe_then ?_
    refine x_seq ?_
    obtain ⟨v_2, hx2_0, hc2⟩ := pairCost_ok m a b hmd
    refine x_r [(3, .call [(true, .any), (true, .any), (true, .any)] true (I v_2))] [6, 7] [] [I v_2, I 0] [] [Con Tryz.prog 62 [agModel m, Sv a, Sv b] true (I v_2) ∧ True] ⟨⟨hc2, trivial⟩, trivial⟩ ?_
    refine xe_then ?_
    refine x_ret ?_
    refine xe_end (v_2, 0) (show (v_2 = pcM m a b) ∧ (0 = 0) ∧ (True) from ⟨(by first | assumption | rfl), (by first | assumption | rfl), trivial⟩) (trivial) (.tup [I v_2, I 0]) (by kernel_rfl) (.inl rfl) (fun _ => rfl) (fun _ => (by simp [tagged, taggedL]))
  obtain ⟨⟨v, c⟩, ⟨hh0, hh1, _⟩, hc⟩ := hh
  exact ⟨v, c, hh0, hh1, hc⟩



-- impl.WordsCost$1
theorem WordsCost1_ok (w : ByteArray) (hw : okWord w = true) : Con Tryz.prog 64 [Sv w] true (Bv false) := by
  have hwz := (okWord_iff.1 hw).1
  refine fn_ok (fn := Tryz.f64) (nt := 6) Tryz.func64 rfl rfl rfl rfl (by simp [taggedL, tagged]) fun B hB => ?_
  refine aR [] [0] [] [Sv w] [] [] hB trivial ?_
  refine aR [(1, .call [(true, .any)] true (Bv (okWord w)))] [2] [] [Bv (!((okWord w)))] [] [Con Tryz.prog 61 [Sv w] true (Bv (okWord w)) ∧ True] hB ⟨⟨(IsWord_ok w (by omega)), trivial⟩, trivial⟩ ?_
  refine aw_ret ?_
  refine ae_ret hB (Bv (!((okWord w)))) (by kernel_rfl) (.inl (by first | rfl | (rw [hw]; rfl))) rfl (fun _ => trivial)



def wcM (m : Model) (l : ByteArray) : List ByteArray → Int
  | [] => 0
  | w :: r => pcM m l w + wcM m w r
def lastW (l : ByteArray) (ws : List ByteArray) (k : Nat) : ByteArray := if k = 0 then l else at_ ws (k - 1)
def wcK (m : Model) (l : ByteArray) (ws : List ByteArray) : Nat → Int
  | 0 => 0
  | k + 1 => wcK m l ws k + pcM m (lastW l ws k) (at_ ws k)
theorem wcK_bd {m : Model} (h : okMod m) (l : ByteArray) (ws : List ByteArray) : ∀ k : Nat, 0 ≤ wcK m l ws k ∧ wcK m l ws k ≤ 1000000 * k
  | 0 => by simp [wcK]
  | k + 1 => by
    have := wcK_bd h l ws k
    have := pc_bd h (lastW l ws k) (at_ ws k)
    unfold wcK; omega
theorem wcK_cons (m : Model) (l w : ByteArray) (r : List ByteArray) : ∀ k : Nat, wcK m l (w :: r) (k + 1) = pcM m l w + wcK m w r k
  | 0 => by simp [wcK, lastW, at_]
  | k + 1 => by
    show wcK m l (w :: r) (k + 1) + pcM m (lastW l (w :: r) (k + 1)) (at_ (w :: r) (k + 1)) = pcM m l w + (wcK m w r k + pcM m (lastW w r k) (at_ r k))
    rw [wcK_cons m l w r k]
    have e1 : lastW l (w :: r) (k + 1) = lastW w r k := by
      unfold lastW; rw [if_neg (by omega)]
      cases k with
      | zero => rfl
      | succ n => rw [if_neg (by omega)]; simp [at_]
    have e2 : at_ (w :: r) (k + 1) = at_ r k := by simp [at_]
    rw [e1, e2]; omega
theorem wcK_all (m : Model) : ∀ (ws : List ByteArray) (l : ByteArray), wcK m l ws ws.length = wcM m l ws
  | [], l => rfl
  | w :: r, l => by rw [List.length_cons, wcK_cons, wcK_all m r w]; rfl


-- impl.wordsCost
theorem wordsCost_ok (m : Model) (words : List ByteArray) (hmd : okMod m) (hwl : words.length ≤ 1000) : ∃ (v : Int), (v = wcM m ⟨#[]⟩ words) ∧ (0 ≤ v ∧ v ≤ 1000000 * (words.length : Int)) ∧ Con Tryz.prog 65 [agModel m, slS false words] true (I v) := by
  have hh : ∃ r : Int, ((r = wcM m ⟨#[]⟩ words) ∧ (0 ≤ r ∧ r ≤ 1000000 * (words.length : Int)) ∧ (True)) ∧ CallOK Tryz.prog 65 [agModel m, slS false words] (lookO []) true (I r) (lookO []) := by
    refine fn_okX (Φ := fun r : Int => (r = wcM m ⟨#[]⟩ words) ∧ (0 ≤ r ∧ r ≤ 1000000 * (words.length : Int)) ∧ (True)) [] (fun r => []) (fn := Tryz.f65) (nt := 24) Tryz.func65 rfl rfl (args := [agModel m, slS false words]) rfl (allcons (.inl ⟨rfl, by simp [tagged, taggedL, tagBigram]⟩) (allcons (.inl ⟨rfl, tagS false _⟩) allnil)) (res := fun r => I r) ?_
    refine xR [(0, .new 2)] [1, 2] [2] [slS false words, .ref 2 0] [some (bxModel m)] [] trivial ?_
    refine xR [] [1, 2, 5] [2] [slS false words, .ref 2 0, I 0] [some (bxModel m)] [] trivial ?_
    refine xR [] [1, 2, 5, 6] [2] [slS false words, .ref 2 0, I 0, Sv (⟨#[]⟩ : ByteArray)] [some (bxModel m)] [] trivial ?_
    refine x_seq ?_
    refine xR [] [2, 5, 6, 9, 10, 11] [2] [.ref 2 0, I 0, Sv (⟨#[]⟩ : ByteArray), slS false words, I (words.length : Int), I 0] [some (bxModel m)] [] trivial ?_
    refine x_block ?_
    refine x_loop (X := Int × ByteArray × Int) (fun x => mkS [(2, .ref 2 0), (5, I x.1), (6, Sv x.2.1), (9, slS false words), (10, I (words.length : Int)), (11, I x.2.2)] [(2, bxModel m)]) (fun x => (0 ≤ x.2.2 ∧ x.2.2 ≤ (words.length : Int)) ∧ (x.1 = wcK m ⟨#[]⟩ words x.2.2.toNat) ∧ (x.2.1 = lastW ⟨#[]⟩ words x.2.2.toNat) ∧ (0 ≤ x.1 ∧ x.1 ≤ 1000000 * x.2.2) ∧ True) (fun x => ((words.length : Int) - x.2.2).toNat) (0, (⟨#[]⟩ : ByteArray), 0) rfl (show (0 ≤ (0 : Int) ∧ (0 : Int) ≤ (words.length : Int)) ∧ ((0 : Int) = wcK m ⟨#[]⟩ words (0 : Int).toNat) ∧ ((⟨#[]⟩ : ByteArray) = lastW ⟨#[]⟩ words (0 : Int).toNat) ∧ (0 ≤ (0 : Int) ∧ (0 : Int) ≤ 1000000 * (0 : Int)) ∧ True from ⟨(by omega), (by rfl), (by rfl), (by omega), trivial⟩) (fun x hI => ?_)
    obtain ⟨sum, last, t11⟩ := x
    obtain ⟨hi0, hsu, hla, hsb, _⟩ : (0 ≤ t11 ∧ t11 ≤ (words.length : Int)) ∧ (sum = wcK m ⟨#[]⟩ words t11.toNat) ∧ (last = lastW ⟨#[]⟩ words t11.toNat) ∧ (0 ≤ sum ∧ sum ≤ 1000000 * t11) ∧ True := hI
    show XW _ _ _ _ (mkS [(2, .ref 2 0), (5, I sum), (6, Sv last), (9, slS false words), (10, I (words.length : Int)), (11, I t11)] [(2, bxModel m)]) _ _
    refine x_seq ?_
    by_cases h1 : t11 < (words.length : Int)
    ·have hi : t11.toNat < words.length := by omega
     have hpb := pc_bd hmd last (at_ words t11.toNat)
     refine x_r [(0, .dec true)] [2, 5, 6, 9, 10, 11, 12] [2] [.ref 2 0, I sum, Sv last, slS false words, I (words.length : Int), I t11, Bv true] [some (bxModel m)] [t11 < (words.length : Int)] ⟨h1, trivial⟩ ?_
     refine xe_then ?_
     refine x_seq ?_
     refine x_true rfl ?_
     refine x_skip ?_
     refine xe_then ?_
     refine x_seq ?_
     refine x_block ?_
     refine xR [] [2, 5, 6, 8, 9, 10, 11] [2] [.ref 2 0, I sum, Sv last, Sv (at_ words t11.toNat), slS false words, I (words.length : Int), I t11] [some (bxModel m)] [(0 : Int) ≤ t11 ∧ t11 < (words.length : Int)] ⟨⟨(by omega), (by omega)⟩, trivial⟩ ?_
     refine x_seq ?_
     obtain ⟨v_1, hx1_0, hc1⟩ := pairCost_ok m last (at_ words t11.toNat) hmd
     have hpv := hx1_0
     refine x_r [(4, .call [(true, .any), (true, .any), (true, .any)] true (I v_1))] [2, 5, 8, 9, 10, 11] [2] [.ref 2 0, I (sum + v_1), Sv (at_ words t11.toNat), slS false words, I (words.length : Int), I t11] [some (bxModel m)] [Con Tryz.prog 62 [agModel m, Sv last, Sv (at_ words t11.toNat)] true (I v_1) ∧ True, inR .i64 (sum + v_1)] ⟨⟨hc1, trivial⟩, (inR_i64 (by omega) (by omega)), trivial⟩ ?_
     refine xe_then ?_
     refine x_r [] [2, 5, 6, 9, 10, 11] [2] [.ref 2 0, I (sum + v_1), Sv (at_ words t11.toNat), slS false words, I (words.length : Int), I t11] [some (bxModel m)] [] trivial ?_
     refine xe_block 1 ?_
     refine xe_then ?_
     refine x_r [] [2, 5, 6, 9, 10, 11] [2] [.ref 2 0, I (sum + v_1), Sv (at_ words t11.toNat), slS false words, I (words.length : Int), I (t11 + 1)] [some (bxModel m)] [inR .i64 (t11 + 1)] ⟨(inR_i64 (by omega) (by omega)), trivial⟩ ?_
     exact xe_again ((sum + v_1), (at_ words t11.toNat), (t11 + 1)) rfl (show (0 ≤ (t11 + 1) ∧ (t11 + 1) ≤ (words.length : Int)) ∧ ((sum + v_1) = wcK m ⟨#[]⟩ words (t11 + 1).toNat) ∧ ((at_ words t11.toNat) = lastW ⟨#[]⟩ words (t11 + 1).toNat) ∧ (0 ≤ (sum + v_1) ∧ (sum + v_1) ≤ 1000000 * (t11 + 1)) ∧ True from ⟨(by omega), (by rw [show (t11 + 1).toNat = t11.toNat + 1 from by omega]; unfold wcK; rw [hpv, hsu, hla]), (by unfold lastW; rw [if_neg (by omega), show (t11 + 1).toNat - 1 = t11.toNat from by omega]), (by omega), trivial⟩) (by first | (show (((words.length : Int) - (t11 + 1)).toNat : Nat) < ((words.length : Int) - t11).toNat; omega) | (dsimp only; omega))
    have hwa := wcK_all m words ⟨#[]⟩
    have hie : t11.toNat = words.length := by omega
    have hbd := wcK_bd hmd ⟨#[]⟩ words words.length
    refine x_r [(0, .dec false)] [2, 5, 6, 9, 10, 11, 12] [2] [.ref 2 0, I sum, Sv last, slS false words, I (words.length : Int), I t11, Bv false] [some (bxModel m)] [¬ (t11 < (words.length : Int))] ⟨h1, trivial⟩ ?_
    refine xe_then ?_
    refine x_seq ?_
    refine x_false rfl ?_
    refine x_exit ?_
    refine xe_exit_then ?_
    refine xe_loop_exit ?_
    refine xe_exit_same ?_
    refine xe_then ?_
    refine xR [] [4] [] [I sum] [] [] trivial ?_
    refine x_ret ?_
    refine xe_end sum (show (sum = wcM m ⟨#[]⟩ words) ∧ (0 ≤ sum ∧ sum ≤ 1000000 * (words.length : Int)) ∧ (True) from ⟨(by first | omega | (rw [hsu, hie, hwa])), (by first | omega | (rw [hsu, hie, hwa])), trivial⟩) (trivial) (I sum) (by kernel_rfl) (.inl rfl) (fun _ => rfl) (fun _ => trivial)
  obtain ⟨v, ⟨hh0, hh1, _⟩, hc⟩ := hh
  exact ⟨v, hh0, hh1, hc⟩



def firstN (n : Nat) (p : Nat → Bool) : Int := match (List.range n).find? p with
  | some i => i
  | none => -1
theorem firstN_none {n : Nat} {p : Nat → Bool} (hn : ∀ i, i < n → p i = false) : firstN n p = -1 := by
  have h : (List.range n).find? p = none := by
    rw [List.find?_range_eq_none]
    intro i hi; simpa using hn i hi
  simp [firstN, h]
theorem firstN_cases (n : Nat) (p : Nat → Bool) : (firstN n p = -1 ∧ ∀ i, i < n → p i = false) ∨ ∃ k : Nat, firstN n p = k ∧ k < n ∧ p k = true ∧ ∀ i, i < k → p i = false := by
  by_cases h : ∃ k, k < n ∧ p k = true
  · right
    obtain ⟨k, hk, hp⟩ := h
    cases e : (List.range n).find? p with
    | none => rw [List.find?_range_eq_none] at e; exact absurd hp (by simpa using e k hk)
    | some i =>
      have e' := e
      rw [List.find?_range_eq_some] at e
      exact ⟨i, by simp [firstN, e'], List.mem_range.1 e.2.1, e.1, fun j hj => by simpa using e.2.2 j hj⟩
  · left
    have h' : ∀ i, i < n → p i = false := fun i hi => by rw [← Bool.not_eq_true]; exact fun hp => h ⟨i, hi, hp⟩
    exact ⟨firstN_none h', h'⟩
theorem firstN_any (n : Nat) (p : Nat → Bool) : decide (0 ≤ firstN n p) = anyN n p := by
  rcases firstN_cases n p with ⟨h1, h2⟩ | ⟨k, h1, h2, h3, _⟩
  · rw [h1, anyN_none h2]; decide
  · rw [h1, anyN_at h2 h3]; simp





-- impl.WordsCost
theorem containsW1_ok_idx (s : List ByteArray) (hel : ∀ j, j < s.length → okWord (at_ s j) = true) : Con Tryz.prog 114 [slS false s, .fn 64 []] true (I (firstN s.length (fun j => false))) := by
  refine fn_ok (fn := Tryz.f114) (nt := 19) Tryz.func114 rfl rfl rfl rfl (by simp [taggedL, tagged, tagS]) fun B hB => ?_
  refine aw_lens (x := slS false s) 0 rfl (fun len_s => ?_)
  simp [LenOK, LenL, cS, fS, slS] at len_s
  refine aR [] [0, 1] [] [slS false s, .fn 64 []] [] [] hB trivial ?_
  refine aw_seq ?_
  refine aR [] [0, 1, 7, 8] [] [slS false s, .fn 64 [], I (s.length : Int), I 0] [] [] hB trivial ?_
  refine aw_block ?_
  refine aw_loop (fun gn gσ => ∃ (t8 : Int), gn = ((s.length : Int) - t8).toNat ∧ (0 ≤ t8 ∧ t8 ≤ (s.length : Int)) ∧ (∀ j : Nat, (j : Int) < t8 → false = false) ∧ gσ = mkS [(0, slS false s), (1, .fn 64 []), (7, I (s.length : Int)), (8, I t8)] []) (((s.length : Int) - 0).toNat) ⟨0, rfl, (by omega), (by intro j hj; omega), rfl⟩ (fun gn gσ hI => ?_)
  obtain ⟨t8, rfl, hi0, hall0, rfl⟩ := hI
  refine aw_seq ?_
  by_cases h1 : t8 < (s.length : Int)
  ·have hi : t8.toNat < s.length := by omega
   refine aw_r [(0, .dec true)] [0, 1, 7, 8, 9] [] [slS false s, .fn 64 [], I (s.length : Int), I t8, Bv true] [] [t8 < (s.length : Int)] hB ⟨h1, trivial⟩ ?_
   refine ae_then ?_
   refine aw_seq ?_
   refine aw_true rfl ?_
   refine aw_skip ?_
   refine ae_then ?_
   refine aw_seq ?_
   refine aw_block ?_
   refine aR [] [0, 1, 5, 7, 8] [] [slS false s, .fn 64 [], I t8, I (s.length : Int), I t8] [] [] hB trivial ?_
   refine aR [(5, .call [(true, .any)] true (Bv false))] [0, 1, 5, 7, 8, 16] [] [slS false s, .fn 64 [], I t8, I (s.length : Int), I t8, Bv false] [] [(0 : Int) ≤ t8 ∧ t8 < (s.length : Int), Con Tryz.prog 64 [Sv (at_ s t8.toNat)] true (Bv false) ∧ True] hB ⟨⟨(by omega), (by omega)⟩, ⟨(WordsCost1_ok (at_ s t8.toNat) (hel _ hi)), trivial⟩, trivial⟩ ?_
   refine aw_false rfl ?_
   refine aw_skip ?_
   refine ae_block 1 ?_
   refine ae_then ?_
   refine aw_r [] [0, 1, 7, 8] [] [slS false s, .fn 64 [], I (s.length : Int), I (t8 + 1)] [] [inR .i64 (t8 + 1)] hB ⟨(inR_i64 (by omega) (by omega)), trivial⟩ ?_
   exact ae_again _ (by omega) ⟨(t8 + 1), rfl, (by omega), (by intro j hj; by_cases ej : j = t8.toNat; (subst ej; first | assumption | rfl); exact hall0 j (by omega)), rfl⟩
  have hfin : firstN s.length (fun j => false) = -1 := firstN_none (fun j hj => hall0 j (by omega))
  refine aw_r [(0, .dec false)] [0, 1, 7, 8, 9] [] [slS false s, .fn 64 [], I (s.length : Int), I t8, Bv false] [] [¬ (t8 < (s.length : Int))] hB ⟨h1, trivial⟩ ?_
  refine ae_then ?_
  refine aw_seq ?_
  refine aw_false rfl ?_
  refine aw_exit ?_
  refine ae_exit_then ?_
  refine ae_exit_then ?_
  refine ae_exit_same ?_
  refine ae_then ?_
  refine aR [] [4] [] [I (-1)] [] [] hB trivial ?_
  refine aw_ret ?_
  refine ae_ret hB (I (-1)) (by kernel_rfl) (.inl (by refine congrArg I ?_; first | (rw [hfin]; done) | (rw [hfin]; omega))) rfl (fun _ => trivial)

theorem containsW1_ok (s : List ByteArray) (hel : ∀ j, j < s.length → okWord (at_ s j) = true) : Con Tryz.prog 63 [slS false s, .fn 64 []] true (Bv (anyN s.length (fun j => false))) := by
  refine fn_ok (fn := Tryz.f63) (nt := 9) Tryz.func63 rfl rfl rfl rfl (by simp [taggedL, tagged, tagS]) fun B hB => ?_
  refine aw_lens (x := slS false s) 0 rfl (fun len_s => ?_)
  simp [LenOK, LenL, cS, fS, slS] at len_s
  refine aR [] [0, 1] [] [slS false s, .fn 64 []] [] [] hB trivial ?_
  refine aR [(2, .call [(true, .any), (true, .any)] true (I (firstN s.length (fun j => false))))] [4] [] [Bv (decide (0 ≤ (firstN s.length (fun j => false))))] [] [Con Tryz.prog 114 [slS false s, .fn 64 []] true (I (firstN s.length (fun j => false))) ∧ True] hB ⟨⟨(containsW1_ok_idx s hel), trivial⟩, trivial⟩ ?_
  refine aw_ret ?_
  refine ae_ret hB (Bv (decide (0 ≤ (firstN s.length (fun j => false))))) (by kernel_rfl) (.inl (by exact congrArg Bv (firstN_any _ _))) rfl (fun _ => trivial)

theorem WordsCost_ok (m : Model) (words : List ByteArray) (hmd : okMod m) (hww : ∀ w ∈ words, okWord w = true) (hwl : words.length ≤ 8) : ∃ (v : Int) (c : Int), (v = wcM m ⟨#[]⟩ words) ∧ (0 ≤ v ∧ v ≤ 1000000 * (words.length : Int)) ∧ (c = 0) ∧ Con Tryz.prog 21 [agModel m, slS false words] true (.tup [I v, I c]) := by
  have hh : ∃ r : Int × Int, ((r.1 = wcM m ⟨#[]⟩ words) ∧ (0 ≤ r.1 ∧ r.1 ≤ 1000000 * (words.length : Int)) ∧ (r.2 = 0) ∧ (True)) ∧ CallOK Tryz.prog 21 [agModel m, slS false words] (lookO []) true (.tup [I r.1, I r.2]) (lookO []) := by
    refine fn_okX (Φ := fun r : Int × Int => (r.1 = wcM m ⟨#[]⟩ words) ∧ (0 ≤ r.1 ∧ r.1 ≤ 1000000 * (words.length : Int)) ∧ (r.2 = 0) ∧ (True)) [] (fun r => []) (fn := Tryz.f21) (nt := 20) Tryz.func21 rfl rfl (args := [agModel m, slS false words]) rfl (allcons (.inl ⟨rfl, by simp [tagged, taggedL, tagBigram]⟩) (allcons (.inl ⟨rfl, tagS false _⟩) allnil)) (res := fun r => .tup [I r.1, I r.2]) ?_
    refine xR [(0, .new 2)] [1, 2] [2] [slS false words, .ref 2 0] [some (bxModel m)] [] trivial ?_
    refine x_seq ?_
    refine x_block ?_
    refine xR [(1, .call [(true, .any)] true (Bv true))] [1, 2, 6] [2] [slS false words, .ref 2 0, Bv false] [some (bxModel m)] [Con Tryz.prog 55 [agModel m] true (Bv true) ∧ True] ⟨⟨(ValidModel_ok m hmd), trivial⟩, trivial⟩ ?_
    refine x_false rfl ?_
    refine xR [(1, .call [(true, .any), (true, .any)] true (Bv false))] [1, 2, 10] [2] [slS false words, .ref 2 0, Bv false] [some (bxModel m)] [Con Tryz.prog 63 [slS false words, .fn 64 []] true (Bv false) ∧ True] ⟨⟨(con_bool (by rw [anyN_none fun _ _ => rfl]) (containsW1_ok words (fun j hj => hww _ (at_mem hj)))), trivial⟩, trivial⟩ ?_
    refine x_false rfl ?_
    refine xR [(2, .dec false)] [1, 2, 13] [2] [slS false words, .ref 2 0, Bv false] [some (bxModel m)] [¬ (8 < (words.length : Int))] ⟨(by omega), trivial⟩ ?_
    refine x_false rfl ?_
    refine x_skip ?_
    refine xe_block 0 ?_
    refine xe_then ?_
    refine x_seq ?_
    obtain ⟨v_1, hx1_0, hx1_1, hc1⟩ := wordsCost_ok m words hmd (by omega)
    refine x_r [(2, .call [(true, .any), (true, .any)] true (I v_1))] [4, 5] [] [I v_1, I 0] [] [Con Tryz.prog 65 [agModel m, slS false words] true (I v_1) ∧ True] ⟨⟨hc1, trivial⟩, trivial⟩ ?_
    refine xe_then ?_
    refine x_ret ?_
    refine xe_end (v_1, 0) (show (v_1 = wcM m ⟨#[]⟩ words) ∧ (0 ≤ v_1 ∧ v_1 ≤ 1000000 * (words.length : Int)) ∧ (0 = 0) ∧ (True) from ⟨(by first | assumption | rfl), (by first | assumption | rfl), (by first | assumption | rfl), trivial⟩) (trivial) (.tup [I v_1, I 0]) (by kernel_rfl) (.inl rfl) (fun _ => rfl) (fun _ => (by simp [tagged, taggedL]))
  obtain ⟨⟨v, c⟩, ⟨hh0, hh1, hh2, _⟩, hc⟩ := hh
  exact ⟨v, c, hh0, hh1, hh2, hc⟩





def strB (xs : List Int) : ByteArray := ⟨(xs.map fun n => UInt8.ofNat n.toNat).toArray⟩
def bytesL (s : ByteArray) : List Int := s.data.toList.map fun b => (b.toNat : Int)
@[simp] theorem bytesL_len (s : ByteArray) : (bytesL s).length = s.size := by unfold bytesL; rw [List.length_map, Array.length_toList]; rfl

def decB (n : Int) : ByteArray := ⟨(Lib.itoa n).toArray⟩
def digs (u : Nat) : List Int := if h : u = 0 then [] else digs (u / 10) ++ [48 + ((u % 10 : Nat) : Int)]
termination_by u
decreasing_by omega
theorem digs_zero : digs 0 = [] := by rw [digs]; simp
theorem digs_pos {u : Nat} (h : u ≠ 0) : digs u = digs (u / 10) ++ [48 + ((u % 10 : Nat) : Int)] := by rw [digs]; simp [h]
theorem digs_len : ∀ (k u : Nat), u < 10 ^ k → (digs u).length ≤ k := by
  intro k
  induction k with
  | zero => intro u h; have : u = 0 := by simpa using h
            subst this; simp [digs_zero]
  | succ k ih =>
    intro u h
    by_cases e : u = 0
    · subst e; simp [digs_zero]
    · rw [digs_pos e]
      have := ih (u / 10) (by rw [Nat.pow_succ] at h; omega)
      simp; omega
theorem digs_dec : ∀ u : Nat, u ≠ 0 → (digs u).map (fun n => UInt8.ofNat n.toNat) = Lib.decDigits u := by
  intro u
  induction u using Nat.strongRecOn with
  | _ u ih =>
    intro e
    rw [digs_pos e, Lib.decDigits, List.map_append]
    by_cases h : u < 10
    · rw [dif_pos h, show u / 10 = 0 by omega, digs_zero]
      simp only [List.map_nil, List.nil_append, List.map_cons]
      congr 2
      omega
    · rw [dif_neg h, ih (u / 10) (by omega) (by omega)]
      simp only [List.map_cons, List.map_nil]
      congr 3
theorem decB_pos {n : Int} (h : 0 < n) : decB n = strB (digs n.natAbs) := by
  unfold decB strB Lib.itoa
  rw [if_neg (by omega), digs_dec _ (by omega), show n.toNat = n.natAbs by omega]
theorem decB_neg {n : Int} (h : n < 0) : decB n = (⟨#[45]⟩ : ByteArray) ++ strB (digs n.natAbs) := by
  unfold decB strB Lib.itoa
  rw [if_pos h, digs_dec _ (by omega)]
  apply ByteArray.ext
  rw [ByteArray.data_append]
  simp
theorem decB_zero : decB 0 = (⟨#[48]⟩ : ByteArray) := by
  unfold decB Lib.itoa
  rw [if_neg (by decide)]
  simp [Lib.decDigits]
theorem strB_size' (xs : List Int) : (strB xs).size = xs.length := by simp [strB, ByteArray.size]
theorem decB_size {n : Int} (h : -9223372036854775808 ≤ n ∧ n ≤ 9223372036854775807) : (decB n).size ≤ 20 := by
  have hl := digs_len 19 n.natAbs (by omega)
  rcases Int.lt_trichotomy n 0 with h1 | h1 | h1
  · rw [decB_neg h1, ByteArray.size_append, strB_size']
    have : (⟨#[45]⟩ : ByteArray).size = 1 := rfl
    omega
  · subst h1; rw [decB_zero]; decide
  · rw [decB_pos h1, strB_size']; omega

-- strconv.FormatInt
theorem formatInt_ok (n base : Int) (h : -9223372036854775808 ≤ n ∧ n ≤ 9223372036854775807) (hb : base = 10) : Con Tryz.prog 100 [I n, I base] true (Sv (decB n)) := by
  subst hb
  refine con_of_calls (vals := [.int .i64 n, .int .i64 10]) fun w hw => ?_
  refine (Tryz.strconv_FormatInt_10 n h.1 h.2 w (WX_tab hw)).mono ?_
  rintro e w' ⟨rfl, k, os, rfl⟩
  exact ⟨rfl, Lib.below_grow _ _ (Nat.le_refl _) k os⟩



-- impl.Decimal
theorem implDecimal_ok (n : Int) (hn : -9223372036854775808 ≤ n ∧ n ≤ 9223372036854775807) : Con Tryz.prog 45 [I n] true (Sv (decB n)) := by
  refine fn_ok (fn := Tryz.f45) (nt := 5) Tryz.func45 rfl rfl rfl rfl (by simp [taggedL, tagged]) fun B hB => ?_
  refine aR [] [0] [] [I n] [] [] hB trivial ?_
  refine aR [(1, .call [(true, .any), (true, .any)] true (Sv (decB n)))] [2] [] [Sv (decB n)] [] [Con Tryz.prog 100 [I n, I 10] true (Sv (decB n)) ∧ True] hB ⟨⟨(formatInt_ok n 10 (by omega) rfl), trivial⟩, trivial⟩ ?_
  refine aw_ret ?_
  refine ae_ret hB (Sv (decB n)) (by kernel_rfl) (.inl rfl) rfl (fun _ => trivial)



def jrest (sep : ByteArray) : List ByteArray → ByteArray
  | [] => ⟨#[]⟩
  | y :: l => (sep ++ y) ++ jrest sep l
def jnB (sep : ByteArray) : List ByteArray → ByteArray
  | [] => ⟨#[]⟩
  | x :: l => x ++ jrest sep l
theorem ba_nilT (x : ByteArray) : x ++ (⟨#[]⟩ : ByteArray) = x := by apply ByteArray.ext; simp
theorem nil_ba (x : ByteArray) : (⟨#[]⟩ : ByteArray) ++ x = x := by apply ByteArray.ext; simp
theorem jrest_snoc (sep y : ByteArray) : ∀ l, jrest sep (l ++ [y]) = (jrest sep l ++ sep) ++ y
  | [] => by simp only [List.nil_append, jrest, ba_nilT, nil_ba]
  | x :: l => by simp only [List.cons_append, jrest, jrest_snoc sep y l, ByteArray.append_assoc]
theorem jnB_snoc {sep y : ByteArray} {l : List ByteArray} (h : l ≠ []) : jnB sep (l ++ [y]) = (jnB sep l ++ sep) ++ y := by
  cases l with
  | nil => exact absurd rfl h
  | cons x l => simp only [List.cons_append, jnB, jrest_snoc, ByteArray.append_assoc]
def jnZ (xs : List ByteArray) : Nat → Nat
  | 0 => 0
  | k + 1 => jnZ xs k + (at_ xs k).size
def noB (c : UInt8) (s : ByteArray) : Prop := c ∉ s.data.toList
def splC (c : UInt8) (s : ByteArray) : List ByteArray := Lib.splitB ⟨#[c]⟩ 0 (Lib.countB s ⟨#[c]⟩) s
theorem indexByte_none (c : UInt8) : ∀ l : List UInt8, c ∉ l → Lib.indexByte l c = -1
  | [], _ => rfl
  | b :: l, h => by
    have h1 : ¬ b = c := fun e => h (by simp [e])
    have h2 := indexByte_none c l (fun e => h (by simp [e]))
    simp [Lib.indexByte, h1, h2]
theorem indexByte_hit (c : UInt8) (r : List UInt8) : ∀ l : List UInt8, c ∉ l → Lib.indexByte (l ++ c :: r) c = (l.length : Int)
  | [], _ => by simp [Lib.indexByte]
  | b :: l, h => by
    have h1 : ¬ b = c := fun e => h (by simp [e])
    have h2 := indexByte_hit c r l (fun e => h (by simp [e]))
    have h3 : ¬ (l.length : Int) = -1 := by omega
    simp [Lib.indexByte, h1, h2, h3]
theorem spl_none {c : UInt8} {s : ByteArray} (h : noB c s) : splC c s = [s] := by
  have hi : Lib.indexB s ⟨#[c]⟩ = -1 := by
    show Lib.index s.data.toList [c] = -1
    rw [Lib.index_one, indexByte_none c _ h]
  unfold splC
  rw [Lib.countB_miss _ _ hi, Lib.splitB_zero]
theorem ext_left (x y : ByteArray) : (x ++ y).extract 0 x.size = x := by
  exact ByteArray.extract_append_eq_left rfl
theorem ext_right (x y : ByteArray) : (x ++ y).extract x.size (x ++ y).size = y := by
  exact ByteArray.extract_append_eq_right rfl ByteArray.size_append
theorem spl_cons {c : UInt8} {x r : ByteArray} (h : noB c x) : splC c ((x ++ ⟨#[c]⟩) ++ r) = x :: splC c r := by
  have hi : Lib.indexB ((x ++ ⟨#[c]⟩) ++ r) ⟨#[c]⟩ = ((x.size : Nat) : Int) := by
    show Lib.index ((x ++ ⟨#[c]⟩) ++ r).data.toList [c] = _
    rw [Lib.index_one]
    have : ((x ++ ⟨#[c]⟩) ++ r).data.toList = x.data.toList ++ c :: r.data.toList := by simp
    rw [this, indexByte_hit c _ _ h]
    rfl
  have hz : (x ++ (⟨#[c]⟩ : ByteArray)).size = x.size + (⟨#[c]⟩ : ByteArray).size := by rw [ByteArray.size_append]
  have he : ((x ++ ⟨#[c]⟩) ++ r).extract (x.size + (⟨#[c]⟩ : ByteArray).size) ((x ++ ⟨#[c]⟩) ++ r).size = r := by
    rw [← hz]; exact ext_right _ _
  have hl : ((x ++ ⟨#[c]⟩) ++ r).extract 0 (x.size + 0) = x := by
    rw [Nat.add_zero, ByteArray.append_assoc]; exact ext_left _ _
  unfold splC
  rw [Lib.countB_hit _ _ _ (show 1 ≤ (⟨#[c]⟩ : ByteArray).size from Nat.le_refl 1) hi, he, Nat.add_comm 1, Lib.splitB_hit _ _ _ _ _ hi, he, hl]
theorem spl_join {c : UInt8} : ∀ {xs : List ByteArray}, xs ≠ [] → (∀ x ∈ xs, noB c x) → splC c (jnB ⟨#[c]⟩ xs) = xs
  | [], h, _ => absurd rfl h
  | [x], _, h => by
    rw [jnB, jrest, ba_nilT]; exact spl_none (h x (by simp))
  | x :: y :: l, _, h => by
    have e : jnB ⟨#[c]⟩ (x :: y :: l) = (x ++ ⟨#[c]⟩) ++ jnB ⟨#[c]⟩ (y :: l) := by simp only [jnB, jrest, ByteArray.append_assoc]
    rw [e, spl_cons (h x (by simp)), spl_join (by simp) fun z hz => h z (by simp [hz])]
theorem noB_app {c : UInt8} {x y : ByteArray} (h1 : noB c x) (h2 : noB c y) : noB c (x ++ y) := by
  unfold noB at *; simp [h1, h2]
theorem noB_nil {c : UInt8} : noB c ⟨#[]⟩ := by simp [noB]
theorem noB_jrest {c : UInt8} {sep : ByteArray} (hs : noB c sep) : ∀ {xs : List ByteArray}, (∀ x ∈ xs, noB c x) → noB c (jrest sep xs)
  | [], _ => noB_nil
  | x :: l, h => noB_app (noB_app hs (h x (by simp))) (noB_jrest hs fun z hz => h z (by simp [hz]))
theorem noB_join {c : UInt8} {sep : ByteArray} (hs : noB c sep) : ∀ {xs : List ByteArray}, (∀ x ∈ xs, noB c x) → noB c (jnB sep xs)
  | [], _ => noB_nil
  | x :: l, h => noB_app (h x (by simp)) (noB_jrest hs fun z hz => h z (by simp [hz]))
theorem decDigits_bytes : ∀ (k u : Nat), u < k → ∀ b ∈ Lib.decDigits u, 48 ≤ b.toNat ∧ b.toNat ≤ 57
  | 0, u, h, _, _ => absurd h (Nat.not_lt_zero _)
  | k + 1, u, h, b, hb => by
    rw [Lib.decDigits] at hb
    split at hb
    · have hb := List.mem_singleton.1 hb; subst hb; rw [UInt8.toNat_ofNat']; omega
    · rcases List.mem_append.1 hb with hb | hb
      · exact decDigits_bytes k (u / 10) (by omega) b hb
      · have hb := List.mem_singleton.1 hb; subst hb; rw [UInt8.toNat_ofNat']; omega
theorem decB_bytes (n : Int) : ∀ b ∈ (decB n).data.toList, b.toNat = 45 ∨ (48 ≤ b.toNat ∧ b.toNat ≤ 57) := fun b hb => by
  have hb : b ∈ Lib.itoa n := by simpa [decB] using hb
  unfold Lib.itoa at hb
  split at hb
  · rcases List.mem_cons.1 hb with e | hb
    · subst e; exact .inl rfl
    · exact .inr (decDigits_bytes _ _ (Nat.lt_succ_self _) b hb)
  · exact .inr (decDigits_bytes _ _ (Nat.lt_succ_self _) b hb)
theorem decB_noB {c : UInt8} (hc : c.toNat < 45 ∨ 57 < c.toNat) (n : Int) : noB c (decB n) := fun h => by
  have := decB_bytes n c h
  omega
theorem decDigits_ne (u : Nat) : Lib.decDigits u ≠ [] := by rw [Lib.decDigits]; split <;> simp
theorem puM_app (M : Nat) : ∀ (l r : List UInt8) (acc : Nat), Lib.parseUintM M acc (l ++ r) = match Lib.parseUintM M acc l with | .ok v => Lib.parseUintM M v r | .«syntax» => .«syntax» | .range => .range
  | [], r, acc => rfl
  | c :: l, r, acc => by
    simp only [List.cons_append, Lib.parseUintM]
    split
    · split
      · rfl
      · split
        · rfl
        · exact puM_app M l r _
    · rfl
theorem puM_dec {M : Nat} (hM : 1000000000000000000 ≤ M) : ∀ (k u : Nat), u < k → u < 1000000000000000000 → Lib.parseUintM M 0 (Lib.decDigits u) = .ok u
  | 0, u, h, _ => absurd h (Nat.not_lt_zero _)
  | k + 1, u, h, h2 => by
    rw [Lib.decDigits]
    split
    · rename_i h3
      have e : (UInt8.ofNat (48 + u)).toNat = 48 + u := by rw [UInt8.toNat_ofNat']; omega
      simp only [Lib.parseUintM, e]
      rw [if_pos (by omega), if_neg (by omega), if_neg (by omega)]
      simp
    · rename_i h3
      rw [puM_app, puM_dec hM k (u / 10) (by omega) (by omega)]
      have e : (UInt8.ofNat (48 + u % 10)).toNat = 48 + u % 10 := by rw [UInt8.toNat_ofNat']; omega
      simp only [Lib.parseUintM, e]
      rw [if_pos (by omega), if_neg (by omega), if_neg (by omega)]
      congr 1
      omega
theorem parse_dec {n : Int} (h : -1000000000000000000 < n ∧ n < 1000000000000000000) : Lib.parseIntB 64 (decB n).data.toList = .ok n := by
  have e : (decB n).data.toList = Lib.itoa n := by simp [decB]
  rw [e]
  unfold Lib.itoa
  split
  · rename_i h0
    rw [Lib.parseIntB_minus]
    unfold Lib.parseUintB
    rw [if_neg (decDigits_ne _), puM_dec (by decide) _ _ (Nat.lt_succ_self _) (by omega)]
    simp only [Lib.signedC]
    rw [if_neg (by omega)]
    congr 1
    omega
  · rename_i h0
    obtain ⟨c, r, hc⟩ : ∃ c r, Lib.decDigits n.toNat = c :: r := by
      cases h : Lib.decDigits n.toNat with
      | nil => exact absurd h (decDigits_ne _)
      | cons c r => exact ⟨c, r, rfl⟩
    have hb := decDigits_bytes _ n.toNat (Nat.lt_succ_self _) c (by rw [hc]; simp)
    rw [hc, Lib.parseIntB_plain 64 c r (by omega) (by omega), ← hc]
    unfold Lib.parseUintB
    rw [if_neg (decDigits_ne _), puM_dec (by decide) _ _ (Nat.lt_succ_self _) (by omega)]
    simp only [Lib.signlessC]
    rw [if_neg (by omega)]
    congr 1
    omega
theorem decB_inj {m n : Int} (hm : -1000000000000000000 < m ∧ m < 1000000000000000000) (hn : -1000000000000000000 < n ∧ n < 1000000000000000000) (h : decB m = decB n) : m = n := by
  have h1 := parse_dec hm
  rw [h, parse_dec hn] at h1
  cases h1; rfl


theorem con_of_calls_sl {P : Program} {f : FuncId} {vals : List Value} {n : Nat} {T : TypeId} {cs : Array Value} {g : Nat → Value} (hn : n ≤ maxLen) (hc : ∀ i, i < n → cs[i]? = some (g i) ∧ (g i).oneCell' = true)
    (h : ∀ w, WX w → Calls P f vals.toArray w fun e w' => e = .returned (.slice (some ⟨w.heap.size, 0, none⟩) n n) ∧ w' = w.alloc (.cells cs T)) : Con P f (vals.map .val) true (.sl true 1 n fun i => [.val (g i)]) := by
  intro B vals' hbo hm hr
  have : vals' = vals := by
    have hl := hr.1
    simp at hl
    apply List.ext_getElem hl.symm
    intro i h1 h2
    have := hr.2 i (.val vals[i]) vals'[i] (by simp [List.getElem?_map, List.getElem?_eq_getElem h2]) (List.getElem?_eq_getElem h1)
    generalize vals[i] = x at *
    generalize vals'[i] = y at *
    cases this with | tree _ _ h => cases h; rfl
  subst this
  refine (h B.w0 (hm.glob _ (Kept.refl _ _))).mono ?_
  rintro e w' ⟨rfl, rfl⟩
  have hk : Kept B.w0 (fun _ => False) (B.w0.alloc (.cells cs T)) := ⟨rfl, rfl, rfl, by simp, fun k hk _ => Go.heap_alloc_old _ _ hk⟩
  have hnew := heap_alloc_new B.w0 (.cells cs T)
  refine ⟨_, B.κ0, rfl, hm.world hk, .tree _ _ (.sl true 1 n _ B.w0.heap.size 0 n (fun i _ => g i) ⟨(Array.getElem?_eq_some_iff.1 hnew).1, ⟨fun _ => .inl (Nat.le_refl _), fun h => absurd (.inl (Nat.le_refl _)) h⟩, fun i hi => absurd rfl hi⟩ (Nat.le_refl _) hn (fun _ _ => rfl) (fun i j hi hj => ?_) fun i j u hi hu => ?_)⟩
  · have : j = 0 := by omega
    subst this
    refine ⟨?_, (hc i hi).2⟩
    have := (hc i hi).1
    rw [Lib.cell_of_heap hnew]
    simpa using this
  · cases j with
    | zero => simp at hu; subst hu; exact .val _
    | succ j => simp at hu
theorem splB_length {sep s : ByteArray} (h1 : sep.size = 1) : (Lib.splitB sep 0 (Lib.countB s sep) s).length = Lib.countB s sep + 1 := Lib.splitB_all sep (by omega) 0 _ s rfl


def splB (sep s : ByteArray) : List ByteArray := Lib.splitB sep 0 (Lib.countB s sep) s
def sufB (s p : ByteArray) : Bool := Lib.hasSuffix s.data.toList p.data.toList
def trsB (s p : ByteArray) : ByteArray := ⟨(Lib.trimSuffix s.data.toList p.data.toList).toArray⟩
def trpB (s p : ByteArray) : ByteArray := ⟨(Lib.trimPrefix s.data.toList p.data.toList).toArray⟩
theorem sufB_app (x y : ByteArray) : sufB (x ++ y) y = true := by simp [sufB, Lib.hasSuffix]
theorem trsB_app (x y : ByteArray) : trsB (x ++ y) y = x := by
  unfold trsB Lib.trimSuffix
  have h := sufB_app x y
  unfold sufB at h
  rw [if_pos h]
  apply ByteArray.ext
  simp


def jok (sep : ByteArray) (xs : List ByteArray) : Prop := sep.size ≤ 8 ∧ xs.length ≤ 100000 ∧ (xs ≠ [] → jnZ xs xs.length + sep.size * (xs.length - 1) ≤ 1000000000)
theorem jnB_one (sep : ByteArray) {xs : List ByteArray} (h : xs.length = 1) : jnB sep xs = at_ xs 0 := by
  match xs, h with
  | [x], _ => simp [jnB, jrest, ba_nilT, at_]
theorem jnB_take {sep : ByteArray} {xs : List ByteArray} {k : Nat} (h : k + 1 < xs.length) : jnB sep (xs.take (k + 2)) = (jnB sep (xs.take (k + 1)) ++ sep) ++ at_ xs (k + 1) := by
  rw [show xs.take (k + 2) = xs.take (k + 1) ++ [at_ xs (k + 1)] from by rw [List.take_succ_eq_append_getElem h, at_eq h], jnB_snoc]
  intro e
  have h2 : (xs.take (k + 1)).length = k + 1 := by rw [List.length_take]; omega
  rw [e] at h2
  simp at h2
theorem jnB_take1 {sep : ByteArray} {xs : List ByteArray} (h : 1 ≤ xs.length) : jnB sep (xs.take 1) = at_ xs 0 := by
  have e : (xs.take 1).length = 1 := by simp; omega
  rw [jnB_one sep e]
  simp [at_]


def isDec (s : ByteArray) : Prop := ∃ n : Int, (-1000000000000000000 < n ∧ n < 1000000000000000000) ∧ s = decB n
def dcV (s : ByteArray) : Int := match Lib.parseIntB 64 s.data.toList with | .ok v => v | _ => 0
theorem ddLen : ∀ (k u : Nat), 1 ≤ k → u < 10 ^ k → (Lib.decDigits u).length ≤ k
  | 0, _, h, _ => absurd h (by decide)
  | k + 1, u, _, h => by
    rw [Lib.decDigits]
    split
    · simp
    · rename_i h3
      rw [List.length_append]
      by_cases hk : k = 0
      · subst hk; omega
      · have := ddLen k (u / 10) (by omega) (by rw [Nat.pow_succ] at h; omega)
        simp only [List.length_cons, List.length_nil]; omega
theorem trp_dec {n : Int} (h : -1000000000000000000 < n ∧ n < 1000000000000000000) : 1 ≤ (Lib.trimPrefix (decB n).data.toList [45]).length ∧ (Lib.trimPrefix (decB n).data.toList [45]).length ≤ 18 := by
  have e : (decB n).data.toList = Lib.itoa n := by simp [decB]
  have hne : ∀ u, 1 ≤ (Lib.decDigits u).length := fun u => List.length_pos_iff.2 (decDigits_ne u)
  rw [e]
  unfold Lib.itoa
  split
  · have : Lib.trimPrefix (45 :: Lib.decDigits n.natAbs) [45] = Lib.decDigits n.natAbs := by simp [Lib.trimPrefix, Lib.hasPrefix]
    rw [this]
    exact ⟨hne _, ddLen 18 _ (by decide) (by omega)⟩
  · have hl := ddLen 18 n.toNat (by decide) (by omega)
    have h1 := hne n.toNat
    obtain ⟨c, r, hc⟩ : ∃ c r, Lib.decDigits n.toNat = c :: r := by
      cases h : Lib.decDigits n.toNat with
      | nil => exact absurd h (decDigits_ne _)
      | cons c r => exact ⟨c, r, rfl⟩
    have hb := decDigits_bytes _ n.toNat (Nat.lt_succ_self _) c (by rw [hc]; simp)
    have : Lib.trimPrefix (Lib.decDigits n.toNat) [45] = Lib.decDigits n.toNat := by
      have h2 : ¬ (45 : UInt8) = c := fun e => by subst e; have : (45 : UInt8).toNat = 45 := rfl; omega
      rw [hc]
      simp [Lib.trimPrefix, Lib.hasPrefix, h2]
    rw [this]
    exact ⟨h1, hl⟩
theorem con_of_calls2 {P : Program} {f : FuncId} {vals : List Value} {v u : Value} {fr : Bool} (h : ∀ w, WX w → Calls P f vals.toArray w fun e w' => e = .returned (.tuple #[v, u]) ∧ Below w.heap.size w w') : Con P f (vals.map .val) fr (.tup [.val v, .val u]) := by
  intro B vals' hbo hm hr
  have h1 := con_of_calls (fr := fr) h B vals' hbo hm hr
  refine h1.mono ?_
  rintro e w' ⟨v', κ', rfl, h2, h3⟩
  refine ⟨v', κ', rfl, h2, ?_⟩
  have e : v' = .tuple #[v, u] := h3.val_of
  subst e
  exact .tup _ _ rfl fun q a x ha hx => by
    match q, ha, hx with
    | 0, ha, hx => simp at ha hx; subst ha; subst hx; exact .tree _ _ (.val _)
    | 1, ha, hx => simp at ha hx; subst ha; subst hx; exact .tree _ _ (.val _)
    | q + 2, ha, _ => simp at ha


theorem at_mapB {α β : Type} [Inhabited α] [Inhabited β] {xs : List α} {f : α → β} {k : Nat} (h : k < xs.length) : at_ (xs.map f) k = f (at_ xs k) := by simp [at_, h]

def comB (xs : List Int) : ByteArray := jnB ⟨#[44]⟩ (xs.map decB)
def bndI (xs : List Int) : Prop := xs.length ≤ 1000 ∧ ∀ x ∈ xs, -1000000000000000000 < x ∧ x < 1000000000000000000
def dcs (s : ByteArray) : List Int := (splB ⟨#[44]⟩ s).map dcV
theorem trsB_size (s p : ByteArray) : (trsB s p).size ≤ s.size := by
  show (Lib.trimSuffix s.data.toList p.data.toList).toArray.size ≤ s.data.size
  unfold Lib.trimSuffix
  split
  · simp
  · simp
def linB (s : ByteArray) : List ByteArray := if s = ⟨#[]⟩ then [] else splB ⟨#[10]⟩ (trsB s ⟨#[10]⟩)
def linesX : List ByteArray → Nat → ByteArray
  | _, 0 => ⟨#[]⟩
  | ls, k + 1 => linesX ls k ++ (at_ ls k ++ ⟨#[10]⟩)
theorem linesX_join {ls : List ByteArray} : ∀ {k}, k < ls.length → linesX ls (k + 1) = jnB ⟨#[10]⟩ (ls.take (k + 1)) ++ ⟨#[10]⟩
  | 0, h => by rw [linesX, linesX, nil_ba, jnB_take1 h]
  | k + 1, h => by
    rw [linesX, linesX_join (by omega), jnB_take (by omega)]
    simp only [ByteArray.append_assoc]
theorem linesX_ne {ls : List ByteArray} {k : Nat} : linesX ls (k + 1) ≠ ⟨#[]⟩ := fun e => by
  have := congrArg ByteArray.size e
  simp only [linesX, ByteArray.size_append] at this
  have h1 : (⟨#[10]⟩ : ByteArray).size = 1 := rfl
  have h2 : (⟨#[]⟩ : ByteArray).size = 0 := rfl
  omega
theorem linesX_all {ls : List ByteArray} (h : ls ≠ []) : ∃ k, ls.length = k + 1 ∧ linesX ls ls.length = jnB ⟨#[10]⟩ ls ++ ⟨#[10]⟩ := by
  obtain ⟨k, hk⟩ : ∃ k, ls.length = k + 1 := ⟨ls.length - 1, by have := List.length_pos_iff.2 h; omega⟩
  refine ⟨k, hk, ?_⟩
  rw [hk, linesX_join (by omega), ← hk, List.take_length]
theorem suf_lines {ls : List ByteArray} (h : ls ≠ []) : sufB (linesX ls ls.length) ⟨#[10]⟩ = true := by
  obtain ⟨k, hk, e⟩ := linesX_all h
  rw [e]; exact sufB_app _ _
def linOk (s : ByteArray) : Prop := s.size ≤ 10000000 ∧ (s = ⟨#[]⟩ ∨ sufB s ⟨#[10]⟩ = true)
theorem linesX_size {ls : List ByteArray} {B : Nat} (h : ∀ l ∈ ls, l.size ≤ B) : ∀ k, k ≤ ls.length → (linesX ls k).size ≤ (B + 1) * k
  | 0, _ => Nat.zero_le _
  | k + 1, hk => by
    have h1 := linesX_size h k (by omega)
    have h2 := h _ (at_mem (show k < ls.length from hk))
    have h3 : (⟨#[10]⟩ : ByteArray).size = 1 := rfl
    rw [linesX, ByteArray.size_append, ByteArray.size_append, Nat.mul_succ]; omega


theorem splitB_piece (c : UInt8) : ∀ (k : Nat) (s : ByteArray), ∀ x ∈ Lib.splitB ⟨#[c]⟩ 0 k s, x.size ≤ s.size
  | 0, s, x, h => by rw [Lib.splitB_zero] at h; have := List.mem_singleton.1 h; subst this; exact Nat.le_refl _
  | k + 1, s, x, h => by
    rcases Lib.indexB_cases s ⟨#[c]⟩ with hi | ⟨i, hi, hr⟩
    · rw [Lib.splitB_miss _ _ _ _ hi] at h; have := List.mem_singleton.1 h; subst this; exact Nat.le_refl _
    · rw [Lib.splitB_hit _ _ _ _ _ hi] at h
      rcases List.mem_cons.1 h with h | h
      · subst h; rw [ByteArray.size_extract]; omega
      · have := splitB_piece c k _ x h
        rw [ByteArray.size_extract] at this
        omega
theorem splB_piece {c : UInt8} {s x : ByteArray} (h : x ∈ splB ⟨#[c]⟩ s) : x.size ≤ s.size := splitB_piece c _ s x h


def dcB (s : ByteArray) : Bool := match Lib.parseIntB 64 s.data.toList with | .ok n => decide ((1 ≤ (Lib.trimPrefix s.data.toList [45]).length ∧ (Lib.trimPrefix s.data.toList [45]).length ≤ 18) ∧ decB n = s) | _ => false
def dcN (s : ByteArray) : Int := if dcB s = true then dcV s else 0
theorem dcB_len {s : ByteArray} (h : ¬ (1 ≤ (Lib.trimPrefix s.data.toList [45]).length ∧ (Lib.trimPrefix s.data.toList [45]).length ≤ 18)) : dcB s = false ∧ dcN s = 0 := by
  have e : dcB s = false := by
    unfold dcB
    split
    · exact decide_eq_false fun q => h q.1
    · rfl
  exact ⟨e, by rw [dcN, e]; rfl⟩
theorem dcB_yes {s : ByteArray} {n : Int} (hp : Lib.parseIntB 64 s.data.toList = .ok n) (hl : 1 ≤ (Lib.trimPrefix s.data.toList [45]).length ∧ (Lib.trimPrefix s.data.toList [45]).length ≤ 18) (he : decB n = s) : dcB s = true ∧ dcN s = n := by
  have e : dcB s = true := by
    unfold dcB
    rw [hp]
    exact decide_eq_true ⟨hl, he⟩
  exact ⟨e, by rw [dcN, if_pos e]; unfold dcV; rw [hp]⟩
theorem dcB_ne {s : ByteArray} {n : Int} (hp : Lib.parseIntB 64 s.data.toList = .ok n) (he : ¬ decB n = s) : dcB s = false ∧ dcN s = 0 := by
  have e : dcB s = false := by
    unfold dcB
    rw [hp]
    exact decide_eq_false fun q => he q.2
  exact ⟨e, by rw [dcN, e]; rfl⟩
theorem dcB_bad {s : ByteArray} (hp : ∀ n, Lib.parseIntB 64 s.data.toList ≠ .ok n) : dcB s = false ∧ dcN s = 0 := by
  have e : dcB s = false := by
    unfold dcB
    split
    · rename_i n h; exact absurd h (hp n)
    · rfl
  exact ⟨e, by rw [dcN, e]; rfl⟩
theorem pI_bd {s : ByteArray} {n : Int} (hp : Lib.parseIntB 64 s.data.toList = .ok n) : -9223372036854775808 ≤ n ∧ n ≤ 9223372036854775807 := by
  have := Lib.parseIntB_bounds hp
  have e : ((2 ^ (64 - 1) : Nat) : Int) = 9223372036854775808 := by decide
  rw [e] at this
  omega




def valL (acc : Nat) (l : List UInt8) : Nat := l.foldl (fun a b => a * 10 + (b.toNat - 48)) acc
def allDig (l : List UInt8) : Prop := ∀ b ∈ l, 48 ≤ b.toNat ∧ b.toNat ≤ 57
def sgnI (neg : Bool) (n : Int) : Int := if neg = true then -n else n

def unS (s t : ByteArray) : Prop := s.data.toList = 45 :: t.data.toList ∨ (t = s ∧ ∀ r, s.data.toList ≠ 45 :: r)







def hasB (s : ByteArray) (n : Int) : Bool := s.data.toList.any fun x => decide ((x.toNat : Int) = n)
theorem one_byte {t : ByteArray} (h : t.size = 1) : ∃ c, t = ⟨#[c]⟩ := by
  obtain ⟨⟨l⟩⟩ := t
  cases l with
  | nil => cases h
  | cons c l =>
    cases l with
    | nil => exact ⟨c, rfl⟩
    | cons d l => simp [ByteArray.size] at h

def lnR (s : ByteArray) : List ByteArray × Bool := if s = ⟨#[]⟩ then ([], true) else if sufB s ⟨#[10]⟩ = true then (splB ⟨#[10]⟩ (trsB s ⟨#[10]⟩), true) else ([], false)
theorem dcN_num {n : Int} (h : -1000000000000000000 < n ∧ n < 1000000000000000000) : dcN (decB n) = n := (dcB_yes (parse_dec h) (trp_dec h) rfl).2

def hdM : ByteArray := ⟨#[100, 101, 102, 97, 117, 108, 116, 32]⟩
def wM : ByteArray := ⟨#[100, 101, 102, 97, 117, 108, 116]⟩
def fstW (s : ByteArray) : ByteArray := if s = ⟨#[]⟩ then ⟨#[45]⟩ else s
def bgLn (g : Bigram) : ByteArray := (((fstW g.First ++ ⟨#[32]⟩) ++ g.Second) ++ ⟨#[32]⟩) ++ decB g.Cost
def mdLns (m : Model) : List ByteArray := (hdM ++ decB m.Default) :: m.Bigrams.map bgLn
def mdTx (m : Model) : ByteArray := linesX (mdLns m) (m.Bigrams.length + 1)
theorem mdLns_at {m : Model} {k : Nat} (h : k < m.Bigrams.length) : at_ (mdLns m) (k + 1) = bgLn (at_ m.Bigrams k) := by
  have : at_ (mdLns m) (k + 1) = at_ (m.Bigrams.map bgLn) k := by simp [mdLns, at_]
  rw [this, at_mapB h]
theorem big_sz {b : Bigram} (h : okBig b) : b.First.size ≤ 10 ∧ b.Second.size ≤ 10 ∧ (fstW b.First).size ≤ 10 ∧ (decB b.Cost).size ≤ 20 := by
  have h1 : b.First.size ≤ 10 := by rcases h.2.1 with q | q; (rw [q]; decide); exact (okWord_iff.1 q).1.2
  have h2 := (okWord_iff.1 h.1).1
  have h3 := decB_size (n := b.Cost) (by have := h.2.2; omega)
  refine ⟨h1, h2.2, ?_, h3⟩
  unfold fstW; split
  · decide
  · exact h1
theorem bgLn_size {b : Bigram} (h : okBig b) : (bgLn b).size ≤ 50 := by
  have := big_sz h
  have e2 : (⟨#[32]⟩ : ByteArray).size = 1 := rfl
  unfold bgLn
  simp only [ByteArray.size_append]
  omega
theorem mdLns_size {m : Model} (h : okMod m) : ∀ y ∈ mdLns m, y.size ≤ 50 := fun y hy => by
  rcases List.mem_cons.1 hy with rfl | hy
  · have := decB_size (n := m.Default) (by have := h.1; omega)
    have e1 : hdM.size = 8 := rfl
    rw [ByteArray.size_append]; omega
  · obtain ⟨t, ht, rfl⟩ := List.mem_map.1 hy
    exact bgLn_size (h.2.2.1 t ht)
theorem mdL_size {m : Model} (h : okMod m) {k : Nat} (hk : k ≤ m.Bigrams.length + 1) : (linesX (mdLns m) k).size ≤ 5000 := by
  have h1 := linesX_size (mdLns_size h) k (by simp [mdLns]; exact hk)
  have := h.2.1
  omega
theorem word_noB {s : ByteArray} (h : okWord s = true) {c : UInt8} (hc : c.toNat < 97) : noB c s := fun hm => by
  obtain ⟨j, hj, e⟩ := List.getElem_of_mem hm
  have hj2 : j < s.size := by rwa [Array.length_toList] at hj
  have := (okWord_iff.1 h).2 j hj2
  unfold letB at this
  have q := inB_iff.1 this
  have e2 : bAt s j = ((c.toNat : Nat) : Int) := by unfold bAt; rw [List.getD_eq_getElem?_getD, List.getElem?_eq_getElem hj, e]; rfl
  omega
theorem fstW_noB {b : Bigram} (h : okBig b) {c : UInt8} (hc : c.toNat < 97) (h45 : c.toNat ≠ 45) : noB c (fstW b.First) := by
  unfold fstW; split
  · unfold noB; intro q
    simp only [List.mem_cons, List.not_mem_nil, or_false] at q
    subst q; exact h45 rfl
  · rename_i q
    exact word_noB (h.2.1.resolve_left q) hc
theorem bg_jn (b : Bigram) : bgLn b = jnB ⟨#[32]⟩ [fstW b.First, b.Second, decB b.Cost] := by
  unfold bgLn
  simp only [jnB, jrest, ba_nilT, ByteArray.append_assoc]
theorem bg_words {b : Bigram} (h : okBig b) : splB ⟨#[32]⟩ (bgLn b) = [fstW b.First, b.Second, decB b.Cost] := by
  rw [bg_jn]
  refine spl_join (c := 32) (by simp) fun y hy => ?_
  simp only [List.mem_cons, List.not_mem_nil, or_false] at hy
  rcases hy with rfl | rfl | rfl
  · exact fstW_noB h (by decide) (by decide)
  · exact word_noB h.1 (by decide)
  · exact decB_noB (by decide) _
theorem hdM_words (n : Int) : splB ⟨#[32]⟩ (hdM ++ decB n) = [wM, decB n] := by
  have e : hdM ++ decB n = jnB ⟨#[32]⟩ [wM, decB n] := by
    have : hdM = wM ++ ⟨#[32]⟩ := by decide
    simp only [jnB, jrest, ba_nilT, this, ByteArray.append_assoc]
  rw [e]
  refine spl_join (c := 32) (by simp) fun y hy => ?_
  simp only [List.mem_cons, List.not_mem_nil, or_false] at hy
  rcases hy with rfl | rfl
  · unfold noB; decide
  · exact decB_noB (by decide) n
theorem trp_fst {b : Bigram} (h : okBig b) : trpB (fstW b.First) ⟨#[45]⟩ = b.First := by
  unfold fstW; split
  · rename_i q; rw [q]; decide
  · rename_i q
    have hn := word_noB (h.2.1.resolve_left q) (c := 45) (by decide)
    unfold trpB
    have : Lib.trimPrefix b.First.data.toList [45] = b.First.data.toList := by
      cases hq : b.First.data.toList with
      | nil => simp [Lib.trimPrefix, Lib.hasPrefix]
      | cons c r =>
        have : ¬ (45 : UInt8) = c := fun e => by unfold noB at hn; rw [hq, e] at hn; simp at hn
        simp [Lib.trimPrefix, Lib.hasPrefix, this]
    show (⟨(Lib.trimPrefix b.First.data.toList [45]).toArray⟩ : ByteArray) = b.First
    rw [this]
theorem md_lines {m : Model} (h : okMod m) : lnR (mdTx m) = (mdLns m, true) := by
  have hlen : (mdLns m).length = m.Bigrams.length + 1 := by simp [mdLns]
  have e : mdTx m = linesX (mdLns m) (mdLns m).length := by rw [hlen]; rfl
  have hne : mdLns m ≠ [] := by simp [mdLns]
  obtain ⟨k, hk, e2⟩ := linesX_all hne
  unfold lnR
  rw [e, if_neg (by rw [hk]; exact linesX_ne), if_pos (suf_lines hne), e2, trsB_app]
  congr 1
  refine spl_join (c := 10) hne fun y hy => ?_
  rcases List.mem_cons.1 hy with rfl | hy
  · exact noB_app (by unfold noB; decide) (decB_noB (by decide) _)
  · obtain ⟨t, ht, rfl⟩ := List.mem_map.1 hy
    rw [bg_jn]
    refine noB_join (by simp [noB]) fun z hz => ?_
    have hb := h.2.2.1 t ht
    simp only [List.mem_cons, List.not_mem_nil, or_false] at hz
    rcases hz with rfl | rfl | rfl
    · exact fstW_noB hb (by decide) (by decide)
    · exact word_noB hb.1 (by decide)
    · exact decB_noB (by decide) _

def rdBg (l : ByteArray) : Bigram := ⟨trpB (at_ (splB ⟨#[32]⟩ l) 0) ⟨#[45]⟩, at_ (splB ⟨#[32]⟩ l) 1, dcN (at_ (splB ⟨#[32]⟩ l) 2)⟩
theorem bg_rd {b : Bigram} (h : okBig b) : rdBg (bgLn b) = b := by
  unfold rdBg
  rw [bg_words h]
  show (⟨trpB (fstW b.First) ⟨#[45]⟩, b.Second, dcN (decB b.Cost)⟩ : Bigram) = b
  rw [trp_fst h, dcN_num (by have := h.2.2; omega)]
theorem md_inj {m n : Model} (h : okMod m) (h2 : okMod n) (e : mdTx m = mdTx n) : m = n := by
  have q := md_lines h
  rw [e, md_lines h2] at q
  have q2 := congrArg Prod.fst q
  simp only [mdLns, List.cons.injEq] at q2
  have e1 : m.Default = n.Default := by
    have w1 := hdM_words m.Default
    rw [← q2.1, hdM_words] at w1
    simp only [List.cons.injEq, and_true, true_and] at w1
    exact (decB_inj (by have := h2.1; omega) (by have := h.1; omega) w1).symm
  have e2 : m.Bigrams = n.Bigrams := by
    have w := congrArg (List.map rdBg) q2.2
    rw [List.map_map, List.map_map] at w
    have a1 : n.Bigrams.map (rdBg ∘ bgLn) = n.Bigrams := by
      conv => rhs; rw [← List.map_id n.Bigrams]
      exact List.map_congr_left fun t ht => bg_rd (h2.2.2.1 t ht)
    have a2 : m.Bigrams.map (rdBg ∘ bgLn) = m.Bigrams := by
      conv => rhs; rw [← List.map_id m.Bigrams]
      exact List.map_congr_left fun t ht => bg_rd (h.2.2.1 t ht)
    rw [a1, a2] at w
    exact w.symm
  cases m; cases n; simp_all


-- impl.ModelText
theorem ModelText_ok (m : Model) (hok : okMod m) : Con Tryz.prog 23 [agModel m] true (Sv (mdTx m)) := by
  have hb := hok.1
  have hn60 := hok.2.1
  have hdz := decB_size (n := m.Default) (by omega)
  have h00 : (⟨#[]⟩ : ByteArray).size = 0 := rfl
  have h10 : (⟨#[10]⟩ : ByteArray).size = 1 := rfl
  have h32 : (⟨#[32]⟩ : ByteArray).size = 1 := rfl
  have h45 : (⟨#[45]⟩ : ByteArray).size = 1 := rfl
  have hq1 : (⟨#[100, 101, 102, 97, 117, 108, 116, 32]⟩ : ByteArray).size = 8 := rfl
  refine fn_ok (fn := Tryz.f23) (nt := 41) Tryz.func23 rfl rfl rfl rfl (by simp [taggedL, tagged, tagBigram]) fun B hB => ?_
  refine aw_lens (x := agModel m) 0 rfl (fun len_m => ?_)
  simp [LenOK, LenL, cBigram, fBigram, slBigram] at len_m
  refine aR [(0, .new 1)] [1] [1] [.ref 1 0] [some (bxModel m)] [] hB trivial ?_
  refine aw_seq ?_
  refine aR [(1, .call [(true, .any)] true (Bv true))] [1, 9] [1] [.ref 1 0, Bv false] [some (bxModel m)] [Con Tryz.prog 55 [agModel m] true (Bv true) ∧ True] hB ⟨⟨(ValidModel_ok m hok), trivial⟩, trivial⟩ ?_
  refine aw_false rfl ?_
  refine aw_skip ?_
  refine ae_then ?_
  refine aR [(0, .newb 3 60006 5)] [1, 3] [1, 3, 60006] [.ref 1 0, .ref 3 0] [some (bxModel m), some (.bld 104 60006), some (.buf 5 false (⟨#[]⟩ : ByteArray))] [] hB trivial ?_
  refine aR [(2, .call [(true, .any)] true (Sv (decB m.Default))), (5, .bw 3 60006 60007 (.string (((⟨#[100, 101, 102, 97, 117, 108, 116, 32]⟩ : ByteArray) ++ (decB m.Default)) ++ (⟨#[10]⟩ : ByteArray))) false (((⟨#[100, 101, 102, 97, 117, 108, 116, 32]⟩ : ByteArray) ++ (decB m.Default)) ++ (⟨#[10]⟩ : ByteArray)))] [1, 3] [1, 3, 60007] [.ref 1 0, .ref 3 0] [some (bxModel m), some (.bld 104 60007), some (.buf 5 false ((⟨#[]⟩ : ByteArray) ++ (((⟨#[100, 101, 102, 97, 117, 108, 116, 32]⟩ : ByteArray) ++ (decB m.Default)) ++ (⟨#[10]⟩ : ByteArray))))] [Con Tryz.prog 45 [I m.Default] true (Sv (decB m.Default)) ∧ True, (⟨#[100, 101, 102, 97, 117, 108, 116, 32]⟩ : ByteArray).size + (decB m.Default).size ≤ 9223372036854775807, ((⟨#[100, 101, 102, 97, 117, 108, 116, 32]⟩ : ByteArray) ++ (decB m.Default)).size + (⟨#[10]⟩ : ByteArray).size ≤ 9223372036854775807, ([.ref 3 0, Sv (((⟨#[100, 101, 102, 97, 117, 108, 116, 32]⟩ : ByteArray) ++ (decB m.Default)) ++ (⟨#[10]⟩ : ByteArray))] : List AV) = [.ref 3 0, Sv (((⟨#[100, 101, 102, 97, 117, 108, 116, 32]⟩ : ByteArray) ++ (decB m.Default)) ++ (⟨#[10]⟩ : ByteArray))] ∧ BwOK Tryz.prog 44 104 5 (.string (((⟨#[100, 101, 102, 97, 117, 108, 116, 32]⟩ : ByteArray) ++ (decB m.Default)) ++ (⟨#[10]⟩ : ByteArray))) false (⟨#[]⟩ : ByteArray) false (((⟨#[100, 101, 102, 97, 117, 108, 116, 32]⟩ : ByteArray) ++ (decB m.Default)) ++ (⟨#[10]⟩ : ByteArray))] hB ⟨⟨(implDecimal_ok m.Default (by omega)), trivial⟩, (by (try simp only [ByteArray.size_append]); omega), (by (try simp only [ByteArray.size_append]); omega), ⟨rfl, bw_ok (by (try simp only [ByteArray.size_append]); omega)⟩, trivial⟩ ?_
  refine aw_seq ?_
  refine aR [] [3, 17, 18, 19] [3, 60007] [.ref 3 0, slBigram false m.Bigrams, I (m.Bigrams.length : Int), I 0] [some (.bld 104 60007), some (.buf 5 false ((⟨#[]⟩ : ByteArray) ++ (((⟨#[100, 101, 102, 97, 117, 108, 116, 32]⟩ : ByteArray) ++ (decB m.Default)) ++ (⟨#[10]⟩ : ByteArray))))] [] hB trivial ?_
  refine aw_block ?_
  refine aw_loop (fun gn gσ => ∃ (k : Int) (tx : ByteArray), gn = ((m.Bigrams.length : Int) - k).toNat ∧ (0 ≤ k ∧ k ≤ (m.Bigrams.length : Int)) ∧ (tx = linesX (mdLns m) (k.toNat + 1)) ∧ gσ = mkS [(3, .ref 3 0), (17, slBigram false m.Bigrams), (18, I (m.Bigrams.length : Int)), (19, I k)] [(3, .bld 104 60007), (60007, .buf 5 false tx)]) (((m.Bigrams.length : Int) - 0).toNat) ⟨0, ((⟨#[]⟩ : ByteArray) ++ (((⟨#[100, 101, 102, 97, 117, 108, 116, 32]⟩ : ByteArray) ++ (decB m.Default)) ++ (⟨#[10]⟩ : ByteArray))), rfl, (by omega), (by (show _ = linesX (mdLns m) (0 + 1); simp only [linesX, nil_ba]; rfl)), rfl⟩ (fun gn gσ hI => ?_)
  obtain ⟨k, tx, rfl, hi0, htx, rfl⟩ := hI
  refine aw_seq ?_
  by_cases h1 : k < (m.Bigrams.length : Int)
  ·have hi : k.toNat < m.Bigrams.length := by omega
   have hbg := hok.2.2.1 _ (at_mem hi)
   have hbs := big_sz hbg
   have hbc := hbg.2.2
   have hlz := bgLn_size hbg
   have hzl := mdL_size hok (k := k.toNat + 1) (by omega)
   rw [← htx] at hzl
   have hks : (k + 1).toNat = k.toNat + 1 := by omega
   refine aw_r [(0, .dec true)] [3, 17, 18, 19, 20] [3, 60007] [.ref 3 0, slBigram false m.Bigrams, I (m.Bigrams.length : Int), I k, Bv true] [some (.bld 104 60007), some (.buf 5 false tx)] [k < (m.Bigrams.length : Int)] hB ⟨h1, trivial⟩ ?_
   refine ae_then ?_
   refine aw_seq ?_
   refine aw_true rfl ?_
   refine aw_skip ?_
   refine ae_then ?_
   refine aw_seq ?_
   refine aw_block ?_
   refine aR [(2, .new 5)] [3, 5, 17, 18, 19] [3, 5, 60007] [.ref 3 0, .ref 5 0, slBigram false m.Bigrams, I (m.Bigrams.length : Int), I k] [some (.bld 104 60007), some (bxBigram (at_ m.Bigrams k.toNat)), some (.buf 5 false tx)] [(0 : Int) ≤ k ∧ k < (m.Bigrams.length : Int)] hB ⟨⟨(by omega), (by omega)⟩, trivial⟩ ?_
   refine aR [] [3, 5, 6, 17, 18, 19] [3, 5, 60007] [.ref 3 0, .ref 5 0, Sv ((at_ m.Bigrams k.toNat).First), slBigram false m.Bigrams, I (m.Bigrams.length : Int), I k] [some (.bld 104 60007), some (bxBigram (at_ m.Bigrams k.toNat)), some (.buf 5 false tx)] [] hB trivial ?_
   refine aw_seq ?_
   refine aw_seq ?_
   by_cases h2 : ((at_ m.Bigrams k.toNat).First) = (⟨#[]⟩ : ByteArray)
   ·have hfw : fstW (at_ m.Bigrams k.toNat).First = ⟨#[45]⟩ := if_pos h2
    refine aw_r [(1, .dec true)] [3, 5, 6, 17, 18, 19, 26] [3, 5, 60007] [.ref 3 0, .ref 5 0, Sv ((at_ m.Bigrams k.toNat).First), slBigram false m.Bigrams, I (m.Bigrams.length : Int), I k, Bv true] [some (.bld 104 60007), some (bxBigram (at_ m.Bigrams k.toNat)), some (.buf 5 false tx)] [((at_ m.Bigrams k.toNat).First) = (⟨#[]⟩ : ByteArray)] hB ⟨h2, trivial⟩ ?_
    refine ae_then ?_
    refine aw_true rfl ?_
    refine aw_r [] [3, 5, 6, 17, 18, 19] [3, 5, 60007] [.ref 3 0, .ref 5 0, Sv (⟨#[45]⟩ : ByteArray), slBigram false m.Bigrams, I (m.Bigrams.length : Int), I k] [some (.bld 104 60007), some (bxBigram (at_ m.Bigrams k.toNat)), some (.buf 5 false tx)] [] hB trivial ?_
    refine ae_then ?_
    refine aw_r [(8, .call [(true, .any)] true (Sv (decB ((at_ m.Bigrams k.toNat).Cost)))), (11, .bw 3 60007 60006 (.string ((((((⟨#[45]⟩ : ByteArray) ++ (⟨#[32]⟩ : ByteArray)) ++ ((at_ m.Bigrams k.toNat).Second)) ++ (⟨#[32]⟩ : ByteArray)) ++ (decB ((at_ m.Bigrams k.toNat).Cost))) ++ (⟨#[10]⟩ : ByteArray))) false ((((((⟨#[45]⟩ : ByteArray) ++ (⟨#[32]⟩ : ByteArray)) ++ ((at_ m.Bigrams k.toNat).Second)) ++ (⟨#[32]⟩ : ByteArray)) ++ (decB ((at_ m.Bigrams k.toNat).Cost))) ++ (⟨#[10]⟩ : ByteArray)))] [3, 17, 18, 19] [3, 60006] [.ref 3 0, slBigram false m.Bigrams, I (m.Bigrams.length : Int), I k] [some (.bld 104 60006), some (.buf 5 false (tx ++ ((((((⟨#[45]⟩ : ByteArray) ++ (⟨#[32]⟩ : ByteArray)) ++ ((at_ m.Bigrams k.toNat).Second)) ++ (⟨#[32]⟩ : ByteArray)) ++ (decB ((at_ m.Bigrams k.toNat).Cost))) ++ (⟨#[10]⟩ : ByteArray))))] [(⟨#[45]⟩ : ByteArray).size + (⟨#[32]⟩ : ByteArray).size ≤ 9223372036854775807, ((⟨#[45]⟩ : ByteArray) ++ (⟨#[32]⟩ : ByteArray)).size + ((at_ m.Bigrams k.toNat).Second).size ≤ 9223372036854775807, (((⟨#[45]⟩ : ByteArray) ++ (⟨#[32]⟩ : ByteArray)) ++ ((at_ m.Bigrams k.toNat).Second)).size + (⟨#[32]⟩ : ByteArray).size ≤ 9223372036854775807, Con Tryz.prog 45 [I ((at_ m.Bigrams k.toNat).Cost)] true (Sv (decB ((at_ m.Bigrams k.toNat).Cost))) ∧ True, ((((⟨#[45]⟩ : ByteArray) ++ (⟨#[32]⟩ : ByteArray)) ++ ((at_ m.Bigrams k.toNat).Second)) ++ (⟨#[32]⟩ : ByteArray)).size + (decB ((at_ m.Bigrams k.toNat).Cost)).size ≤ 9223372036854775807, (((((⟨#[45]⟩ : ByteArray) ++ (⟨#[32]⟩ : ByteArray)) ++ ((at_ m.Bigrams k.toNat).Second)) ++ (⟨#[32]⟩ : ByteArray)) ++ (decB ((at_ m.Bigrams k.toNat).Cost))).size + (⟨#[10]⟩ : ByteArray).size ≤ 9223372036854775807, ([.ref 3 0, Sv ((((((⟨#[45]⟩ : ByteArray) ++ (⟨#[32]⟩ : ByteArray)) ++ ((at_ m.Bigrams k.toNat).Second)) ++ (⟨#[32]⟩ : ByteArray)) ++ (decB ((at_ m.Bigrams k.toNat).Cost))) ++ (⟨#[10]⟩ : ByteArray))] : List AV) = [.ref 3 0, Sv ((((((⟨#[45]⟩ : ByteArray) ++ (⟨#[32]⟩ : ByteArray)) ++ ((at_ m.Bigrams k.toNat).Second)) ++ (⟨#[32]⟩ : ByteArray)) ++ (decB ((at_ m.Bigrams k.toNat).Cost))) ++ (⟨#[10]⟩ : ByteArray))] ∧ BwOK Tryz.prog 44 104 5 (.string ((((((⟨#[45]⟩ : ByteArray) ++ (⟨#[32]⟩ : ByteArray)) ++ ((at_ m.Bigrams k.toNat).Second)) ++ (⟨#[32]⟩ : ByteArray)) ++ (decB ((at_ m.Bigrams k.toNat).Cost))) ++ (⟨#[10]⟩ : ByteArray))) false tx false ((((((⟨#[45]⟩ : ByteArray) ++ (⟨#[32]⟩ : ByteArray)) ++ ((at_ m.Bigrams k.toNat).Second)) ++ (⟨#[32]⟩ : ByteArray)) ++ (decB ((at_ m.Bigrams k.toNat).Cost))) ++ (⟨#[10]⟩ : ByteArray))] hB ⟨(by (try simp only [ByteArray.size_append]); omega), (by (try simp only [ByteArray.size_append]); omega), (by (try simp only [ByteArray.size_append]); omega), ⟨(implDecimal_ok ((at_ m.Bigrams k.toNat).Cost) (by omega)), trivial⟩, (by (try simp only [ByteArray.size_append]); omega), (by (try simp only [ByteArray.size_append]); omega), ⟨rfl, bw_ok (by (try simp only [ByteArray.size_append]); omega)⟩, trivial⟩ ?_
    refine ae_block 1 ?_
    refine ae_then ?_
    refine aw_r [] [3, 17, 18, 19] [3, 60006] [.ref 3 0, slBigram false m.Bigrams, I (m.Bigrams.length : Int), I (k + 1)] [some (.bld 104 60006), some (.buf 5 false (tx ++ ((((((⟨#[45]⟩ : ByteArray) ++ (⟨#[32]⟩ : ByteArray)) ++ ((at_ m.Bigrams k.toNat).Second)) ++ (⟨#[32]⟩ : ByteArray)) ++ (decB ((at_ m.Bigrams k.toNat).Cost))) ++ (⟨#[10]⟩ : ByteArray))))] [inR .i64 (k + 1)] hB ⟨(inR_i64 (by omega) (by omega)), trivial⟩ ?_
    refine ae_weak hB [(60007, 60006)] (T := [(3, .ref 3 0), (17, slBigram false m.Bigrams), (18, I (m.Bigrams.length : Int)), (19, I (k + 1))]) (O := [(3, .bld 104 60007), (60007, .buf 5 false (tx ++ ((((((⟨#[45]⟩ : ByteArray) ++ (⟨#[32]⟩ : ByteArray)) ++ ((at_ m.Bigrams k.toNat).Second)) ++ (⟨#[32]⟩ : ByteArray)) ++ (decB ((at_ m.Bigrams k.toNat).Cost))) ++ (⟨#[10]⟩ : ByteArray))))]) rfl (⟨.inl rfl, .inl rfl, .inl rfl, .inl rfl, trivial⟩) (⟨.inl rfl, .inl rfl, trivial⟩) (ae_again _ (by omega) ⟨(k + 1), (tx ++ ((((((⟨#[45]⟩ : ByteArray) ++ (⟨#[32]⟩ : ByteArray)) ++ ((at_ m.Bigrams k.toNat).Second)) ++ (⟨#[32]⟩ : ByteArray)) ++ (decB ((at_ m.Bigrams k.toNat).Cost))) ++ (⟨#[10]⟩ : ByteArray))), rfl, (by omega), (by rw [hks, linesX, mdLns_at hi, ← htx]; simp only [bgLn, hfw, ByteArray.append_assoc]), rfl⟩)
   have hfw : fstW (at_ m.Bigrams k.toNat).First = (at_ m.Bigrams k.toNat).First := if_neg h2
   refine aw_r [(1, .dec false)] [3, 5, 6, 17, 18, 19, 26] [3, 5, 60007] [.ref 3 0, .ref 5 0, Sv ((at_ m.Bigrams k.toNat).First), slBigram false m.Bigrams, I (m.Bigrams.length : Int), I k, Bv false] [some (.bld 104 60007), some (bxBigram (at_ m.Bigrams k.toNat)), some (.buf 5 false tx)] [¬ (((at_ m.Bigrams k.toNat).First) = (⟨#[]⟩ : ByteArray))] hB ⟨h2, trivial⟩ ?_
   refine ae_then ?_
   refine aw_false rfl ?_
   refine aw_skip ?_
   refine ae_then ?_
   refine aw_r [(8, .call [(true, .any)] true (Sv (decB ((at_ m.Bigrams k.toNat).Cost)))), (11, .bw 3 60007 60006 (.string (((((((at_ m.Bigrams k.toNat).First) ++ (⟨#[32]⟩ : ByteArray)) ++ ((at_ m.Bigrams k.toNat).Second)) ++ (⟨#[32]⟩ : ByteArray)) ++ (decB ((at_ m.Bigrams k.toNat).Cost))) ++ (⟨#[10]⟩ : ByteArray))) false (((((((at_ m.Bigrams k.toNat).First) ++ (⟨#[32]⟩ : ByteArray)) ++ ((at_ m.Bigrams k.toNat).Second)) ++ (⟨#[32]⟩ : ByteArray)) ++ (decB ((at_ m.Bigrams k.toNat).Cost))) ++ (⟨#[10]⟩ : ByteArray)))] [3, 17, 18, 19] [3, 60006] [.ref 3 0, slBigram false m.Bigrams, I (m.Bigrams.length : Int), I k] [some (.bld 104 60006), some (.buf 5 false (tx ++ (((((((at_ m.Bigrams k.toNat).First) ++ (⟨#[32]⟩ : ByteArray)) ++ ((at_ m.Bigrams k.toNat).Second)) ++ (⟨#[32]⟩ : ByteArray)) ++ (decB ((at_ m.Bigrams k.toNat).Cost))) ++ (⟨#[10]⟩ : ByteArray))))] [((at_ m.Bigrams k.toNat).First).size + (⟨#[32]⟩ : ByteArray).size ≤ 9223372036854775807, (((at_ m.Bigrams k.toNat).First) ++ (⟨#[32]⟩ : ByteArray)).size + ((at_ m.Bigrams k.toNat).Second).size ≤ 9223372036854775807, ((((at_ m.Bigrams k.toNat).First) ++ (⟨#[32]⟩ : ByteArray)) ++ ((at_ m.Bigrams k.toNat).Second)).size + (⟨#[32]⟩ : ByteArray).size ≤ 9223372036854775807, Con Tryz.prog 45 [I ((at_ m.Bigrams k.toNat).Cost)] true (Sv (decB ((at_ m.Bigrams k.toNat).Cost))) ∧ True, (((((at_ m.Bigrams k.toNat).First) ++ (⟨#[32]⟩ : ByteArray)) ++ ((at_ m.Bigrams k.toNat).Second)) ++ (⟨#[32]⟩ : ByteArray)).size + (decB ((at_ m.Bigrams k.toNat).Cost)).size ≤ 9223372036854775807, ((((((at_ m.Bigrams k.toNat).First) ++ (⟨#[32]⟩ : ByteArray)) ++ ((at_ m.Bigrams k.toNat).Second)) ++ (⟨#[32]⟩ : ByteArray)) ++ (decB ((at_ m.Bigrams k.toNat).Cost))).size + (⟨#[10]⟩ : ByteArray).size ≤ 9223372036854775807, ([.ref 3 0, Sv (((((((at_ m.Bigrams k.toNat).First) ++ (⟨#[32]⟩ : ByteArray)) ++ ((at_ m.Bigrams k.toNat).Second)) ++ (⟨#[32]⟩ : ByteArray)) ++ (decB ((at_ m.Bigrams k.toNat).Cost))) ++ (⟨#[10]⟩ : ByteArray))] : List AV) = [.ref 3 0, Sv (((((((at_ m.Bigrams k.toNat).First) ++ (⟨#[32]⟩ : ByteArray)) ++ ((at_ m.Bigrams k.toNat).Second)) ++ (⟨#[32]⟩ : ByteArray)) ++ (decB ((at_ m.Bigrams k.toNat).Cost))) ++ (⟨#[10]⟩ : ByteArray))] ∧ BwOK Tryz.prog 44 104 5 (.string (((((((at_ m.Bigrams k.toNat).First) ++ (⟨#[32]⟩ : ByteArray)) ++ ((at_ m.Bigrams k.toNat).Second)) ++ (⟨#[32]⟩ : ByteArray)) ++ (decB ((at_ m.Bigrams k.toNat).Cost))) ++ (⟨#[10]⟩ : ByteArray))) false tx false (((((((at_ m.Bigrams k.toNat).First) ++ (⟨#[32]⟩ : ByteArray)) ++ ((at_ m.Bigrams k.toNat).Second)) ++ (⟨#[32]⟩ : ByteArray)) ++ (decB ((at_ m.Bigrams k.toNat).Cost))) ++ (⟨#[10]⟩ : ByteArray))] hB ⟨(by (try simp only [ByteArray.size_append]); omega), (by (try simp only [ByteArray.size_append]); omega), (by (try simp only [ByteArray.size_append]); omega), ⟨(implDecimal_ok ((at_ m.Bigrams k.toNat).Cost) (by omega)), trivial⟩, (by (try simp only [ByteArray.size_append]); omega), (by (try simp only [ByteArray.size_append]); omega), ⟨rfl, bw_ok (by (try simp only [ByteArray.size_append]); omega)⟩, trivial⟩ ?_
   refine ae_block 1 ?_
   refine ae_then ?_
   refine aw_r [] [3, 17, 18, 19] [3, 60006] [.ref 3 0, slBigram false m.Bigrams, I (m.Bigrams.length : Int), I (k + 1)] [some (.bld 104 60006), some (.buf 5 false (tx ++ (((((((at_ m.Bigrams k.toNat).First) ++ (⟨#[32]⟩ : ByteArray)) ++ ((at_ m.Bigrams k.toNat).Second)) ++ (⟨#[32]⟩ : ByteArray)) ++ (decB ((at_ m.Bigrams k.toNat).Cost))) ++ (⟨#[10]⟩ : ByteArray))))] [inR .i64 (k + 1)] hB ⟨(inR_i64 (by omega) (by omega)), trivial⟩ ?_
   refine ae_weak hB [(60007, 60006)] (T := [(3, .ref 3 0), (17, slBigram false m.Bigrams), (18, I (m.Bigrams.length : Int)), (19, I (k + 1))]) (O := [(3, .bld 104 60007), (60007, .buf 5 false (tx ++ (((((((at_ m.Bigrams k.toNat).First) ++ (⟨#[32]⟩ : ByteArray)) ++ ((at_ m.Bigrams k.toNat).Second)) ++ (⟨#[32]⟩ : ByteArray)) ++ (decB ((at_ m.Bigrams k.toNat).Cost))) ++ (⟨#[10]⟩ : ByteArray))))]) rfl (⟨.inl rfl, .inl rfl, .inl rfl, .inl rfl, trivial⟩) (⟨.inl rfl, .inl rfl, trivial⟩) (ae_again _ (by omega) ⟨(k + 1), (tx ++ (((((((at_ m.Bigrams k.toNat).First) ++ (⟨#[32]⟩ : ByteArray)) ++ ((at_ m.Bigrams k.toNat).Second)) ++ (⟨#[32]⟩ : ByteArray)) ++ (decB ((at_ m.Bigrams k.toNat).Cost))) ++ (⟨#[10]⟩ : ByteArray))), rfl, (by omega), (by rw [hks, linesX, mdLns_at hi, ← htx]; simp only [bgLn, hfw, ByteArray.append_assoc]), rfl⟩)
  have hke : k.toNat = m.Bigrams.length := by omega
  rw [hke] at htx
  refine aw_r [(0, .dec false)] [3, 17, 18, 19, 20] [3, 60007] [.ref 3 0, slBigram false m.Bigrams, I (m.Bigrams.length : Int), I k, Bv false] [some (.bld 104 60007), some (.buf 5 false tx)] [¬ (k < (m.Bigrams.length : Int))] hB ⟨h1, trivial⟩ ?_
  refine ae_then ?_
  refine aw_seq ?_
  refine aw_false rfl ?_
  refine aw_exit ?_
  refine ae_exit_then ?_
  refine ae_exit_then ?_
  refine ae_exit_same ?_
  refine ae_then ?_
  refine aR [(0, .bs 3 60007)] [2] [] [Sv tx] [] [([.ref 3 0] : List AV) = [.ref 3 0] ∧ BsOK Tryz.prog 47 104 5] hB ⟨⟨rfl, bs_ok⟩, trivial⟩ ?_
  refine aw_ret ?_
  refine ae_ret hB (Sv tx) (by kernel_rfl) (.inl (by first | (rw [htx]; rfl) | rfl)) rfl (fun _ => trivial)



-- strings.HasSuffix
theorem hasSuffix_ok (s p : ByteArray) (hs : s.size ≤ 9223372036854775807) : Con Tryz.prog 95 [Sv s, Sv p] true (Bv (sufB s p)) := by
  refine con_of_calls (vals := [.string s, .string p]) fun w _ => ?_
  refine (Tryz.strings_HasSuffix s p w hs).mono ?_
  rintro e w' ⟨rfl, rfl⟩
  exact ⟨rfl, Below.refl _ _⟩



-- strings.TrimSuffix
theorem trimSuffix_ok (s p : ByteArray) (hs : s.size ≤ 9223372036854775807) : Con Tryz.prog 97 [Sv s, Sv p] true (Sv (trsB s p)) := by
  refine con_of_calls (vals := [.string s, .string p]) fun w _ => ?_
  refine (Tryz.strings_TrimSuffix s p w hs).mono ?_
  rintro e w' ⟨rfl, rfl⟩
  exact ⟨rfl, Below.refl _ _⟩



-- strings.Split
set_option maxHeartbeats 2000000 in
set_option maxRecDepth 100000 in
theorem split_ok (s sep : ByteArray) (hs : s.size ≤ 140737488 ∧ True) (h1 : sep.size = 1) : Con Tryz.prog 96 [Sv s, Sv sep] true (slS true (splB sep s)) := by
  obtain ⟨c, rfl⟩ := Lib.one_byte sep h1
  have hle := Lib.countB_le ⟨#[c]⟩ (by omega) s.size s (Nat.le_refl _)
  have hlen := splB_length (s := s) h1
  have hcell : ∀ i, i < Lib.countB s ⟨#[c]⟩ + 1 → (((Lib.splitB ⟨#[c]⟩ 0 (Lib.countB s ⟨#[c]⟩) s).map Value.string).toArray)[i]? = some (.string (at_ (splB ⟨#[c]⟩ s) i)) ∧ (Value.string (at_ (splB ⟨#[c]⟩ s) i)).oneCell' = true := fun i hi => by
    have hi2 : i < (Lib.splitB ⟨#[c]⟩ 0 (Lib.countB s ⟨#[c]⟩) s).length := by omega
    refine ⟨?_, rfl⟩
    have e : at_ (splB ⟨#[c]⟩ s) i = (Lib.splitB ⟨#[c]⟩ 0 (Lib.countB s ⟨#[c]⟩) s)[i] := at_eq hi2
    rw [e]
    simp [List.getElem?_eq_getElem hi2]
  have hmain := con_of_calls_sl (P := Tryz.prog) (f := 96) (vals := [.string s, .string ⟨#[c]⟩]) (n := Lib.countB s ⟨#[c]⟩ + 1) (T := 9) (cs := ((Lib.splitB ⟨#[c]⟩ 0 (Lib.countB s ⟨#[c]⟩) s).map Value.string).toArray) (g := fun i => .string (at_ (splB ⟨#[c]⟩ s) i)) (by unfold maxLen; omega) hcell ?_
  · have e : slS true (splB ⟨#[c]⟩ s) = .sl true 1 (Lib.countB s ⟨#[c]⟩ + 1) fun i => [Sv (at_ (splB ⟨#[c]⟩ s) i)] := by
      rw [← hlen]; rfl
    rw [e]
    exact hmain
  · intro w _
    have hI : ∀ (x : ByteArray) (d : Array Value), x.size ≤ s.size → Calls Tryz.prog 151 #[.string x, .string ⟨#[c]⟩] (w.alloc (.cells d 9)) fun e w' => e = .returned (.int .i64 (Lib.indexB x ⟨#[c]⟩)) ∧ w' = w.alloc (.cells d 9) := fun x d _ => by
      have := Tryz.strings_Index_one x c (w.alloc (.cells d 9))
      have e : Lib.indexB x ⟨#[c]⟩ = Lib.indexByte x.data.toList c := Lib.index_one _ _
      rw [e]
      exact this
    have hC : Calls Tryz.prog 150 #[.string s, .string ⟨#[c]⟩] w fun e w' => e = .returned (.int .i64 (Lib.countB s ⟨#[c]⟩)) ∧ w' = w := by
      have := Tryz.strings_Count_one s c w
      have e : Lib.countB s ⟨#[c]⟩ = Lib.countByte s.data.toList c := Lib.count_one c _
      rw [e]
      exact this
    have hcore := Any.strings_genSplit_core Tryz.lays221 (by kernel_rfl) s ⟨#[c]⟩ 0 (-1) (Lib.countB s ⟨#[c]⟩ + 1) w (by omega) (by omega) (Nat.zero_le _) hI hC (by decide) (by decide) (by rw [if_pos (by decide)]; omega)
    rw [Nat.add_sub_cancel, hlen] at hcore
    have e2 : Lib.cellsOf (Lib.splitB ⟨#[c]⟩ 0 (Lib.countB s ⟨#[c]⟩) s) (Lib.countB s ⟨#[c]⟩ + 1) = ((Lib.splitB ⟨#[c]⟩ 0 (Lib.countB s ⟨#[c]⟩) s).map Value.string).toArray := by rw [← hlen]; exact Lib.cellsOf_full _
    rw [e2] at hcore
    go_enter Tryz.func96, Tryz.ntmps96
    go_wp2_with (go_at_call 128; refine hcore.mono ?_; rintro e w' ⟨rfl, hw⟩; rw [hw])
    go_ret
    exact ⟨rfl, rfl⟩



-- impl.linesOf
theorem linesOf_ok (s : ByteArray) (ok : linOk s) : ∃ (ls : List ByteArray) (k : Bool), (ls = linB s) ∧ (k = true) ∧ Con Tryz.prog 41 [Sv s] true (.tup [slS true ls, Bv k]) := by
  have hz := ok.1
  have hh : ∃ r : (List ByteArray) × Bool, ((r.1 = linB s) ∧ (r.2 = true) ∧ (True)) ∧ CallOK Tryz.prog 41 [Sv s] (lookO []) true (.tup [slS true r.1, Bv r.2]) (lookO []) := by
    refine fn_okX (Φ := fun r : (List ByteArray) × Bool => (r.1 = linB s) ∧ (r.2 = true) ∧ (True)) [] (fun r => []) (fn := Tryz.f41) (nt := 12) Tryz.func41 rfl rfl (args := [Sv s]) rfl (allcons (.inl ⟨rfl, trivial⟩) allnil) (res := fun r => .tup [slS true r.1, Bv r.2]) ?_
    refine xR [] [0] [] [Sv s] [] [] trivial ?_
    refine x_seq ?_
    refine x_seq ?_
    by_cases h1 : s = (⟨#[]⟩ : ByteArray)
    ·have hlb : linB s = [] := by rw [linB, if_pos h1]
     refine x_r [(1, .dec true)] [0, 5] [] [Sv s, Bv true] [] [s = (⟨#[]⟩ : ByteArray)] ⟨h1, trivial⟩ ?_
     refine xe_then ?_
     refine x_true rfl ?_
     refine xR [] [2, 3] [] [nilA, Bv true] [] [] trivial ?_
     refine x_ret ?_
     refine xe_ret_then ?_
     refine xe_end (([] : List ByteArray), true) (show (([] : List ByteArray) = linB s) ∧ (true = true) ∧ (True) from ⟨(by first | exact hlb.symm | rfl), (by first | exact hlb.symm | rfl), trivial⟩) (trivial) (.tup [nilA, Bv true]) (by kernel_rfl) (.inr ⟨⟨rfl, rfl⟩, ⟨rfl, rfl⟩⟩) (fun _ => rfl) (fun _ => (by simp [tagged, taggedL, tagS]))
    have hse := h1
    have hlb : linB s = splB ⟨#[10]⟩ (trsB s ⟨#[10]⟩) := by rw [linB, if_neg hse]
    refine x_r [(1, .dec false)] [0, 5] [] [Sv s, Bv false] [] [¬ (s = (⟨#[]⟩ : ByteArray))] ⟨h1, trivial⟩ ?_
    refine xe_then ?_
    refine x_false rfl ?_
    refine x_skip ?_
    refine xe_then ?_
    refine x_seq ?_
    refine xR [(1, .call [(true, .any), (true, .any)] true (Bv true))] [0, 8] [] [Sv s, Bv false] [] [Con Tryz.prog 95 [Sv s, Sv (⟨#[10]⟩ : ByteArray)] true (Bv true) ∧ True] ⟨⟨(con_bool (ok.2.resolve_left hse) (hasSuffix_ok s (⟨#[10]⟩ : ByteArray) (by omega))), trivial⟩, trivial⟩ ?_
    refine x_false rfl ?_
    refine x_skip ?_
    refine xe_then ?_
    refine xR [(1, .call [(true, .any), (true, .any)] true (Sv (trsB s (⟨#[10]⟩ : ByteArray)))), (2, .call [(true, .any), (true, .any)] true (slS true (splB (⟨#[10]⟩ : ByteArray) (trsB s (⟨#[10]⟩ : ByteArray)))))] [2, 3] [] [slS true (splB (⟨#[10]⟩ : ByteArray) (trsB s (⟨#[10]⟩ : ByteArray))), Bv true] [] [Con Tryz.prog 97 [Sv s, Sv (⟨#[10]⟩ : ByteArray)] true (Sv (trsB s (⟨#[10]⟩ : ByteArray))) ∧ True, Con Tryz.prog 96 [Sv (trsB s (⟨#[10]⟩ : ByteArray)), Sv (⟨#[10]⟩ : ByteArray)] true (slS true (splB (⟨#[10]⟩ : ByteArray) (trsB s (⟨#[10]⟩ : ByteArray)))) ∧ True] ⟨⟨(trimSuffix_ok s (⟨#[10]⟩ : ByteArray) (by omega)), trivial⟩, ⟨(split_ok (trsB s (⟨#[10]⟩ : ByteArray)) (⟨#[10]⟩ : ByteArray) ⟨by have := trsB_size s ⟨#[10]⟩; omega, trivial⟩ rfl), trivial⟩, trivial⟩ ?_
    refine x_ret ?_
    refine xe_end ((splB (⟨#[10]⟩ : ByteArray) (trsB s (⟨#[10]⟩ : ByteArray))), true) (show ((splB (⟨#[10]⟩ : ByteArray) (trsB s (⟨#[10]⟩ : ByteArray))) = linB s) ∧ (true = true) ∧ (True) from ⟨(by first | exact hlb.symm | rfl), (by first | exact hlb.symm | rfl), trivial⟩) (trivial) (.tup [slS true (splB (⟨#[10]⟩ : ByteArray) (trsB s (⟨#[10]⟩ : ByteArray))), Bv true]) (by kernel_rfl) (.inl rfl) (fun _ => rfl) (fun _ => (by simp [tagged, taggedL, tagS]))
  obtain ⟨⟨ls, k⟩, ⟨hh0, hh1, _⟩, hc⟩ := hh
  exact ⟨ls, k, hh0, hh1, hc⟩



-- impl.wordsOf
theorem wordsOf_ok (s : ByteArray) (hz : s.size ≤ 10000000) : Con Tryz.prog 43 [Sv s] true (slS true (splB ⟨#[32]⟩ s)) := by
  refine fn_ok (fn := Tryz.f43) (nt := 5) Tryz.func43 rfl rfl rfl rfl (by simp [taggedL, tagged]) fun B hB => ?_
  refine aR [] [0] [] [Sv s] [] [] hB trivial ?_
  refine aR [(1, .call [(true, .any), (true, .any)] true (slS true (splB (⟨#[32]⟩ : ByteArray) s)))] [2] [] [slS true (splB (⟨#[32]⟩ : ByteArray) s)] [] [Con Tryz.prog 96 [Sv s, Sv (⟨#[32]⟩ : ByteArray)] true (slS true (splB (⟨#[32]⟩ : ByteArray) s)) ∧ True] hB ⟨⟨(split_ok s (⟨#[32]⟩ : ByteArray) ⟨by omega, trivial⟩ rfl), trivial⟩, trivial⟩ ?_
  refine aw_ret ?_
  refine ae_ret hB (slS true (splB (⟨#[32]⟩ : ByteArray) s)) (by kernel_rfl) (.inr ⟨(fun _ => rfl), rfl, (by first | rfl | (simp; done) | (simp; omega) | omega), fun i_ hi_ => .inl (by first | rfl | fail)⟩) rfl (fun _ => (tagS true _))



-- impl.ReadDecimal
set_option maxHeartbeats 2000000 in
theorem dec_calls (n : Int) (h : -9223372036854775808 ≤ n ∧ n ≤ 9223372036854775807) (w : World) (hw : WX w) : Calls Tryz.prog 45 #[.int .i64 n] w fun e w' => e = .returned (.string (decB n)) ∧ Below w.heap.size w w' := by
  go_enter Tryz.func45, Tryz.ntmps45
  go_wp2_with (go_at_call 100; refine (Tryz.strconv_FormatInt_10 n h.1 h.2 w (WX_tab hw)).mono ?_; rintro e w' ⟨rfl, k, os, rfl⟩)
  go_ret
  exact ⟨rfl, Lib.below_grow _ _ (Nat.le_refl _) k os⟩
set_option maxHeartbeats 4000000 in
set_option maxRecDepth 100000 in
theorem readDecT_calls (s : ByteArray) (hz : s.size ≤ 140737488 ∧ True) (w : World) (hw : WX w) : Calls Tryz.prog 66 #[.string s] w fun e w' => e = .returned (.tuple #[.int .i64 (dcN s), .bool (dcB s)]) ∧ Below w.heap.size w w' := by
  by_cases ht : 1 ≤ (Lib.trimPrefix s.data.toList [45]).length ∧ (Lib.trimPrefix s.data.toList [45]).length ≤ 18
  · cases hp : Lib.parseIntB 64 s.data.toList with
    | ok n =>
      have hn := pI_bd hp
      by_cases he : decB n = s
      · have hr := dcB_yes hp ht he
        rw [hr.1, hr.2]
        go_enter Tryz.func66, Tryz.ntmps66
        go_wp2_with (go_at_call 67; refine (Tryz.strings_TrimPrefix s _ w).mono ?_; rintro e w' ⟨rfl, hw'⟩; rw [hw'])
        clear hw'
        go_wp2_with (go_at_call 115; refine (Tryz.strconv_ParseInt_10_at64_ok s (by omega) n hp w).mono ?_; rintro e w2 ⟨rfl, hw2⟩)
        have hb : Below w.heap.size w w2 := by
          rcases hw2 with rfl | ⟨t, rfl⟩
          · exact Below.refl _ _
          · exact Lib.bytesWorld_below _ _ _
        have hx := WX_below hw w2 hb
        clear hw2
        go_wp2_with (go_at_call 45; refine (dec_calls n (by omega) w2 hx).mono ?_; rintro e w3 ⟨rfl, hb3⟩)
        go_ret2
        exact ⟨rfl, hb.trans (hb3.mono hb.size)⟩
      · have hr := dcB_ne hp he
        rw [hr.1, hr.2]
        have hne : ¬ (decB n).toList = s.toList := fun q => he (by
          rw [Lib.toList_data, Lib.toList_data] at q
          apply ByteArray.ext
          exact Array.ext' q)
        have hne2 : ((decB n).toList == s.toList) = false := beq_eq_false_iff_ne.2 hne
        go_enter Tryz.func66, Tryz.ntmps66
        go_wp2_with (go_at_call 67; refine (Tryz.strings_TrimPrefix s _ w).mono ?_; rintro e w' ⟨rfl, hw'⟩; rw [hw'])
        clear hw'
        go_wp2_with (go_at_call 115; refine (Tryz.strconv_ParseInt_10_at64_ok s (by omega) n hp w).mono ?_; rintro e w2 ⟨rfl, hw2⟩)
        have hb : Below w.heap.size w w2 := by
          rcases hw2 with rfl | ⟨t, rfl⟩
          · exact Below.refl _ _
          · exact Lib.bytesWorld_below _ _ _
        have hx := WX_below hw w2 hb
        clear hw2
        go_wp2_with (go_at_call 45; refine (dec_calls n (by omega) w2 hx).mono ?_; rintro e w3 ⟨rfl, hb3⟩)
        go_ret2
        exact ⟨rfl, hb.trans (hb3.mono hb.size)⟩
        all_goals (exfalso; first | contradiction | (simp_all; done))
    | «syntax» =>
      have hr := dcB_bad (s := s) fun n => by rw [hp]; exact fun h => by cases h
      rw [hr.1, hr.2]
      obtain ⟨tp, p, hv⟩ := hw.2.1
      go_enter Tryz.func66, Tryz.ntmps66
      go_wp2_with (go_at_call 67; refine (Tryz.strings_TrimPrefix s _ w).mono ?_; rintro e w' ⟨rfl, hw'⟩; rw [hw'])
      clear hw'
      go_wp2_with (go_at_call 115; refine (Tryz.strconv_ParseInt_10_at64_syntax_var s (by omega) hp tp p w hv).mono ?_; rintro e w2 ⟨N, rfl, _, _, hb⟩)
      go_ret2
      exact ⟨rfl, hb⟩
    | range =>
      have hr := dcB_bad (s := s) fun n => by rw [hp]; exact fun h => by cases h
      rw [hr.1, hr.2]
      obtain ⟨tp, p, hv⟩ := hw.2.2
      go_enter Tryz.func66, Tryz.ntmps66
      go_wp2_with (go_at_call 67; refine (Tryz.strings_TrimPrefix s _ w).mono ?_; rintro e w' ⟨rfl, hw'⟩; rw [hw'])
      clear hw'
      go_wp2_with (go_at_call 115; refine (Tryz.strconv_ParseInt_10_at64_range_var s (by omega) hp tp p w hv).mono ?_; rintro e w2 ⟨N, rfl, _, _, hb⟩)
      go_ret2
      exact ⟨rfl, hb⟩
  · have hr := dcB_len ht
    rw [hr.1, hr.2]
    by_cases h0 : (Lib.trimPrefix s.data.toList [45]).length < 1
    · go_enter Tryz.func66, Tryz.ntmps66
      go_wp2_with (go_at_call 67; refine (Tryz.strings_TrimPrefix s _ w).mono ?_; rintro e w' ⟨rfl, hw'⟩; rw [hw'])
      go_ret2
      exact ⟨rfl, Below.refl _ _⟩
    · have h18 : 18 < (Lib.trimPrefix s.data.toList [45]).length := by omega
      go_enter Tryz.func66, Tryz.ntmps66
      go_wp2_with (go_at_call 67; refine (Tryz.strings_TrimPrefix s _ w).mono ?_; rintro e w' ⟨rfl, hw'⟩; rw [hw'])
      go_ret2
      exact ⟨rfl, Below.refl _ _⟩
theorem readDecT_ok (s : ByteArray) (hz : s.size ≤ 140737488 ∧ True) : Con Tryz.prog 66 [Sv s] true (.tup [I (dcN s), Bv (dcB s)]) :=
  con_of_calls2 (vals := [.string s]) fun w hw => readDecT_calls s hz w hw



-- strings.TrimPrefix
theorem trimPrefix_ok (s p : ByteArray) : Con Tryz.prog 67 [Sv s, Sv p] true (Sv (trpB s p)) := by
  refine con_of_calls (vals := [.string s, .string p]) fun w _ => ?_
  refine (Tryz.strings_TrimPrefix s p w).mono ?_
  rintro e w' ⟨rfl, rfl⟩
  exact ⟨rfl, Below.refl _ _⟩





-- impl.ReadModel
theorem ReadModel_ok (s : ByteArray) (ok : ∃ md, okMod md ∧ s = mdTx md) : ∃ (v : Model) (c : Bool), (∀ md, okMod md → s = mdTx md → v = md) ∧ (c = true) ∧ Con Tryz.prog 22 [Sv s] true (.tup [agModelT v, Bv c]) := by
  obtain ⟨md, hok, hsi⟩ := ok
  have h60 := hok.2.1
  have huq : ∀ md2, okMod md2 → s = mdTx md2 → md = md2 := fun md2 h2 q2 => md_inj hok h2 (hsi.symm.trans q2)
  have hq_ := md_lines hok
  have hls : linB s = mdLns md := by have q := hq_; rw [← hsi] at q; unfold lnR at q; unfold linB; split at q; (have q2 := congrArg Prod.fst q; simp only at q2; exact absurd (congrArg List.length q2) (by simp [mdLns])); (rename_i h0_; split at q; (rw [if_neg h0_]; exact congrArg Prod.fst q); (exact absurd (congrArg Prod.snd q) (by simp)))
  have hlo : linOk s := by refine ⟨?_, ?_⟩; (rw [hsi]; exact Nat.le_trans (mdL_size hok (Nat.le_refl _)) (by decide)); (have q := hq_; rw [← hsi] at q; unfold lnR at q; split at q; (exact .inl (by assumption)); (split at q; (exact .inr (by assumption)); (exact absurd (congrArg Prod.snd q) (by simp))))
  have hh : ∃ r : Model × Bool, ((∀ md, okMod md → s = mdTx md → r.1 = md) ∧ (r.2 = true) ∧ (True)) ∧ CallOK Tryz.prog 22 [Sv s] (lookO []) true (.tup [agModelT r.1, Bv r.2]) (lookO []) := by
    refine fn_okX (Φ := fun r : Model × Bool => (∀ md, okMod md → s = mdTx md → r.1 = md) ∧ (r.2 = true) ∧ (True)) [] (fun r => []) (fn := Tryz.f22) (nt := 87) Tryz.func22 rfl rfl (args := [Sv s]) rfl (allcons (.inl ⟨rfl, trivial⟩) allnil) (res := fun r => .tup [agModelT r.1, Bv r.2]) ?_
    refine xR [(0, .new 2)] [0, 2] [2] [Sv s, .ref 2 0] [some (.box [I 0, nilA])] [] trivial ?_
    refine x_seq ?_
    obtain ⟨ls_1, k_1, hx1_0, hx1_1, hc1⟩ := linesOf_ok s hlo
    have hlv : ls_1 = mdLns md := by rw [hx1_0, hls]
    have hlk := hx1_1
    have hll : ls_1.length = md.Bigrams.length + 1 := by rw [hlv]; simp [mdLns]
    refine x_r [(1, .call [(true, .any)] true (.tup [slS true ls_1, Bv k_1]))] [0, 2, 4, 5] [2] [Sv s, .ref 2 0, slS true ls_1, Bv k_1] [some (.box [I 0, nilA])] [Con Tryz.prog 41 [Sv s] true (.tup [slS true ls_1, Bv k_1]) ∧ True] ⟨⟨hc1, trivial⟩, trivial⟩ ?_
    refine xe_then ?_
    refine x_seq ?_
    refine x_seq ?_
    obtain rfl : k_1 = true := hlk
    refine x_r [] [0, 2, 4, 18] [2] [Sv s, .ref 2 0, slS true ls_1, Bv false] [some (.box [I 0, nilA])] [] trivial ?_
    refine xe_then ?_
    refine x_false rfl ?_
    refine x_skip ?_
    refine xe_then ?_
    refine xR [(0, .new 6)] [0, 2, 4, 6] [2, 6] [Sv s, .ref 2 0, slS true ls_1, .ref 6 0] [some (.box [I 0, nilA]), some (.box [I 0, nilA])] [] trivial ?_
    refine x_seq ?_
    refine xR [] [0, 2, 6, 20, 21, 22] [2, 6] [Sv s, .ref 2 0, .ref 6 0, slS true ls_1, I (ls_1.length : Int), I 0] [some (.box [I 0, nilA]), some (.box [I 0, nilA])] [] trivial ?_
    refine x_block ?_
    refine x_nilC 6 1 761 3 (fun _ => []) rfl (by kernel_rfl) ?_
    refine x_weak [] (T := [(0, Sv s), (2, .ref 2 0), (6, .ref 6 0), (20, slS true ls_1), (21, I (ls_1.length : Int)), (22, I 0)]) (O := [(2, .box [I 0, nilA]), (6, .box [I 0, .arr 761]), (761, tABigram ([] : List Bigram))]) rfl (⟨.inl rfl, .inl rfl, .inl rfl, .inl rfl, .inl rfl, .inl rfl, trivial⟩) (⟨.inl rfl, .inl rfl, .inr ⟨rfl, (by first | rfl | (simp; done) | (simp; omega) | omega), fun i_ hi_ => absurd hi_ (Nat.not_lt_zero _)⟩, trivial⟩) ?_
    refine x_loop (X := Int × Int × (List Bigram)) (fun x => mkS [(0, Sv s), (2, .ref 2 0), (6, .ref 6 0), (20, slS true ls_1), (21, I (ls_1.length : Int)), (22, I x.1)] [(2, .box [I 0, nilA]), (6, .box [I x.2.1, .arr 761]), (761, tABigram x.2.2)]) (fun x => (0 ≤ x.1 ∧ x.1 ≤ (ls_1.length : Int)) ∧ ((x.2.2.length : Int) ≤ x.1) ∧ ((x.1 = 0 ∧ x.2.2 = []) ∨ (1 ≤ x.1 ∧ x.2.1 = md.Default ∧ x.2.2 = md.Bigrams.take (x.1.toNat - 1))) ∧ True) (fun x => ((ls_1.length : Int) - x.1).toNat) (0, 0, ([] : List Bigram)) rfl (show (0 ≤ (0 : Int) ∧ (0 : Int) ≤ (ls_1.length : Int)) ∧ ((([] : List Bigram).length : Int) ≤ (0 : Int)) ∧ (((0 : Int) = 0 ∧ ([] : List Bigram) = []) ∨ (1 ≤ (0 : Int) ∧ (0 : Int) = md.Default ∧ ([] : List Bigram) = md.Bigrams.take ((0 : Int).toNat - 1))) ∧ True from ⟨(by omega), (by simp), (by exact .inl ⟨rfl, rfl⟩), trivial⟩) (fun x hI => ?_)
    obtain ⟨k, bd, ts⟩ := x
    obtain ⟨hi0, htl, hst_, _⟩ : (0 ≤ k ∧ k ≤ (ls_1.length : Int)) ∧ ((ts.length : Int) ≤ k) ∧ ((k = 0 ∧ ts = []) ∨ (1 ≤ k ∧ bd = md.Default ∧ ts = md.Bigrams.take (k.toNat - 1))) ∧ True := hI
    show XW _ _ _ _ (mkS [(0, Sv s), (2, .ref 2 0), (6, .ref 6 0), (20, slS true ls_1), (21, I (ls_1.length : Int)), (22, I k)] [(2, .box [I 0, nilA]), (6, .box [I bd, .arr 761]), (761, tABigram ts)]) _ _
    refine x_seq ?_
    by_cases h1 : k < (ls_1.length : Int)
    ·have hi : k.toNat < ls_1.length := by omega
     have hlz : (at_ ls_1 k.toNat).size ≤ 50 := by rw [hlv]; exact mdLns_size hok _ (at_mem (by rw [← hlv]; exact hi))
     have hw0 : k = 0 → (splB ⟨#[32]⟩ (at_ ls_1 k.toNat)) = [wM, decB md.Default] := fun q => by rw [hlv, q]; exact hdM_words _
     have hw1 : 1 ≤ k → (splB ⟨#[32]⟩ (at_ ls_1 k.toNat)) = [fstW (at_ md.Bigrams (k.toNat - 1)).First, (at_ md.Bigrams (k.toNat - 1)).Second, decB (at_ md.Bigrams (k.toNat - 1)).Cost] := fun q => by rw [hlv, show k.toNat = (k.toNat - 1) + 1 from by omega, mdLns_at (by omega), Nat.add_sub_cancel]; exact bg_words (hok.2.2.1 _ (at_mem (by omega)))
     refine x_r [(0, .dec true)] [0, 2, 6, 20, 21, 22, 23] [2, 6, 761] [Sv s, .ref 2 0, .ref 6 0, slS true ls_1, I (ls_1.length : Int), I k, Bv true] [some (.box [I 0, nilA]), some (.box [I bd, .arr 761]), some (tABigram ts)] [k < (ls_1.length : Int)] ⟨h1, trivial⟩ ?_
     refine xe_then ?_
     refine x_seq ?_
     refine x_true rfl ?_
     refine x_skip ?_
     refine xe_then ?_
     refine x_seq ?_
     refine x_block ?_
     refine xR [] [0, 2, 6, 7, 8, 20, 21, 22] [2, 6, 761] [Sv s, .ref 2 0, .ref 6 0, I k, Sv (at_ ls_1 k.toNat), slS true ls_1, I (ls_1.length : Int), I k] [some (.box [I 0, nilA]), some (.box [I bd, .arr 761]), some (tABigram ts)] [(0 : Int) ≤ k ∧ k < (ls_1.length : Int)] ⟨⟨(by omega), (by omega)⟩, trivial⟩ ?_
     refine xR [(1, .call [(true, .any)] true (slS true (splB ⟨#[32]⟩ (at_ ls_1 k.toNat))))] [0, 2, 6, 7, 9, 20, 21, 22] [2, 6, 761] [Sv s, .ref 2 0, .ref 6 0, I k, slS true (splB ⟨#[32]⟩ (at_ ls_1 k.toNat)), slS true ls_1, I (ls_1.length : Int), I k] [some (.box [I 0, nilA]), some (.box [I bd, .arr 761]), some (tABigram ts)] [Con Tryz.prog 43 [Sv (at_ ls_1 k.toNat)] true (slS true (splB ⟨#[32]⟩ (at_ ls_1 k.toNat))) ∧ True] ⟨⟨(wordsOf_ok (at_ ls_1 k.toNat) (by first | omega | (refine ⟨?_, trivial⟩; omega))), trivial⟩, trivial⟩ ?_
     refine x_block ?_
     refine x_seq ?_
     by_cases h2 : k = 0
     ·have hk0 : k = 0 := h2
      have hwS := hw0 hk0
      have hwn : (splB ⟨#[32]⟩ (at_ ls_1 k.toNat)).length = 2 := by rw [hwS]; rfl
      have hd1 : at_ (splB ⟨#[32]⟩ (at_ ls_1 k.toNat)) 1 = decB md.Default := by rw [hwS]; rfl
      have hdz1 : (at_ (splB ⟨#[32]⟩ (at_ ls_1 k.toNat)) 1).size ≤ 50 := Nat.le_trans (splB_piece (at_mem (by omega))) hlz
      refine x_r [(1, .dec true), (5, .dec true)] [0, 2, 6, 7, 9, 20, 21, 22, 30] [2, 6, 761] [Sv s, .ref 2 0, .ref 6 0, I k, slS true (splB ⟨#[32]⟩ (at_ ls_1 k.toNat)), slS true ls_1, I (ls_1.length : Int), I k, Bv true] [some (.box [I 0, nilA]), some (.box [I bd, .arr 761]), some (tABigram ts)] [k = 0, (((splB ⟨#[32]⟩ (at_ ls_1 k.toNat)).length) : Int) = 2] ⟨h2, (by omega), trivial⟩ ?_
      refine xe_then ?_
      refine x_true rfl ?_
      refine x_r [(3, .call [(true, .any)] true (.tup [I (dcN (at_ (splB ⟨#[32]⟩ (at_ ls_1 k.toNat)) 1)), Bv (dcB (at_ (splB ⟨#[32]⟩ (at_ ls_1 k.toNat)) 1))]))] [0, 2, 6, 20, 21, 22] [2, 6, 761] [Sv s, .ref 2 0, .ref 6 0, slS true ls_1, I (ls_1.length : Int), I k] [some (.box [I 0, nilA]), some (.box [I (dcN (at_ (splB ⟨#[32]⟩ (at_ ls_1 k.toNat)) 1)), .arr 761]), some (tABigram ts)] [(0 : Int) ≤ 1 ∧ 1 < (((splB ⟨#[32]⟩ (at_ ls_1 k.toNat)).length) : Int), Con Tryz.prog 66 [Sv (at_ (splB ⟨#[32]⟩ (at_ ls_1 k.toNat)) 1)] true (.tup [I (dcN (at_ (splB ⟨#[32]⟩ (at_ ls_1 k.toNat)) 1)), Bv (dcB (at_ (splB ⟨#[32]⟩ (at_ ls_1 k.toNat)) 1))]) ∧ True] ⟨⟨(by omega), (by omega)⟩, ⟨(readDecT_ok (at_ (splB ⟨#[32]⟩ (at_ ls_1 k.toNat)) 1) (by first | omega | (refine ⟨?_, trivial⟩; omega))), trivial⟩, trivial⟩ ?_
      refine xe_block 2 ?_
      refine xe_block 1 ?_
      refine xe_then ?_
      refine x_r [] [0, 2, 6, 20, 21, 22] [2, 6, 761] [Sv s, .ref 2 0, .ref 6 0, slS true ls_1, I (ls_1.length : Int), I (k + 1)] [some (.box [I 0, nilA]), some (.box [I (dcN (at_ (splB ⟨#[32]⟩ (at_ ls_1 k.toNat)) 1)), .arr 761]), some (tABigram ts)] [inR .i64 (k + 1)] ⟨(inR_i64 (by omega) (by omega)), trivial⟩ ?_
      exact xe_again ((k + 1), (dcN (at_ (splB ⟨#[32]⟩ (at_ ls_1 k.toNat)) 1)), ts) rfl (show (0 ≤ (k + 1) ∧ (k + 1) ≤ (ls_1.length : Int)) ∧ ((ts.length : Int) ≤ (k + 1)) ∧ (((k + 1) = 0 ∧ ts = []) ∨ (1 ≤ (k + 1) ∧ (dcN (at_ (splB ⟨#[32]⟩ (at_ ls_1 k.toNat)) 1)) = md.Default ∧ ts = md.Bigrams.take ((k + 1).toNat - 1))) ∧ True from ⟨(by omega), (by first | omega | (simp; omega)), (by first | (refine .inr ⟨by omega, (by have hb_ := hok.1; rw [hd1, dcN_num (by omega)]), ?_⟩; rcases hst_ with q | q; (rw [q.2, hk0]; rfl); omega) | (rcases hst_ with q | q; (omega); ((have e_ : at_ md.Bigrams (k.toNat - 1) = ⟨trpB (at_ (splB ⟨#[32]⟩ (at_ ls_1 k.toNat)) 0) ⟨#[45]⟩, at_ (splB ⟨#[32]⟩ (at_ ls_1 k.toNat)) 1, dcN (at_ (splB ⟨#[32]⟩ (at_ ls_1 k.toNat)) 2)⟩ := by (rw [hd0, hd1, hd2, trp_fst hbg, dcN_num (by have q_ := hbg.2.2; omega)])); refine .inr ⟨by omega, q.2.1, ?_⟩; rw [q.2.2, ← e_, show (k + 1).toNat - 1 = (k.toNat - 1) + 1 from by omega, List.take_succ_eq_append_getElem (by omega), at_eq (by omega)]))), trivial⟩) (by first | (show (((ls_1.length : Int) - (k + 1)).toNat : Nat) < ((ls_1.length : Int) - k).toNat; omega) | (dsimp only; omega))
     have hk1 : 1 ≤ k := by omega
     have hwT := hw1 hk1
     have hbg := hok.2.2.1 _ (at_mem (show k.toNat - 1 < md.Bigrams.length by omega))
     have hwn : (splB ⟨#[32]⟩ (at_ ls_1 k.toNat)).length = 3 := by rw [hwT]; rfl
     have hd0 : at_ (splB ⟨#[32]⟩ (at_ ls_1 k.toNat)) 0 = fstW (at_ md.Bigrams (k.toNat - 1)).First := by rw [hwT]; rfl
     have hd1 : at_ (splB ⟨#[32]⟩ (at_ ls_1 k.toNat)) 1 = (at_ md.Bigrams (k.toNat - 1)).Second := by rw [hwT]; rfl
     have hd2 : at_ (splB ⟨#[32]⟩ (at_ ls_1 k.toNat)) 2 = decB (at_ md.Bigrams (k.toNat - 1)).Cost := by rw [hwT]; rfl
     have hdz2 : (at_ (splB ⟨#[32]⟩ (at_ ls_1 k.toNat)) 2).size ≤ 50 := Nat.le_trans (splB_piece (at_mem (by omega))) hlz
     refine x_r [(1, .dec false)] [0, 2, 6, 7, 9, 20, 21, 22, 30] [2, 6, 761] [Sv s, .ref 2 0, .ref 6 0, I k, slS true (splB ⟨#[32]⟩ (at_ ls_1 k.toNat)), slS true ls_1, I (ls_1.length : Int), I k, Bv false] [some (.box [I 0, nilA]), some (.box [I bd, .arr 761]), some (tABigram ts)] [¬ (k = 0)] ⟨h2, trivial⟩ ?_
     refine xe_then ?_
     refine x_false rfl ?_
     refine xR [(1, .dec true), (5, .dec true)] [0, 2, 6, 9, 20, 21, 22, 46] [2, 6, 761] [Sv s, .ref 2 0, .ref 6 0, slS true (splB ⟨#[32]⟩ (at_ ls_1 k.toNat)), slS true ls_1, I (ls_1.length : Int), I k, Bv true] [some (.box [I 0, nilA]), some (.box [I bd, .arr 761]), some (tABigram ts)] [0 < k, (((splB ⟨#[32]⟩ (at_ ls_1 k.toNat)).length) : Int) = 3] ⟨(by omega), (by omega), trivial⟩ ?_
     refine x_true rfl ?_
     refine xR [(3, .call [(true, .any)] true (.tup [I (dcN (at_ (splB ⟨#[32]⟩ (at_ ls_1 k.toNat)) 2)), Bv (dcB (at_ (splB ⟨#[32]⟩ (at_ ls_1 k.toNat)) 2))]))] [0, 2, 6, 9, 10, 20, 21, 22] [2, 6, 761] [Sv s, .ref 2 0, .ref 6 0, slS true (splB ⟨#[32]⟩ (at_ ls_1 k.toNat)), I (dcN (at_ (splB ⟨#[32]⟩ (at_ ls_1 k.toNat)) 2)), slS true ls_1, I (ls_1.length : Int), I k] [some (.box [I 0, nilA]), some (.box [I bd, .arr 761]), some (tABigram ts)] [(0 : Int) ≤ 2 ∧ 2 < (((splB ⟨#[32]⟩ (at_ ls_1 k.toNat)).length) : Int), Con Tryz.prog 66 [Sv (at_ (splB ⟨#[32]⟩ (at_ ls_1 k.toNat)) 2)] true (.tup [I (dcN (at_ (splB ⟨#[32]⟩ (at_ ls_1 k.toNat)) 2)), Bv (dcB (at_ (splB ⟨#[32]⟩ (at_ ls_1 k.toNat)) 2))]) ∧ True] ⟨⟨(by omega), (by omega)⟩, ⟨(readDecT_ok (at_ (splB ⟨#[32]⟩ (at_ ls_1 k.toNat)) 2) (by first | omega | (refine ⟨?_, trivial⟩; omega))), trivial⟩, trivial⟩ ?_
     refine x_r [(5, .call [(true, .any), (true, .any)] true (Sv (trpB (at_ (splB ⟨#[32]⟩ (at_ ls_1 k.toNat)) 0) (⟨#[45]⟩ : ByteArray)))), (11, .new 72), (12, .new 73)] [0, 2, 6, 20, 21, 22] [2, 6, 73] [Sv s, .ref 2 0, .ref 6 0, slS true ls_1, I (ls_1.length : Int), I k] [some (.box [I 0, nilA]), some (.box [I bd, .arr 73]), some (.arr 3 (ts.length + 1) (catF ts.length (fBigram ts) (litF [Sv (trpB (at_ (splB ⟨#[32]⟩ (at_ ls_1 k.toNat)) 0) (⟨#[45]⟩ : ByteArray)), Sv (at_ (splB ⟨#[32]⟩ (at_ ls_1 k.toNat)) 1), I (dcN (at_ (splB ⟨#[32]⟩ (at_ ls_1 k.toNat)) 2))] 3)))] [(0 : Int) ≤ 0 ∧ 0 < (((splB ⟨#[32]⟩ (at_ ls_1 k.toNat)).length) : Int), Con Tryz.prog 67 [Sv (at_ (splB ⟨#[32]⟩ (at_ ls_1 k.toNat)) 0), Sv (⟨#[45]⟩ : ByteArray)] true (Sv (trpB (at_ (splB ⟨#[32]⟩ (at_ ls_1 k.toNat)) 0) (⟨#[45]⟩ : ByteArray))) ∧ True, (0 : Int) ≤ 1 ∧ 1 < (((splB ⟨#[32]⟩ (at_ ls_1 k.toNat)).length) : Int), (ts.length + 1) * 40 ≤ 140737488355328] ⟨⟨(by omega), (by omega)⟩, ⟨(trimPrefix_ok (at_ (splB ⟨#[32]⟩ (at_ ls_1 k.toNat)) 0) (⟨#[45]⟩ : ByteArray)), trivial⟩, ⟨(by omega), (by omega)⟩, (by omega), trivial⟩ ?_
     refine xe_block 2 ?_
     refine xe_block 1 ?_
     refine xe_then ?_
     refine x_r [] [0, 2, 6, 20, 21, 22] [2, 6, 73] [Sv s, .ref 2 0, .ref 6 0, slS true ls_1, I (ls_1.length : Int), I (k + 1)] [some (.box [I 0, nilA]), some (.box [I bd, .arr 73]), some (.arr 3 (ts.length + 1) (catF ts.length (fBigram ts) (litF [Sv (trpB (at_ (splB ⟨#[32]⟩ (at_ ls_1 k.toNat)) 0) (⟨#[45]⟩ : ByteArray)), Sv (at_ (splB ⟨#[32]⟩ (at_ ls_1 k.toNat)) 1), I (dcN (at_ (splB ⟨#[32]⟩ (at_ ls_1 k.toNat)) 2))] 3)))] [inR .i64 (k + 1)] ⟨(inR_i64 (by omega) (by omega)), trivial⟩ ?_
     refine xe_weak [(761, 73)] (T := [(0, Sv s), (2, .ref 2 0), (6, .ref 6 0), (20, slS true ls_1), (21, I (ls_1.length : Int)), (22, I (k + 1))]) (O := [(2, .box [I 0, nilA]), (6, .box [I bd, .arr 761]), (761, tABigram (ts ++ [(Bigram.mk (trpB (at_ (splB ⟨#[32]⟩ (at_ ls_1 k.toNat)) 0) (⟨#[45]⟩ : ByteArray)) (at_ (splB ⟨#[32]⟩ (at_ ls_1 k.toNat)) 1) (dcN (at_ (splB ⟨#[32]⟩ (at_ ls_1 k.toNat)) 2)))]))]) rfl (⟨.inl rfl, .inl rfl, .inl rfl, .inl rfl, .inl rfl, .inl rfl, trivial⟩) (⟨.inl rfl, .inl rfl, .inr ⟨rfl, (by first | rfl | (simp; done) | (simp; omega) | omega), fun i_ hi_ => .inl (cat_snoc (enc := cBigram) (xs := ts) rfl i_ hi_)⟩, trivial⟩) (xe_again ((k + 1), bd, (ts ++ [(Bigram.mk (trpB (at_ (splB ⟨#[32]⟩ (at_ ls_1 k.toNat)) 0) (⟨#[45]⟩ : ByteArray)) (at_ (splB ⟨#[32]⟩ (at_ ls_1 k.toNat)) 1) (dcN (at_ (splB ⟨#[32]⟩ (at_ ls_1 k.toNat)) 2)))])) rfl (show (0 ≤ (k + 1) ∧ (k + 1) ≤ (ls_1.length : Int)) ∧ (((ts ++ [(Bigram.mk (trpB (at_ (splB ⟨#[32]⟩ (at_ ls_1 k.toNat)) 0) (⟨#[45]⟩ : ByteArray)) (at_ (splB ⟨#[32]⟩ (at_ ls_1 k.toNat)) 1) (dcN (at_ (splB ⟨#[32]⟩ (at_ ls_1 k.toNat)) 2)))]).length : Int) ≤ (k + 1)) ∧ (((k + 1) = 0 ∧ (ts ++ [(Bigram.mk (trpB (at_ (splB ⟨#[32]⟩ (at_ ls_1 k.toNat)) 0) (⟨#[45]⟩ : ByteArray)) (at_ (splB ⟨#[32]⟩ (at_ ls_1 k.toNat)) 1) (dcN (at_ (splB ⟨#[32]⟩ (at_ ls_1 k.toNat)) 2)))]) = []) ∨ (1 ≤ (k + 1) ∧ bd = md.Default ∧ (ts ++ [(Bigram.mk (trpB (at_ (splB ⟨#[32]⟩ (at_ ls_1 k.toNat)) 0) (⟨#[45]⟩ : ByteArray)) (at_ (splB ⟨#[32]⟩ (at_ ls_1 k.toNat)) 1) (dcN (at_ (splB ⟨#[32]⟩ (at_ ls_1 k.toNat)) 2)))]) = md.Bigrams.take ((k + 1).toNat - 1))) ∧ True from ⟨(by omega), (by first | omega | (simp; omega)), (by first | (refine .inr ⟨by omega, (by have hb_ := hok.1; rw [hd1, dcN_num (by omega)]), ?_⟩; rcases hst_ with q | q; (rw [q.2, hk0]; rfl); omega) | (rcases hst_ with q | q; (omega); ((have e_ : at_ md.Bigrams (k.toNat - 1) = ⟨trpB (at_ (splB ⟨#[32]⟩ (at_ ls_1 k.toNat)) 0) ⟨#[45]⟩, at_ (splB ⟨#[32]⟩ (at_ ls_1 k.toNat)) 1, dcN (at_ (splB ⟨#[32]⟩ (at_ ls_1 k.toNat)) 2)⟩ := by (rw [hd0, hd1, hd2, trp_fst hbg, dcN_num (by have q_ := hbg.2.2; omega)])); refine .inr ⟨by omega, q.2.1, ?_⟩; rw [q.2.2, ← e_, show (k + 1).toNat - 1 = (k.toNat - 1) + 1 from by omega, List.take_succ_eq_append_getElem (by omega), at_eq (by omega)]))), trivial⟩) (by first | (show (((ls_1.length : Int) - (k + 1)).toNat : Nat) < ((ls_1.length : Int) - k).toNat; omega) | (dsimp only; omega)))
    have hke : k.toNat = md.Bigrams.length + 1 := by omega
    have hfin : Model.mk bd ts = md := by rcases hst_ with q | q; (omega); (rw [q.2.1, q.2.2, List.take_of_length_le (by omega)])
    refine x_r [(0, .dec false)] [0, 2, 6, 20, 21, 22, 23] [2, 6, 761] [Sv s, .ref 2 0, .ref 6 0, slS true ls_1, I (ls_1.length : Int), I k, Bv false] [some (.box [I 0, nilA]), some (.box [I bd, .arr 761]), some (tABigram ts)] [¬ (k < (ls_1.length : Int))] ⟨h1, trivial⟩ ?_
    refine xe_then ?_
    refine x_seq ?_
    refine x_false rfl ?_
    refine x_exit ?_
    refine xe_exit_then ?_
    refine xe_loop_exit ?_
    refine xe_exit_same ?_
    refine xe_then ?_
    refine x_seq ?_
    refine xR [(1, .call [(false, .agg [I bd, slBigram false ts])] true (Bv true)), (5, .call [(false, .agg [I bd, slBigram false ts])] true (Sv (mdTx (Model.mk bd ts)))), (7, .dec false)] [2, 6, 84] [2, 6, 761] [.ref 2 0, .ref 6 0, Bv false] [some (.box [I 0, nilA]), some (.box [I bd, .arr 761]), some (tABigram ts)] [Con Tryz.prog 55 [.agg [I bd, slBigram false ts]] true (Bv true) ∧ ((valOf (I bd) = valOf (I bd)) ∧ ((false = true → true = true) ∧ 3 = 3 ∧ ts.length = ts.length ∧ ∀ i_, i_ < ts.length → (fBigram ts) i_ = (fBigram ts) i_ ∨ (AV.idsL ((fBigram ts) i_) = [] ∧ leL (fun _ => none) false ((fBigram ts) i_) ((fBigram ts) i_))) ∧ ([] : List AV) = []) ∧ True, Con Tryz.prog 23 [.agg [I bd, slBigram false ts]] true (Sv (mdTx (Model.mk bd ts))) ∧ ((valOf (I bd) = valOf (I bd)) ∧ ((false = true → true = true) ∧ 3 = 3 ∧ ts.length = ts.length ∧ ∀ i_, i_ < ts.length → (fBigram ts) i_ = (fBigram ts) i_ ∨ (AV.idsL ((fBigram ts) i_) = [] ∧ leL (fun _ => none) false ((fBigram ts) i_) ((fBigram ts) i_))) ∧ ([] : List AV) = []) ∧ True, ¬ ((mdTx (Model.mk bd ts)) ≠ s)] ⟨⟨(ValidModel_ok (Model.mk bd ts) (by rw [hfin]; exact hok)), ⟨rfl, ⟨⟨(fun h => by cases h), rfl, rfl, fun i _ => .inl rfl⟩, rfl⟩⟩, trivial⟩, ⟨(ModelText_ok (Model.mk bd ts) (by rw [hfin]; exact hok)), ⟨rfl, ⟨⟨(fun h => by cases h), rfl, rfl, fun i _ => .inl rfl⟩, rfl⟩⟩, trivial⟩, (fun hq => hq (by rw [hfin]; exact hsi.symm)), trivial⟩ ?_
    refine x_false rfl ?_
    refine x_skip ?_
    refine xe_then ?_
    refine xR [] [2, 3] [2, 761] [.ref 2 0, Bv true] [some (.box [I bd, .arr 761]), some (tABigram ts)] [] trivial ?_
    refine x_ret ?_
    refine xe_end ((Model.mk bd ts), true) (show (∀ md, okMod md → s = mdTx md → (Model.mk bd ts) = md) ∧ (true = true) ∧ (True) from ⟨(by exact fun m2 h2 q2 => hfin.trans (huq m2 h2 q2)), (by rfl), trivial⟩) (trivial) (.tup [.agg [I bd, .arr 761], Bv true]) (by kernel_rfl) (.inr ⟨⟨rfl, ⟨⟨(fun _ => rfl), rfl, rfl, fun i _ => .inl rfl⟩, rfl⟩⟩, ⟨rfl, rfl⟩⟩) (fun _ => rfl) (fun _ => (by simp [tagged, taggedL, tagBigram]))
  obtain ⟨⟨v, c⟩, ⟨hh0, hh1, _⟩, hc⟩ := hh
  exact ⟨v, c, hh0, hh1, hc⟩



-- impl.CountModel$1
theorem CountModel1_ok (w : ByteArray) (hw : okWord w = true) : Con Tryz.prog 68 [Sv w] true (Bv false) := by
  have hwz := (okWord_iff.1 hw).1
  refine fn_ok (fn := Tryz.f68) (nt := 6) Tryz.func68 rfl rfl rfl rfl (by simp [taggedL, tagged]) fun B hB => ?_
  refine aR [] [0] [] [Sv w] [] [] hB trivial ?_
  refine aR [(1, .call [(true, .any)] true (Bv (okWord w)))] [2] [] [Bv (!((okWord w)))] [] [Con Tryz.prog 61 [Sv w] true (Bv (okWord w)) ∧ True] hB ⟨⟨(IsWord_ok w (by omega)), trivial⟩, trivial⟩ ?_
  refine aw_ret ?_
  refine ae_ret hB (Bv (!((okWord w)))) (by kernel_rfl) (.inl (by first | rfl | (rw [hw]; rfl))) rfl (fun _ => trivial)


end Go.Proofs.YtecdjaknbiekkaaGreatDoor.Ax
