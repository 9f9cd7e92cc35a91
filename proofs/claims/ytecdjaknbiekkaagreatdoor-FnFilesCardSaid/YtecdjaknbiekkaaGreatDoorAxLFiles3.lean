/- Contracts that the statement FnFiles reaches, part 3. No conditions. -/
import Derived.Test.YtecdjaknbiekkaaGreatDoorAxLFiles2
import Derived.LaidMore
import Derived.Lay
import Derived.Lib.IndexBytes
import Derived.Lib.ItoaNum
import Derived.Lib.ParseIntBCases
import Derived.Lib.SplitLaws
import Derived.OpenShut
import Derived.SevenTiedAt
import Derived.Stop.Joined
import Derived.Test.YtecdjaknbiekkaaGreatDoorAxBd
import Derived.Test.YtecdjaknbiekkaaGreatDoorAxGr
import Derived.Test.YtecdjaknbiekkaaGreatDoorAxS
import Derived.Test.YtecdjaknbiekkaaGreatDoorAxY
namespace Go.Proofs.YtecdjaknbiekkaaGreatDoor.Ax
open Go.RowKit Go.ChangeShapes Go.WideShapes
set_option linter.unusedVariables false
set_option linter.unusedSimpArgs false
theorem l03Draw_ok (s : l00Src) (hs : okSrc s) (ha : s.atx ≤ 3999999999999996000) : ∃ (v : File) (s' : l00Src), (okSrc s') ∧ (s'.code = s.code) ∧ (s.atx + 0 ≤ s'.atx ∧ s'.atx ≤ s.atx + 400) ∧ (okFil v) ∧ CallOK Tryz.prog 40 [.ref 7001 0] (lookO [(7001, bxl00Src s)]) true (agFileT v) (lookO [(7001, bxl00Src s')]) := by
  have hh : ∃ r : File × l00Src, ((okSrc r.2) ∧ (r.2.code = s.code) ∧ (s.atx + 0 ≤ r.2.atx ∧ r.2.atx ≤ s.atx + 400) ∧ (okFil r.1) ∧ (True)) ∧ CallOK Tryz.prog 40 [.ref 7001 0] (lookO [(7001, bxl00Src s)]) true (agFileT r.1) (lookO [(7001, bxl00Src r.2)]) := by
    refine fn_okX (Φ := fun r : File × l00Src => (okSrc r.2) ∧ (r.2.code = s.code) ∧ (s.atx + 0 ≤ r.2.atx ∧ r.2.atx ≤ s.atx + 400) ∧ (okFil r.1) ∧ (True)) [(7001, bxl00Src s)] (fun r => [(7001, bxl00Src r.2)]) (fn := Tryz.f40) (nt := 140) Tryz.func40 rfl rfl (args := [.ref 7001 0]) rfl (allcons (.inr trivial) allnil) (res := fun r => agFileT r.1) ?_
    refine xR [(0, .new 2)] [0, 2] [2, 7001] [.ref 7001 0, .ref 2 0] [some (.box [nilA, nilA, nilA]), some (bxl00Src s)] [] trivial ?_
    refine x_seq ?_
    obtain ⟨v_1, s'_1, hx1_0, hx1_1, hx1_2, hx1_3, hc1⟩ := pick_ok s 9 (by first | assumption | (simp only [okSrc] at *; simp_all; done)) (by omega)
    obtain ⟨v_2, s'_2, hx2_0, hx2_1, hx2_2, hx2_3, hc2⟩ := pick_ok s'_1 300 (by first | assumption | (simp only [okSrc] at *; simp_all; done)) (by omega)
    refine x_r [(1, .lend [(7001, bxl00Src s, bxl00Src s'_1)] [] [(true, .any), (true, .any)] true (I v_1)), (4, .lend [(7001, bxl00Src s'_1, bxl00Src s'_2)] [] [(true, .any), (true, .any)] true (I v_2)), (8, .new 21), (10, .new 3)] [0, 2, 3] [2, 3, 21, 7001] [.ref 7001 0, .ref 2 0, .ref 3 0] [some (.box [nilA, nilA, nilA]), some (.box [.arr 21, nilA, nilA]), some (.arr 4 2 (litF [Sv (⟨#[120]⟩ : ByteArray), Sv (⟨#[109, 109]⟩ : ByteArray), I (v_1 - 4), I (100 + v_2), Sv (⟨#[121]⟩ : ByteArray), Sv (⟨#[109, 109]⟩ : ByteArray), I (-50), I 90] 4)), some (bxl00Src s'_2)] [CallOK Tryz.prog 49 [.ref 7001 0, I 9] (lookO [(7001, bxl00Src s)]) true (I v_1) (lookO [(7001, bxl00Src s'_1)]) ∧ (((bxl00Src s : Ob) = bxl00Src s ∨ obLe noOb true (bxl00Src s) (bxl00Src s)) ∧ taggedO false (bxl00Src s)) ∧ True, inR .i64 (v_1 - 4), CallOK Tryz.prog 49 [.ref 7001 0, I 300] (lookO [(7001, bxl00Src s'_1)]) true (I v_2) (lookO [(7001, bxl00Src s'_2)]) ∧ (((bxl00Src s'_1 : Ob) = bxl00Src s'_1 ∨ obLe noOb true (bxl00Src s'_1) (bxl00Src s'_1)) ∧ taggedO false (bxl00Src s'_1)) ∧ True, inR .i64 (100 + v_2)] ⟨⟨hc1, ⟨.inl rfl, (by simp [taggedO, taggedL, tagged, tagU8])⟩, trivial⟩, (inR_i64 (by omega) (by omega)), ⟨hc2, ⟨.inl rfl, (by simp [taggedO, taggedL, tagged, tagU8])⟩, trivial⟩, (inR_i64 (by omega) (by omega)), trivial⟩ ?_
    refine xe_then ?_
    refine x_seq ?_
    obtain ⟨v_3, s'_3, hx3_0, hx3_1, hx3_2, hx3_3, hx3_4, hc3⟩ := text_ok s'_2 ([(⟨#[109, 115]⟩ : ByteArray), (⟨#[109, 115]⟩ : ByteArray), (⟨#[99, 115]⟩ : ByteArray), (⟨#[115]⟩ : ByteArray), (⟨#[104, 111, 117, 114]⟩ : ByteArray)]) (by first | assumption | (simp only [okSrc] at *; simp_all; done)) (by omega) (by decide)
    have hun_v_3 : okName v_3 := unit_nm hx3_4
    refine x_r [(1, .new 24), (2, .lend [(7001, bxl00Src s'_2, bxl00Src s'_3)] [] [(true, .any), (false, slS false ([(⟨#[109, 115]⟩ : ByteArray), (⟨#[109, 115]⟩ : ByteArray), (⟨#[99, 115]⟩ : ByteArray), (⟨#[115]⟩ : ByteArray), (⟨#[104, 111, 117, 114]⟩ : ByteArray)]))] true (Sv v_3))] [0, 2, 3, 4] [2, 3, 21, 7001] [.ref 7001 0, .ref 2 0, .ref 3 0, Sv v_3] [some (.box [nilA, nilA, nilA]), some (.box [.arr 21, nilA, nilA]), some (.arr 4 2 (litF [Sv (⟨#[120]⟩ : ByteArray), Sv (⟨#[109, 109]⟩ : ByteArray), I (v_1 - 4), I (100 + v_2), Sv (⟨#[121]⟩ : ByteArray), Sv (⟨#[109, 109]⟩ : ByteArray), I (-50), I 90] 4)), some (bxl00Src s'_3)] [CallOK Tryz.prog 51 [.ref 7001 0, slS false ([(⟨#[109, 115]⟩ : ByteArray), (⟨#[109, 115]⟩ : ByteArray), (⟨#[99, 115]⟩ : ByteArray), (⟨#[115]⟩ : ByteArray), (⟨#[104, 111, 117, 114]⟩ : ByteArray)])] (lookO [(7001, bxl00Src s'_2)]) true (Sv v_3) (lookO [(7001, bxl00Src s'_3)]) ∧ ((false = true → true = true) ∧ 1 = 1 ∧ 5 = (([(⟨#[109, 115]⟩ : ByteArray), (⟨#[109, 115]⟩ : ByteArray), (⟨#[99, 115]⟩ : ByteArray), (⟨#[115]⟩ : ByteArray), (⟨#[104, 111, 117, 114]⟩ : ByteArray)]).length) ∧ ∀ i_, i_ < (([(⟨#[109, 115]⟩ : ByteArray), (⟨#[109, 115]⟩ : ByteArray), (⟨#[99, 115]⟩ : ByteArray), (⟨#[115]⟩ : ByteArray), (⟨#[104, 111, 117, 114]⟩ : ByteArray)]).length) → (litF [Sv (⟨#[109, 115]⟩ : ByteArray), Sv (⟨#[109, 115]⟩ : ByteArray), Sv (⟨#[99, 115]⟩ : ByteArray), Sv (⟨#[115]⟩ : ByteArray), Sv (⟨#[104, 111, 117, 114]⟩ : ByteArray)] 1) i_ = (fS ([(⟨#[109, 115]⟩ : ByteArray), (⟨#[109, 115]⟩ : ByteArray), (⟨#[99, 115]⟩ : ByteArray), (⟨#[115]⟩ : ByteArray), (⟨#[104, 111, 117, 114]⟩ : ByteArray)])) i_ ∨ (AV.idsL ((fS ([(⟨#[109, 115]⟩ : ByteArray), (⟨#[109, 115]⟩ : ByteArray), (⟨#[99, 115]⟩ : ByteArray), (⟨#[115]⟩ : ByteArray), (⟨#[104, 111, 117, 114]⟩ : ByteArray)])) i_) = [] ∧ leL (fun _ => none) false ((litF [Sv (⟨#[109, 115]⟩ : ByteArray), Sv (⟨#[109, 115]⟩ : ByteArray), Sv (⟨#[99, 115]⟩ : ByteArray), Sv (⟨#[115]⟩ : ByteArray), Sv (⟨#[104, 111, 117, 114]⟩ : ByteArray)] 1) i_) ((fS ([(⟨#[109, 115]⟩ : ByteArray), (⟨#[109, 115]⟩ : ByteArray), (⟨#[99, 115]⟩ : ByteArray), (⟨#[115]⟩ : ByteArray), (⟨#[104, 111, 117, 114]⟩ : ByteArray)])) i_))) ∧ (((bxl00Src s'_2 : Ob) = bxl00Src s'_2 ∨ obLe noOb true (bxl00Src s'_2) (bxl00Src s'_2)) ∧ taggedO false (bxl00Src s'_2)) ∧ True] ⟨⟨hc3, ⟨(fun h => by cases h), rfl, (by first | rfl | (simp; done) | (simp; omega) | omega), fun i_ hi_ => .inl (match i_, hi_ with | 0, _ => rfl | 1, _ => rfl | 2, _ => rfl | 3, _ => rfl | 4, _ => rfl | (i + 5), h => absurd h (by simp))⟩, ⟨.inl rfl, (by simp [taggedO, taggedL, tagged, tagU8])⟩, trivial⟩, trivial⟩ ?_
    refine xe_then ?_
    refine x_seq ?_
    refine x_weak [] (T := [(0, .ref 7001 0), (2, .ref 2 0), (3, .ref 3 0), (4, Sv v_3)]) (O := [(2, .box [nilA, nilA, nilA]), (3, .box [.arr 21, nilA, nilA]), (21, tAChannel ([(Channel.mk (⟨#[120]⟩ : ByteArray) (⟨#[109, 109]⟩ : ByteArray) (v_1 - 4) (100 + v_2)), (Channel.mk (⟨#[121]⟩ : ByteArray) (⟨#[109, 109]⟩ : ByteArray) (-50) 90)])), (7001, bxl00Src s'_3)]) rfl (⟨.inl rfl, .inl rfl, .inl rfl, .inl rfl, trivial⟩) (⟨.inl rfl, .inl rfl, .inr ⟨rfl, (by first | rfl | (simp; done) | (simp; omega) | omega), fun i_ hi_ => .inl (match i_, hi_ with | 0, _ => rfl | 1, _ => rfl | (i + 2), h => absurd h (by simp))⟩, .inl rfl, trivial⟩) ?_
    obtain ⟨v_4, s'_4, hx4_0, hx4_1, hx4_2, hx4_3, hc4⟩ := among_ok s'_3 ([900, 3600, 3600000]) (by first | assumption | (simp only [okSrc] at *; simp_all; done)) (by omega) (by simp)
    have ham_v_4 : 900 ≤ v_4 ∧ v_4 ≤ 3600000 := by have q := hx4_0; simp only [List.mem_cons, List.not_mem_nil, or_false] at q; omega
    refine x_r [(4, .new 30), (5, .lend [(7001, bxl00Src s'_3, bxl00Src s'_4)] [] [(true, .any), (false, slI false ([900, 3600, 3600000]))] true (I v_4)), (7, .new 33), (8, .new 34)] [0, 2, 3] [2, 3, 34, 7001] [.ref 7001 0, .ref 2 0, .ref 3 0] [some (.box [nilA, nilA, nilA]), some (.box [.arr 34, nilA, nilA]), some (.arr 4 ((([(Channel.mk (⟨#[120]⟩ : ByteArray) (⟨#[109, 109]⟩ : ByteArray) (v_1 - 4) (100 + v_2)), (Channel.mk (⟨#[121]⟩ : ByteArray) (⟨#[109, 109]⟩ : ByteArray) (-50) 90)]).length) + 1) (catF (([(Channel.mk (⟨#[120]⟩ : ByteArray) (⟨#[109, 109]⟩ : ByteArray) (v_1 - 4) (100 + v_2)), (Channel.mk (⟨#[121]⟩ : ByteArray) (⟨#[109, 109]⟩ : ByteArray) (-50) 90)]).length) (fChannel ([(Channel.mk (⟨#[120]⟩ : ByteArray) (⟨#[109, 109]⟩ : ByteArray) (v_1 - 4) (100 + v_2)), (Channel.mk (⟨#[121]⟩ : ByteArray) (⟨#[109, 109]⟩ : ByteArray) (-50) 90)])) (litF [Sv (⟨#[116]⟩ : ByteArray), Sv v_3, I 0, I v_4] 4))), some (bxl00Src s'_4)] [CallOK Tryz.prog 93 [.ref 7001 0, slI false ([900, 3600, 3600000])] (lookO [(7001, bxl00Src s'_3)]) true (I v_4) (lookO [(7001, bxl00Src s'_4)]) ∧ ((false = true → true = true) ∧ 1 = 1 ∧ 3 = (([900, 3600, 3600000]).length) ∧ ∀ i_, i_ < (([900, 3600, 3600000]).length) → (litF [I 900, I 3600, I 3600000] 1) i_ = (fI ([900, 3600, 3600000])) i_ ∨ (AV.idsL ((fI ([900, 3600, 3600000])) i_) = [] ∧ leL (fun _ => none) false ((litF [I 900, I 3600, I 3600000] 1) i_) ((fI ([900, 3600, 3600000])) i_))) ∧ (((bxl00Src s'_3 : Ob) = bxl00Src s'_3 ∨ obLe noOb true (bxl00Src s'_3) (bxl00Src s'_3)) ∧ taggedO false (bxl00Src s'_3)) ∧ True, ((([(Channel.mk (⟨#[120]⟩ : ByteArray) (⟨#[109, 109]⟩ : ByteArray) (v_1 - 4) (100 + v_2)), (Channel.mk (⟨#[121]⟩ : ByteArray) (⟨#[109, 109]⟩ : ByteArray) (-50) 90)]).length) + 1) * 48 ≤ 140737488355328] ⟨⟨hc4, ⟨(fun h => by cases h), rfl, (by first | rfl | (simp; done) | (simp; omega) | omega), fun i_ hi_ => .inl (match i_, hi_ with | 0, _ => rfl | 1, _ => rfl | 2, _ => rfl | (i + 3), h => absurd h (by simp))⟩, ⟨.inl rfl, (by simp [taggedO, taggedL, tagged, tagU8])⟩, trivial⟩, (by first | omega | (simp only [List.length_cons, List.length_nil, List.length_append]; omega)), trivial⟩ ?_
    refine xe_then ?_
    refine x_cut (X := (List Channel) × l00Src) (fun x => mkS [(0, .ref 7001 0), (2, .ref 2 0), (3, .ref 3 0)] [(2, .box [nilA, nilA, nilA]), (3, .box [.arr 34, nilA, nilA]), (34, tAChannel x.1), (7001, bxl00Src x.2)]) (fun x => (okSrc x.2 ∧ x.2.code = s.code ∧ s.atx ≤ x.2.atx ∧ x.2.atx ≤ s.atx + 20) ∧ (okCs x.1) ∧ True) ?_ (fun x hI => ?_)
    ·refine x_seq ?_
     obtain ⟨v_5, s'_5, hx5_0, hx5_1, hx5_2, hc5⟩ := one_ok s'_4 3 (by first | assumption | (simp only [okSrc] at *; simp_all; done)) (by omega)
     rcases Bool.eq_false_or_eq_true v_5 with h1 | h1
     ·subst h1
      refine x_r [(1, .lend [(7001, bxl00Src s'_4, bxl00Src s'_5)] [] [(true, .any), (true, .any)] true (Bv true))] [0, 2, 3, 37] [2, 3, 34, 7001] [.ref 7001 0, .ref 2 0, .ref 3 0, Bv true] [some (.box [nilA, nilA, nilA]), some (.box [.arr 34, nilA, nilA]), some (.arr 4 ((([(Channel.mk (⟨#[120]⟩ : ByteArray) (⟨#[109, 109]⟩ : ByteArray) (v_1 - 4) (100 + v_2)), (Channel.mk (⟨#[121]⟩ : ByteArray) (⟨#[109, 109]⟩ : ByteArray) (-50) 90)]).length) + 1) (catF (([(Channel.mk (⟨#[120]⟩ : ByteArray) (⟨#[109, 109]⟩ : ByteArray) (v_1 - 4) (100 + v_2)), (Channel.mk (⟨#[121]⟩ : ByteArray) (⟨#[109, 109]⟩ : ByteArray) (-50) 90)]).length) (fChannel ([(Channel.mk (⟨#[120]⟩ : ByteArray) (⟨#[109, 109]⟩ : ByteArray) (v_1 - 4) (100 + v_2)), (Channel.mk (⟨#[121]⟩ : ByteArray) (⟨#[109, 109]⟩ : ByteArray) (-50) 90)])) (litF [Sv (⟨#[116]⟩ : ByteArray), Sv v_3, I 0, I v_4] 4))), some (bxl00Src s'_5)] [CallOK Tryz.prog 28 [.ref 7001 0, I 3] (lookO [(7001, bxl00Src s'_4)]) true (Bv true) (lookO [(7001, bxl00Src s'_5)]) ∧ (((bxl00Src s'_4 : Ob) = bxl00Src s'_4 ∨ obLe noOb true (bxl00Src s'_4) (bxl00Src s'_4)) ∧ taggedO false (bxl00Src s'_4)) ∧ True] ⟨⟨hc5, ⟨.inl rfl, (by simp [taggedO, taggedL, tagged, tagU8])⟩, trivial⟩, trivial⟩ ?_
      refine xe_then ?_
      refine x_true rfl ?_
      refine x_weak [] (T := [(0, .ref 7001 0), (2, .ref 2 0), (3, .ref 3 0), (37, Bv true)]) (O := [(2, .box [nilA, nilA, nilA]), (3, .box [.arr 34, nilA, nilA]), (34, tAChannel ([(Channel.mk (⟨#[120]⟩ : ByteArray) (⟨#[109, 109]⟩ : ByteArray) (v_1 - 4) (100 + v_2)), (Channel.mk (⟨#[121]⟩ : ByteArray) (⟨#[109, 109]⟩ : ByteArray) (-50) 90)] ++ [(Channel.mk (⟨#[116]⟩ : ByteArray) v_3 0 v_4)])), (7001, bxl00Src s'_5)]) rfl (⟨.inl rfl, .inl rfl, .inl rfl, .inl rfl, trivial⟩) (⟨.inl rfl, .inl rfl, .inr ⟨rfl, (by first | rfl | (simp; done) | (simp; omega) | omega), fun i_ hi_ => .inl (cat_snoc (enc := cChannel) (xs := [(Channel.mk (⟨#[120]⟩ : ByteArray) (⟨#[109, 109]⟩ : ByteArray) (v_1 - 4) (100 + v_2)), (Channel.mk (⟨#[121]⟩ : ByteArray) (⟨#[109, 109]⟩ : ByteArray) (-50) 90)]) rfl i_ hi_)⟩, .inl rfl, trivial⟩) ?_
      refine x_r [(3, .new 41), (4, .new 42)] [0, 2, 3] [2, 3, 42, 7001] [.ref 7001 0, .ref 2 0, .ref 3 0] [some (.box [nilA, nilA, nilA]), some (.box [.arr 42, nilA, nilA]), some (.arr 4 ((([(Channel.mk (⟨#[120]⟩ : ByteArray) (⟨#[109, 109]⟩ : ByteArray) (v_1 - 4) (100 + v_2)), (Channel.mk (⟨#[121]⟩ : ByteArray) (⟨#[109, 109]⟩ : ByteArray) (-50) 90)] ++ [(Channel.mk (⟨#[116]⟩ : ByteArray) v_3 0 v_4)]).length) + 1) (catF (([(Channel.mk (⟨#[120]⟩ : ByteArray) (⟨#[109, 109]⟩ : ByteArray) (v_1 - 4) (100 + v_2)), (Channel.mk (⟨#[121]⟩ : ByteArray) (⟨#[109, 109]⟩ : ByteArray) (-50) 90)] ++ [(Channel.mk (⟨#[116]⟩ : ByteArray) v_3 0 v_4)]).length) (fChannel ([(Channel.mk (⟨#[120]⟩ : ByteArray) (⟨#[109, 109]⟩ : ByteArray) (v_1 - 4) (100 + v_2)), (Channel.mk (⟨#[121]⟩ : ByteArray) (⟨#[109, 109]⟩ : ByteArray) (-50) 90)] ++ [(Channel.mk (⟨#[116]⟩ : ByteArray) v_3 0 v_4)])) (litF [Sv (⟨#[112]⟩ : ByteArray), Sv (⟨#[111, 110, 101]⟩ : ByteArray), I 0, I 255] 4))), some (bxl00Src s'_5)] [((([(Channel.mk (⟨#[120]⟩ : ByteArray) (⟨#[109, 109]⟩ : ByteArray) (v_1 - 4) (100 + v_2)), (Channel.mk (⟨#[121]⟩ : ByteArray) (⟨#[109, 109]⟩ : ByteArray) (-50) 90)] ++ [(Channel.mk (⟨#[116]⟩ : ByteArray) v_3 0 v_4)]).length) + 1) * 48 ≤ 140737488355328] ⟨(by first | omega | (simp only [List.length_cons, List.length_nil, List.length_append]; omega)), trivial⟩ ?_
      refine xe_weak [(34, 42)] (T := [(0, .ref 7001 0), (2, .ref 2 0), (3, .ref 3 0)]) (O := [(2, .box [nilA, nilA, nilA]), (3, .box [.arr 34, nilA, nilA]), (34, tAChannel (([(Channel.mk (⟨#[120]⟩ : ByteArray) (⟨#[109, 109]⟩ : ByteArray) (v_1 - 4) (100 + v_2)), (Channel.mk (⟨#[121]⟩ : ByteArray) (⟨#[109, 109]⟩ : ByteArray) (-50) 90)] ++ [(Channel.mk (⟨#[116]⟩ : ByteArray) v_3 0 v_4)]) ++ [(Channel.mk (⟨#[112]⟩ : ByteArray) (⟨#[111, 110, 101]⟩ : ByteArray) 0 255)])), (7001, bxl00Src s'_5)]) rfl (⟨.inl rfl, .inl rfl, .inl rfl, trivial⟩) (⟨.inl rfl, .inl rfl, .inr ⟨rfl, (by first | rfl | (simp; done) | (simp; omega) | omega), fun i_ hi_ => .inl (cat_snoc (enc := cChannel) (xs := ([(Channel.mk (⟨#[120]⟩ : ByteArray) (⟨#[109, 109]⟩ : ByteArray) (v_1 - 4) (100 + v_2)), (Channel.mk (⟨#[121]⟩ : ByteArray) (⟨#[109, 109]⟩ : ByteArray) (-50) 90)] ++ [(Channel.mk (⟨#[116]⟩ : ByteArray) v_3 0 v_4)])) rfl i_ hi_)⟩, .inl rfl, trivial⟩) (xe_cut ((([(Channel.mk (⟨#[120]⟩ : ByteArray) (⟨#[109, 109]⟩ : ByteArray) (v_1 - 4) (100 + v_2)), (Channel.mk (⟨#[121]⟩ : ByteArray) (⟨#[109, 109]⟩ : ByteArray) (-50) 90)] ++ [(Channel.mk (⟨#[116]⟩ : ByteArray) v_3 0 v_4)]) ++ [(Channel.mk (⟨#[112]⟩ : ByteArray) (⟨#[111, 110, 101]⟩ : ByteArray) 0 255)]), s'_5) rfl (show (okSrc s'_5 ∧ s'_5.code = s.code ∧ s.atx ≤ s'_5.atx ∧ s'_5.atx ≤ s.atx + 20) ∧ (okCs (([(Channel.mk (⟨#[120]⟩ : ByteArray) (⟨#[109, 109]⟩ : ByteArray) (v_1 - 4) (100 + v_2)), (Channel.mk (⟨#[121]⟩ : ByteArray) (⟨#[109, 109]⟩ : ByteArray) (-50) 90)] ++ [(Channel.mk (⟨#[116]⟩ : ByteArray) v_3 0 v_4)]) ++ [(Channel.mk (⟨#[112]⟩ : ByteArray) (⟨#[111, 110, 101]⟩ : ByteArray) 0 255)])) ∧ True from ⟨(by first | exact ⟨hs0.1, hs0.2.1, by omega, by omega⟩ | (exact ⟨by assumption, by first | assumption | rfl | (simp only [*]; done), by omega, by omega⟩)), (by first | exact ⟨false, false, _, _, _, _, by omega, by omega, by assumption, by assumption, rfl⟩ | exact ⟨false, true, _, _, _, _, by omega, by omega, by assumption, by assumption, rfl⟩), trivial⟩))
     subst h1
     refine x_r [(1, .lend [(7001, bxl00Src s'_4, bxl00Src s'_5)] [] [(true, .any), (true, .any)] true (Bv false))] [0, 2, 3, 37] [2, 3, 34, 7001] [.ref 7001 0, .ref 2 0, .ref 3 0, Bv false] [some (.box [nilA, nilA, nilA]), some (.box [.arr 34, nilA, nilA]), some (.arr 4 ((([(Channel.mk (⟨#[120]⟩ : ByteArray) (⟨#[109, 109]⟩ : ByteArray) (v_1 - 4) (100 + v_2)), (Channel.mk (⟨#[121]⟩ : ByteArray) (⟨#[109, 109]⟩ : ByteArray) (-50) 90)]).length) + 1) (catF (([(Channel.mk (⟨#[120]⟩ : ByteArray) (⟨#[109, 109]⟩ : ByteArray) (v_1 - 4) (100 + v_2)), (Channel.mk (⟨#[121]⟩ : ByteArray) (⟨#[109, 109]⟩ : ByteArray) (-50) 90)]).length) (fChannel ([(Channel.mk (⟨#[120]⟩ : ByteArray) (⟨#[109, 109]⟩ : ByteArray) (v_1 - 4) (100 + v_2)), (Channel.mk (⟨#[121]⟩ : ByteArray) (⟨#[109, 109]⟩ : ByteArray) (-50) 90)])) (litF [Sv (⟨#[116]⟩ : ByteArray), Sv v_3, I 0, I v_4] 4))), some (bxl00Src s'_5)] [CallOK Tryz.prog 28 [.ref 7001 0, I 3] (lookO [(7001, bxl00Src s'_4)]) true (Bv false) (lookO [(7001, bxl00Src s'_5)]) ∧ (((bxl00Src s'_4 : Ob) = bxl00Src s'_4 ∨ obLe noOb true (bxl00Src s'_4) (bxl00Src s'_4)) ∧ taggedO false (bxl00Src s'_4)) ∧ True] ⟨⟨hc5, ⟨.inl rfl, (by simp [taggedO, taggedL, tagged, tagU8])⟩, trivial⟩, trivial⟩ ?_
     refine xe_then ?_
     refine x_false rfl ?_
     refine x_skip ?_
     refine xe_weak [] (T := [(0, .ref 7001 0), (2, .ref 2 0), (3, .ref 3 0)]) (O := [(2, .box [nilA, nilA, nilA]), (3, .box [.arr 34, nilA, nilA]), (34, tAChannel ([(Channel.mk (⟨#[120]⟩ : ByteArray) (⟨#[109, 109]⟩ : ByteArray) (v_1 - 4) (100 + v_2)), (Channel.mk (⟨#[121]⟩ : ByteArray) (⟨#[109, 109]⟩ : ByteArray) (-50) 90)] ++ [(Channel.mk (⟨#[116]⟩ : ByteArray) v_3 0 v_4)])), (7001, bxl00Src s'_5)]) rfl (⟨.inl rfl, .inl rfl, .inl rfl, trivial⟩) (⟨.inl rfl, .inl rfl, .inr ⟨rfl, (by first | rfl | (simp; done) | (simp; omega) | omega), fun i_ hi_ => .inl (cat_snoc (enc := cChannel) (xs := [(Channel.mk (⟨#[120]⟩ : ByteArray) (⟨#[109, 109]⟩ : ByteArray) (v_1 - 4) (100 + v_2)), (Channel.mk (⟨#[121]⟩ : ByteArray) (⟨#[109, 109]⟩ : ByteArray) (-50) 90)]) rfl i_ hi_)⟩, .inl rfl, trivial⟩) (xe_cut (([(Channel.mk (⟨#[120]⟩ : ByteArray) (⟨#[109, 109]⟩ : ByteArray) (v_1 - 4) (100 + v_2)), (Channel.mk (⟨#[121]⟩ : ByteArray) (⟨#[109, 109]⟩ : ByteArray) (-50) 90)] ++ [(Channel.mk (⟨#[116]⟩ : ByteArray) v_3 0 v_4)]), s'_5) rfl (show (okSrc s'_5 ∧ s'_5.code = s.code ∧ s.atx ≤ s'_5.atx ∧ s'_5.atx ≤ s.atx + 20) ∧ (okCs ([(Channel.mk (⟨#[120]⟩ : ByteArray) (⟨#[109, 109]⟩ : ByteArray) (v_1 - 4) (100 + v_2)), (Channel.mk (⟨#[121]⟩ : ByteArray) (⟨#[109, 109]⟩ : ByteArray) (-50) 90)] ++ [(Channel.mk (⟨#[116]⟩ : ByteArray) v_3 0 v_4)])) ∧ True from ⟨(by first | exact ⟨hs0.1, hs0.2.1, by omega, by omega⟩ | (exact ⟨by assumption, by first | assumption | rfl | (simp only [*]; done), by omega, by omega⟩)), (by first | exact ⟨false, false, _, _, _, _, by omega, by omega, by assumption, by assumption, rfl⟩ | exact ⟨false, true, _, _, _, _, by omega, by omega, by assumption, by assumption, rfl⟩), trivial⟩))
    obtain ⟨cs, src⟩ := x
    obtain ⟨hs0, hcs, _⟩ : (okSrc src ∧ src.code = s.code ∧ s.atx ≤ src.atx ∧ src.atx ≤ s.atx + 20) ∧ (okCs cs) ∧ True := hI
    show XW _ _ _ _ (mkS [(0, .ref 7001 0), (2, .ref 2 0), (3, .ref 3 0)] [(2, .box [nilA, nilA, nilA]), (3, .box [.arr 34, nilA, nilA]), (34, tAChannel cs), (7001, bxl00Src src)]) _ _
    refine x_cut (X := (List Channel) × l00Src) (fun x => mkS [(0, .ref 7001 0), (2, .ref 2 0), (3, .ref 3 0)] [(2, .box [nilA, nilA, nilA]), (3, .box [.arr 34, nilA, nilA]), (34, tAChannel x.1), (7001, bxl00Src x.2)]) (fun x => (okSrc x.2 ∧ x.2.code = s.code ∧ s.atx ≤ x.2.atx ∧ x.2.atx ≤ s.atx + 24) ∧ (okCs x.1) ∧ True) ?_ (fun x hI => ?_)
    ·refine x_seq ?_
     obtain ⟨v_6, s'_6, hx6_0, hx6_1, hx6_2, hc6⟩ := one_ok src 6 (by first | assumption | (simp only [okSrc] at *; simp_all; done)) (by omega)
     rcases Bool.eq_false_or_eq_true v_6 with h2 | h2
     ·subst h2
      refine x_r [(1, .lend [(7001, bxl00Src src, bxl00Src s'_6)] [] [(true, .any), (true, .any)] true (Bv true))] [0, 2, 3, 45] [2, 3, 34, 7001] [.ref 7001 0, .ref 2 0, .ref 3 0, Bv true] [some (.box [nilA, nilA, nilA]), some (.box [.arr 34, nilA, nilA]), some (tAChannel cs), some (bxl00Src s'_6)] [CallOK Tryz.prog 28 [.ref 7001 0, I 6] (lookO [(7001, bxl00Src src)]) true (Bv true) (lookO [(7001, bxl00Src s'_6)]) ∧ (((bxl00Src src : Ob) = bxl00Src src ∨ obLe noOb true (bxl00Src src) (bxl00Src src)) ∧ taggedO false (bxl00Src src)) ∧ True] ⟨⟨hc6, ⟨.inl rfl, (by simp [taggedO, taggedL, tagged, tagU8])⟩, trivial⟩, trivial⟩ ?_
      refine xe_then ?_
      refine x_true rfl ?_
      refine x_r [] [0, 2, 3] [2, 3, 34, 7001] [.ref 7001 0, .ref 2 0, .ref 3 0] [some (.box [nilA, nilA, nilA]), some (.box [.arr 34, nilA, nilA]), some (.arr 4 cs.length (fun q => bif Nat.beq q 0 then [Sv (⟨#[113]⟩ : ByteArray), Sv ((at_ cs 0).Unit), I ((at_ cs 0).Low), I ((at_ cs 0).High)] else (fChannel cs) q)), some (bxl00Src s'_6)] [(0 : Int) ≤ 0 ∧ 0 < (cs.length : Int), 0 < cs.length] ⟨⟨(by have q_ := okCs_len hcs; omega), (by have q_ := okCs_len hcs; omega)⟩, (by have q_ := okCs_len hcs; omega), trivial⟩ ?_
      refine xe_weak [] (T := [(0, .ref 7001 0), (2, .ref 2 0), (3, .ref 3 0)]) (O := [(2, .box [nilA, nilA, nilA]), (3, .box [.arr 34, nilA, nilA]), (34, tAChannel (cs.set 0 (Channel.mk (⟨#[113]⟩ : ByteArray) ((at_ cs 0).Unit) ((at_ cs 0).Low) ((at_ cs 0).High)))), (7001, bxl00Src s'_6)]) rfl (⟨.inl rfl, .inl rfl, .inl rfl, trivial⟩) (⟨.inl rfl, .inl rfl, .inr ⟨rfl, (by first | rfl | (simp; done) | (simp; omega) | omega), fun i_ hi_ => .inl (upd_enc (enc := cChannel) rfl i_ hi_)⟩, .inl rfl, trivial⟩) (xe_cut ((cs.set 0 (Channel.mk (⟨#[113]⟩ : ByteArray) ((at_ cs 0).Unit) ((at_ cs 0).Low) ((at_ cs 0).High))), s'_6) rfl (show (okSrc s'_6 ∧ s'_6.code = s.code ∧ s.atx ≤ s'_6.atx ∧ s'_6.atx ≤ s.atx + 24) ∧ (okCs (cs.set 0 (Channel.mk (⟨#[113]⟩ : ByteArray) ((at_ cs 0).Unit) ((at_ cs 0).Low) ((at_ cs 0).High)))) ∧ True from ⟨(by first | exact ⟨hs0.1, hs0.2.1, by omega, by omega⟩ | (exact ⟨by assumption, by first | assumption | rfl | (simp only [*]; done), by omega, by omega⟩)), (by first | exact hcs | exact (okCs_q hcs).2), trivial⟩))
     subst h2
     refine x_r [(1, .lend [(7001, bxl00Src src, bxl00Src s'_6)] [] [(true, .any), (true, .any)] true (Bv false))] [0, 2, 3, 45] [2, 3, 34, 7001] [.ref 7001 0, .ref 2 0, .ref 3 0, Bv false] [some (.box [nilA, nilA, nilA]), some (.box [.arr 34, nilA, nilA]), some (tAChannel cs), some (bxl00Src s'_6)] [CallOK Tryz.prog 28 [.ref 7001 0, I 6] (lookO [(7001, bxl00Src src)]) true (Bv false) (lookO [(7001, bxl00Src s'_6)]) ∧ (((bxl00Src src : Ob) = bxl00Src src ∨ obLe noOb true (bxl00Src src) (bxl00Src src)) ∧ taggedO false (bxl00Src src)) ∧ True] ⟨⟨hc6, ⟨.inl rfl, (by simp [taggedO, taggedL, tagged, tagU8])⟩, trivial⟩, trivial⟩ ?_
     refine xe_then ?_
     refine x_false rfl ?_
     refine x_skip ?_
     refine xe_weak [] (T := [(0, .ref 7001 0), (2, .ref 2 0), (3, .ref 3 0)]) (O := [(2, .box [nilA, nilA, nilA]), (3, .box [.arr 34, nilA, nilA]), (34, tAChannel cs), (7001, bxl00Src s'_6)]) rfl (⟨.inl rfl, .inl rfl, .inl rfl, trivial⟩) (⟨.inl rfl, .inl rfl, .inl rfl, .inl rfl, trivial⟩) (xe_cut (cs, s'_6) rfl (show (okSrc s'_6 ∧ s'_6.code = s.code ∧ s.atx ≤ s'_6.atx ∧ s'_6.atx ≤ s.atx + 24) ∧ (okCs cs) ∧ True from ⟨(by first | exact ⟨hs0.1, hs0.2.1, by omega, by omega⟩ | (exact ⟨by assumption, by first | assumption | rfl | (simp only [*]; done), by omega, by omega⟩)), (by first | exact hcs | exact (okCs_q hcs).2), trivial⟩))
    obtain ⟨cs', src'⟩ := x
    obtain ⟨hs0, hcs, _⟩ : (okSrc src' ∧ src'.code = s.code ∧ s.atx ≤ src'.atx ∧ src'.atx ≤ s.atx + 24) ∧ (okCs cs') ∧ True := hI
    show XW _ _ _ _ (mkS [(0, .ref 7001 0), (2, .ref 2 0), (3, .ref 3 0)] [(2, .box [nilA, nilA, nilA]), (3, .box [.arr 34, nilA, nilA]), (34, tAChannel cs'), (7001, bxl00Src src')]) _ _
    have hcl := okCs_len hcs
    refine x_seq ?_
    obtain ⟨v_7, s'_7, hx7_0, hx7_1, hx7_2, hx7_3, hc7⟩ := pick_ok src' 20 (by first | assumption | (simp only [okSrc] at *; simp_all; done)) (by omega)
    refine x_r [(1, .lend [(7001, bxl00Src src', bxl00Src s'_7)] [] [(true, .any), (true, .any)] true (I v_7))] [0, 2, 3, 5] [2, 3, 34, 7001] [.ref 7001 0, .ref 2 0, .ref 3 0, I v_7] [some (.box [nilA, nilA, nilA]), some (.box [.arr 34, nilA, nilA]), some (tAChannel cs'), some (bxl00Src s'_7)] [CallOK Tryz.prog 49 [.ref 7001 0, I 20] (lookO [(7001, bxl00Src src')]) true (I v_7) (lookO [(7001, bxl00Src s'_7)]) ∧ (((bxl00Src src' : Ob) = bxl00Src src' ∨ obLe noOb true (bxl00Src src') (bxl00Src src')) ∧ taggedO false (bxl00Src src')) ∧ True] ⟨⟨hc7, ⟨.inl rfl, (by simp [taggedO, taggedL, tagged, tagU8])⟩, trivial⟩, trivial⟩ ?_
    refine xe_then ?_
    refine x_seq ?_
    refine x_seq ?_
    obtain ⟨v_8, s'_8, hx8_0, hx8_1, hx8_2, hx8_3, hc8⟩ := pick_ok s'_7 4 (by first | assumption | (simp only [okSrc] at *; simp_all; done)) (by omega)
    refine x_r [(1, .lend [(7001, bxl00Src s'_7, bxl00Src s'_8)] [] [(true, .any), (true, .any)] true (I v_8))] [0, 2, 3, 5, 6] [2, 3, 34, 7001] [.ref 7001 0, .ref 2 0, .ref 3 0, I v_7, I v_8] [some (.box [nilA, nilA, nilA]), some (.box [.arr 34, nilA, nilA]), some (tAChannel cs'), some (bxl00Src s'_8)] [CallOK Tryz.prog 49 [.ref 7001 0, I 4] (lookO [(7001, bxl00Src s'_7)]) true (I v_8) (lookO [(7001, bxl00Src s'_8)]) ∧ (((bxl00Src s'_7 : Ob) = bxl00Src s'_7 ∨ obLe noOb true (bxl00Src s'_7) (bxl00Src s'_7)) ∧ taggedO false (bxl00Src s'_7)) ∧ True] ⟨⟨hc8, ⟨.inl rfl, (by simp [taggedO, taggedL, tagged, tagU8])⟩, trivial⟩, trivial⟩ ?_
    refine xe_then ?_
    refine x_block ?_
    refine x_nilC 3 1 731 1 (fun _ => []) rfl (by kernel_rfl) ?_
    refine x_weak [] (T := [(0, .ref 7001 0), (2, .ref 2 0), (3, .ref 3 0), (5, I v_7), (6, I v_8)]) (O := [(2, .box [nilA, nilA, nilA]), (3, .box [.arr 34, .arr 731, nilA]), (34, tAChannel cs'), (731, tARows true ([] : List Rows)), (7001, bxl00Src s'_8)]) rfl (⟨.inl rfl, .inl rfl, .inl rfl, .inl rfl, .inl rfl, trivial⟩) (⟨.inl rfl, .inl rfl, .inl rfl, .inr ⟨rfl, (by first | rfl | (simp; done) | (simp; omega) | omega), fun i_ hi_ => absurd hi_ (Nat.not_lt_zero _)⟩, .inl rfl, trivial⟩) ?_
    refine x_loop (X := Int × Int × (List Rows) × l00Src) (fun x => mkS [(0, .ref 7001 0), (2, .ref 2 0), (3, .ref 3 0), (5, I x.1), (6, I x.2.1)] [(2, .box [nilA, nilA, nilA]), (3, .box [.arr 34, .arr 731, nilA]), (34, tAChannel cs'), (731, tARows true x.2.2.1), (7001, bxl00Src x.2.2.2)]) (fun x => (okSrc x.2.2.2 ∧ x.2.2.2.code = s.code ∧ s.atx ≤ x.2.2.2.atx ∧ x.2.2.2.atx ≤ s.atx + 30 + 56 * (3 - x.2.1)) ∧ (0 ≤ x.2.1 ∧ x.2.1 ≤ 3) ∧ ((x.2.2.1.length : Int) + x.2.1 ≤ 3) ∧ (∀ r ∈ x.2.2.1, okRows cs' r) ∧ (0 ≤ x.1 ∧ x.1 ≤ 20 + 60 * (3 - x.2.1)) ∧ True) (fun x => x.2.1.toNat) (v_7, v_8, ([] : List Rows), s'_8) rfl (show (okSrc s'_8 ∧ s'_8.code = s.code ∧ s.atx ≤ s'_8.atx ∧ s'_8.atx ≤ s.atx + 30 + 56 * (3 - v_8)) ∧ (0 ≤ v_8 ∧ v_8 ≤ 3) ∧ ((([] : List Rows).length : Int) + v_8 ≤ 3) ∧ (∀ r ∈ ([] : List Rows), okRows cs' r) ∧ (0 ≤ v_7 ∧ v_7 ≤ 20 + 60 * (3 - v_8)) ∧ True from ⟨(by first | exact ⟨hs0.1, hs0.2.1, by omega, by omega⟩ | (exact ⟨by assumption, by first | assumption | rfl | (simp only [*]; done), by omega, by omega⟩)), (by omega), (by (simp; omega)), (by intro r hr; cases hr), (by omega), trivial⟩) (fun x hI => ?_)
    obtain ⟨time, k, ss, src1⟩ := x
    obtain ⟨hs0, hk0, hsl, hss, htm, _⟩ : (okSrc src1 ∧ src1.code = s.code ∧ s.atx ≤ src1.atx ∧ src1.atx ≤ s.atx + 30 + 56 * (3 - k)) ∧ (0 ≤ k ∧ k ≤ 3) ∧ ((ss.length : Int) + k ≤ 3) ∧ (∀ r ∈ ss, okRows cs' r) ∧ (0 ≤ time ∧ time ≤ 20 + 60 * (3 - k)) ∧ True := hI
    show XW _ _ _ _ (mkS [(0, .ref 7001 0), (2, .ref 2 0), (3, .ref 3 0), (5, I time), (6, I k)] [(2, .box [nilA, nilA, nilA]), (3, .box [.arr 34, .arr 731, nilA]), (34, tAChannel cs'), (731, tARows true ss), (7001, bxl00Src src1)]) _ _
    refine x_seq ?_
    refine x_seq ?_
    by_cases h3 : 0 < k
    ·refine x_r [(1, .dec true)] [0, 2, 3, 5, 6, 55] [2, 3, 34, 731, 7001] [.ref 7001 0, .ref 2 0, .ref 3 0, I time, I k, Bv true] [some (.box [nilA, nilA, nilA]), some (.box [.arr 34, .arr 731, nilA]), some (tAChannel cs'), some (tARows true ss), some (bxl00Src src1)] [0 < k] ⟨h3, trivial⟩ ?_
     refine xe_then ?_
     refine x_true rfl ?_
     refine x_skip ?_
     refine xe_then ?_
     refine x_seq ?_
     refine x_block ?_
     refine xR [(1, .new 7)] [0, 2, 3, 5, 6, 7] [2, 3, 7, 34, 731, 7001] [.ref 7001 0, .ref 2 0, .ref 3 0, I time, I k, .ref 7 0] [some (.box [nilA, nilA, nilA]), some (.box [.arr 34, .arr 731, nilA]), some (.box [nilA]), some (tAChannel cs'), some (tARows true ss), some (bxl00Src src1)] [] trivial ?_
     refine x_seq ?_
     refine x_seq ?_
     obtain ⟨v_9, s'_9, hx9_0, hx9_1, hx9_2, hx9_3, hc9⟩ := pick_ok src1 5 (by first | assumption | (simp only [okSrc] at *; simp_all; done)) (by omega)
     refine x_r [(1, .lend [(7001, bxl00Src src1, bxl00Src s'_9)] [] [(true, .any), (true, .any)] true (I v_9))] [0, 2, 3, 5, 6, 7, 8] [2, 3, 7, 34, 731, 7001] [.ref 7001 0, .ref 2 0, .ref 3 0, I time, I k, .ref 7 0, I (1 + v_9)] [some (.box [nilA, nilA, nilA]), some (.box [.arr 34, .arr 731, nilA]), some (.box [nilA]), some (tAChannel cs'), some (tARows true ss), some (bxl00Src s'_9)] [CallOK Tryz.prog 49 [.ref 7001 0, I 5] (lookO [(7001, bxl00Src src1)]) true (I v_9) (lookO [(7001, bxl00Src s'_9)]) ∧ (((bxl00Src src1 : Ob) = bxl00Src src1 ∨ obLe noOb true (bxl00Src src1) (bxl00Src src1)) ∧ taggedO false (bxl00Src src1)) ∧ True, inR .i64 (1 + v_9)] ⟨⟨hc9, ⟨.inl rfl, (by simp [taggedO, taggedL, tagged, tagU8])⟩, trivial⟩, (inR_i64 (by omega) (by omega)), trivial⟩ ?_
     refine xe_then ?_
     refine x_block ?_
     refine x_nilC 7 0 770 1 (fun _ => []) rfl (by kernel_rfl) ?_
     refine x_weak [] (T := [(0, .ref 7001 0), (2, .ref 2 0), (3, .ref 3 0), (5, I time), (6, I k), (7, .ref 7 0), (8, I (1 + v_9))]) (O := [(2, .box [nilA, nilA, nilA]), (3, .box [.arr 34, .arr 731, nilA]), (7, .box [.arr 770]), (34, tAChannel cs'), (731, tARows true ss), (770, .arr 1 (([] : List (List Int)).length) (fLI true ([] : List (List Int)))), (7001, bxl00Src s'_9)]) rfl (⟨.inl rfl, .inl rfl, .inl rfl, .inl rfl, .inl rfl, .inl rfl, .inl rfl, trivial⟩) (⟨.inl rfl, .inl rfl, .inl rfl, .inl rfl, .inl rfl, .inr ⟨rfl, (by first | rfl | (simp; done) | (simp; omega) | omega), fun i_ hi_ => absurd hi_ (Nat.not_lt_zero _)⟩, .inl rfl, trivial⟩) ?_
     refine x_loop (X := Int × Int × l00Src × (List (List Int))) (fun x => mkS [(0, .ref 7001 0), (2, .ref 2 0), (3, .ref 3 0), (5, I x.1), (6, I k), (7, .ref 7 0), (8, I x.2.1)] [(2, .box [nilA, nilA, nilA]), (3, .box [.arr 34, .arr 731, nilA]), (7, .box [.arr 770]), (34, tAChannel cs'), (731, tARows true ss), (770, .arr 1 x.2.2.2.length (fLI true x.2.2.2)), (7001, bxl00Src x.2.2.1)]) (fun x => (okSrc x.2.2.1 ∧ x.2.2.1.code = s.code ∧ s.atx ≤ x.2.2.1.atx ∧ x.2.2.1.atx ≤ s.atx + 30 + 56 * (3 - k) + 2 + 10 * (5 - x.2.1)) ∧ (0 ≤ x.2.1 ∧ x.2.1 ≤ 5) ∧ ((x.2.2.2.length : Int) + x.2.1 ≤ 5) ∧ (1 ≤ (x.2.2.2.length : Int) + x.2.1) ∧ (∀ w_ ∈ x.2.2.2, okRw cs' w_) ∧ (0 ≤ x.1 ∧ x.1 ≤ 20 + 60 * (3 - k) + 10 * (5 - x.2.1)) ∧ True) (fun x => x.2.1.toNat) (time, (1 + v_9), s'_9, ([] : List (List Int))) rfl (show (okSrc s'_9 ∧ s'_9.code = s.code ∧ s.atx ≤ s'_9.atx ∧ s'_9.atx ≤ s.atx + 30 + 56 * (3 - k) + 2 + 10 * (5 - (1 + v_9))) ∧ (0 ≤ (1 + v_9) ∧ (1 + v_9) ≤ 5) ∧ ((([] : List (List Int)).length : Int) + (1 + v_9) ≤ 5) ∧ (1 ≤ (([] : List (List Int)).length : Int) + (1 + v_9)) ∧ (∀ w_ ∈ ([] : List (List Int)), okRw cs' w_) ∧ (0 ≤ time ∧ time ≤ 20 + 60 * (3 - k) + 10 * (5 - (1 + v_9))) ∧ True from ⟨(by first | exact ⟨hs0.1, hs0.2.1, by omega, by omega⟩ | (exact ⟨by assumption, by first | assumption | rfl | (simp only [*]; done), by omega, by omega⟩)), (by omega), (by (simp; omega)), (by (simp; omega)), (by intro r hr; cases hr), (by omega), trivial⟩) (fun x hI => ?_)
     obtain ⟨time', i, src2, vs⟩ := x
     obtain ⟨hs0, hi0, hvl, hvp, hvs, htm2, _⟩ : (okSrc src2 ∧ src2.code = s.code ∧ s.atx ≤ src2.atx ∧ src2.atx ≤ s.atx + 30 + 56 * (3 - k) + 2 + 10 * (5 - i)) ∧ (0 ≤ i ∧ i ≤ 5) ∧ ((vs.length : Int) + i ≤ 5) ∧ (1 ≤ (vs.length : Int) + i) ∧ (∀ w_ ∈ vs, okRw cs' w_) ∧ (0 ≤ time' ∧ time' ≤ 20 + 60 * (3 - k) + 10 * (5 - i)) ∧ True := hI
     show XW _ _ _ _ (mkS [(0, .ref 7001 0), (2, .ref 2 0), (3, .ref 3 0), (5, I time'), (6, I k), (7, .ref 7 0), (8, I i)] [(2, .box [nilA, nilA, nilA]), (3, .box [.arr 34, .arr 731, nilA]), (7, .box [.arr 770]), (34, tAChannel cs'), (731, tARows true ss), (770, .arr 1 vs.length (fLI true vs)), (7001, bxl00Src src2)]) _ _
     refine x_seq ?_
     refine x_seq ?_
     by_cases h4 : 0 < i
     ·refine x_r [(1, .dec true)] [0, 2, 3, 5, 6, 7, 8, 63] [2, 3, 7, 34, 731, 770, 7001] [.ref 7001 0, .ref 2 0, .ref 3 0, I time', I k, .ref 7 0, I i, Bv true] [some (.box [nilA, nilA, nilA]), some (.box [.arr 34, .arr 731, nilA]), some (.box [.arr 770]), some (tAChannel cs'), some (tARows true ss), some (.arr 1 vs.length (fLI true vs)), some (bxl00Src src2)] [0 < i] ⟨h4, trivial⟩ ?_
      refine xe_then ?_
      refine x_true rfl ?_
      refine x_skip ?_
      refine xe_then ?_
      refine x_seq ?_
      refine x_block ?_
      refine x_seq ?_
      obtain ⟨v_10, s'_10, hx10_0, hx10_1, hx10_2, hx10_3, hc10⟩ := pick_ok src2 80 (by first | assumption | (simp only [okSrc] at *; simp_all; done)) (by omega)
      obtain ⟨v_11, s'_11, hx11_0, hx11_1, hx11_2, hx11_3, hc11⟩ := pick_ok s'_10 120 (by first | assumption | (simp only [okSrc] at *; simp_all; done)) (by omega)
      refine x_r [(1, .lend [(7001, bxl00Src src2, bxl00Src s'_10)] [] [(true, .any), (true, .any)] true (I v_10)), (4, .lend [(7001, bxl00Src s'_10, bxl00Src s'_11)] [] [(true, .any), (true, .any)] true (I v_11)), (7, .new 73)] [0, 2, 3, 5, 6, 7, 8, 9] [2, 3, 7, 34, 73, 731, 770, 7001] [.ref 7001 0, .ref 2 0, .ref 3 0, I time', I k, .ref 7 0, I i, .arr 73] [some (.box [nilA, nilA, nilA]), some (.box [.arr 34, .arr 731, nilA]), some (.box [.arr 770]), some (tAChannel cs'), some (.arr 1 3 (litF [I (5 + v_10), I (v_11 - 40), I time'] 1)), some (tARows true ss), some (.arr 1 vs.length (fLI true vs)), some (bxl00Src s'_11)] [CallOK Tryz.prog 49 [.ref 7001 0, I 80] (lookO [(7001, bxl00Src src2)]) true (I v_10) (lookO [(7001, bxl00Src s'_10)]) ∧ (((bxl00Src src2 : Ob) = bxl00Src src2 ∨ obLe noOb true (bxl00Src src2) (bxl00Src src2)) ∧ taggedO false (bxl00Src src2)) ∧ True, inR .i64 (5 + v_10), CallOK Tryz.prog 49 [.ref 7001 0, I 120] (lookO [(7001, bxl00Src s'_10)]) true (I v_11) (lookO [(7001, bxl00Src s'_11)]) ∧ (((bxl00Src s'_10 : Ob) = bxl00Src s'_10 ∨ obLe noOb true (bxl00Src s'_10) (bxl00Src s'_10)) ∧ taggedO false (bxl00Src s'_10)) ∧ True, inR .i64 (v_11 - 40)] ⟨⟨hc10, ⟨.inl rfl, (by simp [taggedO, taggedL, tagged, tagU8])⟩, trivial⟩, (inR_i64 (by omega) (by omega)), ⟨hc11, ⟨.inl rfl, (by simp [taggedO, taggedL, tagged, tagU8])⟩, trivial⟩, (inR_i64 (by omega) (by omega)), trivial⟩ ?_
      refine xe_then ?_
      refine x_cut (X := (List Int) × l00Src) (fun x => mkS [(0, .ref 7001 0), (2, .ref 2 0), (3, .ref 3 0), (5, I time'), (6, I k), (7, .ref 7 0), (8, I i), (9, .arr 73)] [(2, .box [nilA, nilA, nilA]), (3, .box [.arr 34, .arr 731, nilA]), (7, .box [.arr 770]), (34, tAChannel cs'), (73, tAI x.1), (731, tARows true ss), (770, .arr 1 vs.length (fLI true vs)), (7001, bxl00Src x.2)]) (fun x => (okSrc x.2 ∧ x.2.code = s.code ∧ s.atx ≤ x.2.atx ∧ x.2.atx ≤ s.atx + 30 + 56 * (3 - k) + 2 + 10 * (5 - i) + 6) ∧ (okRw cs' x.1) ∧ (x.1.length ≤ 4) ∧ True) ?_ (fun x hI => ?_)
      ·refine x_seq ?_
       by_cases h5 : 3 < (cs'.length : Int)
       ·refine x_r [(3, .dec true)] [0, 2, 3, 5, 6, 7, 8, 9, 77] [2, 3, 7, 34, 73, 731, 770, 7001] [.ref 7001 0, .ref 2 0, .ref 3 0, I time', I k, .ref 7 0, I i, .arr 73, Bv true] [some (.box [nilA, nilA, nilA]), some (.box [.arr 34, .arr 731, nilA]), some (.box [.arr 770]), some (tAChannel cs'), some (.arr 1 3 (litF [I (5 + v_10), I (v_11 - 40), I time'] 1)), some (tARows true ss), some (.arr 1 vs.length (fLI true vs)), some (bxl00Src s'_11)] [3 < (cs'.length : Int)] ⟨h5, trivial⟩ ?_
        refine xe_then ?_
        refine x_true rfl ?_
        refine x_weak [] (T := [(0, .ref 7001 0), (2, .ref 2 0), (3, .ref 3 0), (5, I time'), (6, I k), (7, .ref 7 0), (8, I i), (9, .arr 73), (77, Bv true)]) (O := [(2, .box [nilA, nilA, nilA]), (3, .box [.arr 34, .arr 731, nilA]), (7, .box [.arr 770]), (34, tAChannel cs'), (73, tAI ([(5 + v_10), (v_11 - 40), time'])), (731, tARows true ss), (770, .arr 1 vs.length (fLI true vs)), (7001, bxl00Src s'_11)]) rfl (⟨.inl rfl, .inl rfl, .inl rfl, .inl rfl, .inl rfl, .inl rfl, .inl rfl, .inl rfl, .inl rfl, trivial⟩) (⟨.inl rfl, .inl rfl, .inl rfl, .inl rfl, .inr ⟨rfl, (by first | rfl | (simp; done) | (simp; omega) | omega), fun i_ hi_ => .inl (match i_, hi_ with | 0, _ => rfl | 1, _ => rfl | 2, _ => rfl | (i + 3), h => absurd h (by simp))⟩, .inl rfl, .inl rfl, .inl rfl, trivial⟩) ?_
        obtain ⟨v_12, s'_12, hx12_0, hx12_1, hx12_2, hx12_3, hc12⟩ := pick_ok s'_11 256 (by first | assumption | (simp only [okSrc] at *; simp_all; done)) (by omega)
        refine x_r [(2, .lend [(7001, bxl00Src s'_11, bxl00Src s'_12)] [] [(true, .any), (true, .any)] true (I v_12)), (3, .new 81), (4, .new 82)] [0, 2, 3, 5, 6, 7, 8, 9] [2, 3, 7, 34, 82, 731, 770, 7001] [.ref 7001 0, .ref 2 0, .ref 3 0, I time', I k, .ref 7 0, I i, .arr 82] [some (.box [nilA, nilA, nilA]), some (.box [.arr 34, .arr 731, nilA]), some (.box [.arr 770]), some (tAChannel cs'), some (.arr 1 ((([(5 + v_10), (v_11 - 40), time']).length) + 1) (catF (([(5 + v_10), (v_11 - 40), time']).length) (fI ([(5 + v_10), (v_11 - 40), time'])) (litF [I v_12] 1))), some (tARows true ss), some (.arr 1 vs.length (fLI true vs)), some (bxl00Src s'_12)] [CallOK Tryz.prog 49 [.ref 7001 0, I 256] (lookO [(7001, bxl00Src s'_11)]) true (I v_12) (lookO [(7001, bxl00Src s'_12)]) ∧ (((bxl00Src s'_11 : Ob) = bxl00Src s'_11 ∨ obLe noOb true (bxl00Src s'_11) (bxl00Src s'_11)) ∧ taggedO false (bxl00Src s'_11)) ∧ True, ((([(5 + v_10), (v_11 - 40), time']).length) + 1) * 8 ≤ 140737488355328] ⟨⟨hc12, ⟨.inl rfl, (by simp [taggedO, taggedL, tagged, tagU8])⟩, trivial⟩, (by first | omega | (simp only [List.length_cons, List.length_nil, List.length_append]; omega)), trivial⟩ ?_
        refine xe_weak [(73, 82)] (T := [(0, .ref 7001 0), (2, .ref 2 0), (3, .ref 3 0), (5, I time'), (6, I k), (7, .ref 7 0), (8, I i), (9, .arr 73)]) (O := [(2, .box [nilA, nilA, nilA]), (3, .box [.arr 34, .arr 731, nilA]), (7, .box [.arr 770]), (34, tAChannel cs'), (73, tAI ([(5 + v_10), (v_11 - 40), time'] ++ [v_12])), (731, tARows true ss), (770, .arr 1 vs.length (fLI true vs)), (7001, bxl00Src s'_12)]) rfl (⟨.inl rfl, .inl rfl, .inl rfl, .inl rfl, .inl rfl, .inl rfl, .inl rfl, .inl rfl, trivial⟩) (⟨.inl rfl, .inl rfl, .inl rfl, .inl rfl, .inr ⟨rfl, (by first | rfl | (simp; done) | (simp; omega) | omega), fun i_ hi_ => .inl (cat_snoc (enc := cI) (xs := [(5 + v_10), (v_11 - 40), time']) rfl i_ hi_)⟩, .inl rfl, .inl rfl, .inl rfl, trivial⟩) (xe_cut (([(5 + v_10), (v_11 - 40), time'] ++ [v_12]), s'_12) rfl (show (okSrc s'_12 ∧ s'_12.code = s.code ∧ s.atx ≤ s'_12.atx ∧ s'_12.atx ≤ s.atx + 30 + 56 * (3 - k) + 2 + 10 * (5 - i) + 6) ∧ (okRw cs' ([(5 + v_10), (v_11 - 40), time'] ++ [v_12])) ∧ (([(5 + v_10), (v_11 - 40), time'] ++ [v_12]).length ≤ 4) ∧ True from ⟨(by first | exact ⟨hs0.1, hs0.2.1, by omega, by omega⟩ | (exact ⟨by assumption, by first | assumption | rfl | (simp only [*]; done), by omega, by omega⟩)), (by first | exact (okCs_row hcs (by omega) (by omega) (by omega)).1 (by omega) | exact (okCs_row hcs (by omega) (by omega) (by omega)).2 (by omega) _ (by omega)), (by first | decide | (simp; done) | (simp; omega)), trivial⟩))
       refine x_r [(3, .dec false)] [0, 2, 3, 5, 6, 7, 8, 9, 77] [2, 3, 7, 34, 73, 731, 770, 7001] [.ref 7001 0, .ref 2 0, .ref 3 0, I time', I k, .ref 7 0, I i, .arr 73, Bv false] [some (.box [nilA, nilA, nilA]), some (.box [.arr 34, .arr 731, nilA]), some (.box [.arr 770]), some (tAChannel cs'), some (.arr 1 3 (litF [I (5 + v_10), I (v_11 - 40), I time'] 1)), some (tARows true ss), some (.arr 1 vs.length (fLI true vs)), some (bxl00Src s'_11)] [¬ (3 < (cs'.length : Int))] ⟨h5, trivial⟩ ?_
       refine xe_then ?_
       refine x_false rfl ?_
       refine x_skip ?_
       refine xe_weak [] (T := [(0, .ref 7001 0), (2, .ref 2 0), (3, .ref 3 0), (5, I time'), (6, I k), (7, .ref 7 0), (8, I i), (9, .arr 73)]) (O := [(2, .box [nilA, nilA, nilA]), (3, .box [.arr 34, .arr 731, nilA]), (7, .box [.arr 770]), (34, tAChannel cs'), (73, tAI ([(5 + v_10), (v_11 - 40), time'])), (731, tARows true ss), (770, .arr 1 vs.length (fLI true vs)), (7001, bxl00Src s'_11)]) rfl (⟨.inl rfl, .inl rfl, .inl rfl, .inl rfl, .inl rfl, .inl rfl, .inl rfl, .inl rfl, trivial⟩) (⟨.inl rfl, .inl rfl, .inl rfl, .inl rfl, .inr ⟨rfl, (by first | rfl | (simp; done) | (simp; omega) | omega), fun i_ hi_ => .inl (match i_, hi_ with | 0, _ => rfl | 1, _ => rfl | 2, _ => rfl | (i + 3), h => absurd h (by simp))⟩, .inl rfl, .inl rfl, .inl rfl, trivial⟩) (xe_cut ([(5 + v_10), (v_11 - 40), time'], s'_11) rfl (show (okSrc s'_11 ∧ s'_11.code = s.code ∧ s.atx ≤ s'_11.atx ∧ s'_11.atx ≤ s.atx + 30 + 56 * (3 - k) + 2 + 10 * (5 - i) + 6) ∧ (okRw cs' ([(5 + v_10), (v_11 - 40), time'])) ∧ (([(5 + v_10), (v_11 - 40), time']).length ≤ 4) ∧ True from ⟨(by first | exact ⟨hs0.1, hs0.2.1, by omega, by omega⟩ | (exact ⟨by assumption, by first | assumption | rfl | (simp only [*]; done), by omega, by omega⟩)), (by first | exact (okCs_row hcs (by omega) (by omega) (by omega)).1 (by omega) | exact (okCs_row hcs (by omega) (by omega) (by omega)).2 (by omega) _ (by omega)), (by first | decide | (simp; done) | (simp; omega)), trivial⟩))
      obtain ⟨row, srcR⟩ := x
      obtain ⟨hs0, hrow, hj2, _⟩ : (okSrc srcR ∧ srcR.code = s.code ∧ s.atx ≤ srcR.atx ∧ srcR.atx ≤ s.atx + 30 + 56 * (3 - k) + 2 + 10 * (5 - i) + 6) ∧ (okRw cs' row) ∧ (row.length ≤ 4) ∧ True := hI
      show XW _ _ _ _ (mkS [(0, .ref 7001 0), (2, .ref 2 0), (3, .ref 3 0), (5, I time'), (6, I k), (7, .ref 7 0), (8, I i), (9, .arr 73)] [(2, .box [nilA, nilA, nilA]), (3, .box [.arr 34, .arr 731, nilA]), (7, .box [.arr 770]), (34, tAChannel cs'), (73, tAI row), (731, tARows true ss), (770, .arr 1 vs.length (fLI true vs)), (7001, bxl00Src srcR)]) _ _
      refine x_seq ?_
      refine x_weak [] (T := [(0, .ref 7001 0), (2, .ref 2 0), (3, .ref 3 0), (5, I time'), (6, I k), (7, .ref 7 0), (8, I i), (9, .arr 73)]) (O := [(2, .box [nilA, nilA, nilA]), (3, .box [.arr 34, .arr 731, nilA]), (7, .box [.arr 770]), (34, tAChannel cs'), (73, tAI row), (731, tARows true ss), (770, .oar [] 1 vs.length (fLI true vs)), (7001, bxl00Src srcR)]) rfl (⟨.inl rfl, .inl rfl, .inl rfl, .inl rfl, .inl rfl, .inl rfl, .inl rfl, .inl rfl, trivial⟩) (⟨.inl rfl, .inl rfl, .inl rfl, .inl rfl, .inl rfl, .inl rfl, .inr ⟨rfl, rfl, fun i hi => rfl⟩, .inl rfl, trivial⟩) ?_
      refine x_r [(3, .new 86), (4, .new 87)] [0, 2, 3, 5, 6, 7, 8] [2, 3, 7, 34, 73, 87, 731, 7001] [.ref 7001 0, .ref 2 0, .ref 3 0, I time', I k, .ref 7 0, I i] [some (.box [nilA, nilA, nilA]), some (.box [.arr 34, .arr 731, nilA]), some (.box [.arr 87]), some (tAChannel cs'), some (tAI row), some (.oar [73] 1 (vs.length + 1) (catF vs.length (fLI true vs) (litF [.arr 73] 1))), some (tARows true ss), some (bxl00Src srcR)] [(vs.length + 1) * 24 ≤ 140737488355328] ⟨(by first | omega | (simp only [List.length_cons, List.length_nil, List.length_append]; omega)), trivial⟩ ?_
      refine xe_then ?_
      refine x_seq ?_
      obtain ⟨v_13, s'_13, hx13_0, hx13_1, hx13_2, hx13_3, hc13⟩ := pick_ok srcR 9 (by first | assumption | (simp only [okSrc] at *; simp_all; done)) (by omega)
      refine x_r [(2, .lend [(7001, bxl00Src srcR, bxl00Src s'_13)] [] [(true, .any), (true, .any)] true (I v_13))] [0, 2, 3, 5, 6, 7, 8] [2, 3, 7, 34, 73, 87, 731, 7001] [.ref 7001 0, .ref 2 0, .ref 3 0, I (time' + (1 + v_13)), I k, .ref 7 0, I i] [some (.box [nilA, nilA, nilA]), some (.box [.arr 34, .arr 731, nilA]), some (.box [.arr 87]), some (tAChannel cs'), some (tAI row), some (.oar [73] 1 (vs.length + 1) (catF vs.length (fLI true vs) (litF [.arr 73] 1))), some (tARows true ss), some (bxl00Src s'_13)] [CallOK Tryz.prog 49 [.ref 7001 0, I 9] (lookO [(7001, bxl00Src srcR)]) true (I v_13) (lookO [(7001, bxl00Src s'_13)]) ∧ (((bxl00Src srcR : Ob) = bxl00Src srcR ∨ obLe noOb true (bxl00Src srcR) (bxl00Src srcR)) ∧ taggedO false (bxl00Src srcR)) ∧ True, inR .i64 (1 + v_13), inR .i64 (time' + (1 + v_13))] ⟨⟨hc13, ⟨.inl rfl, (by simp [taggedO, taggedL, tagged, tagU8])⟩, trivial⟩, (inR_i64 (by omega) (by omega)), (inR_i64 (by omega) (by omega)), trivial⟩ ?_
      refine xe_then ?_
      refine x_seq ?_
      obtain ⟨v_14, s'_14, hx14_0, hx14_1, hx14_2, hc14⟩ := one_ok s'_13 30 (by first | assumption | (simp only [okSrc] at *; simp_all; done)) (by omega)
      rcases Bool.eq_false_or_eq_true v_14 with h6 | h6
      ·subst h6
       refine x_r [(1, .lend [(7001, bxl00Src s'_13, bxl00Src s'_14)] [] [(true, .any), (true, .any)] true (Bv true))] [0, 2, 3, 5, 6, 7, 8, 95] [2, 3, 7, 34, 73, 87, 731, 7001] [.ref 7001 0, .ref 2 0, .ref 3 0, I (time' + (1 + v_13)), I k, .ref 7 0, I i, Bv true] [some (.box [nilA, nilA, nilA]), some (.box [.arr 34, .arr 731, nilA]), some (.box [.arr 87]), some (tAChannel cs'), some (tAI row), some (.oar [73] 1 (vs.length + 1) (catF vs.length (fLI true vs) (litF [.arr 73] 1))), some (tARows true ss), some (bxl00Src s'_14)] [CallOK Tryz.prog 28 [.ref 7001 0, I 30] (lookO [(7001, bxl00Src s'_13)]) true (Bv true) (lookO [(7001, bxl00Src s'_14)]) ∧ (((bxl00Src s'_13 : Ob) = bxl00Src s'_13 ∨ obLe noOb true (bxl00Src s'_13) (bxl00Src s'_13)) ∧ taggedO false (bxl00Src s'_13)) ∧ True] ⟨⟨hc14, ⟨.inl rfl, (by simp [taggedO, taggedL, tagged, tagU8])⟩, trivial⟩, trivial⟩ ?_
       refine xe_then ?_
       refine x_true rfl ?_
       refine x_r [(2, .call [(true, .any), (true, .any)] true (I (max 0 ((time' + (1 + v_13)) - 20))))] [0, 2, 3, 5, 6, 7, 8] [2, 3, 7, 34, 73, 87, 731, 7001] [.ref 7001 0, .ref 2 0, .ref 3 0, I (max 0 ((time' + (1 + v_13)) - 20)), I k, .ref 7 0, I i] [some (.box [nilA, nilA, nilA]), some (.box [.arr 34, .arr 731, nilA]), some (.box [.arr 87]), some (tAChannel cs'), some (tAI row), some (.oar [73] 1 (vs.length + 1) (catF vs.length (fLI true vs) (litF [.arr 73] 1))), some (tARows true ss), some (bxl00Src s'_14)] [inR .i64 ((time' + (1 + v_13)) - 20), Con Tryz.prog 94 [I 0, I ((time' + (1 + v_13)) - 20)] true (I (max 0 ((time' + (1 + v_13)) - 20))) ∧ True] ⟨(inR_i64 (by omega) (by omega)), ⟨(l00Max_ok 0 ((time' + (1 + v_13)) - 20)), trivial⟩, trivial⟩ ?_
       refine xe_block 3 ?_
       refine xe_then ?_
       refine x_r [] [0, 2, 3, 5, 6, 7, 8] [2, 3, 7, 34, 73, 87, 731, 7001] [.ref 7001 0, .ref 2 0, .ref 3 0, I (max 0 ((time' + (1 + v_13)) - 20)), I k, .ref 7 0, I (i - 1)] [some (.box [nilA, nilA, nilA]), some (.box [.arr 34, .arr 731, nilA]), some (.box [.arr 87]), some (tAChannel cs'), some (tAI row), some (.oar [73] 1 (vs.length + 1) (catF vs.length (fLI true vs) (litF [.arr 73] 1))), some (tARows true ss), some (bxl00Src s'_14)] [inR .i64 (i - 1)] ⟨(inR_i64 (by omega) (by omega)), trivial⟩ ?_
       refine xe_weak [(770, 87)] (T := [(0, .ref 7001 0), (2, .ref 2 0), (3, .ref 3 0), (5, I (max 0 ((time' + (1 + v_13)) - 20))), (6, I k), (7, .ref 7 0), (8, I (i - 1))]) (O := [(2, .box [nilA, nilA, nilA]), (3, .box [.arr 34, .arr 731, nilA]), (7, .box [.arr 770]), (34, tAChannel cs'), (731, tARows true ss), (770, .arr 1 ((vs ++ [row]).length) (fLI true (vs ++ [row]))), (7001, bxl00Src s'_14)]) rfl (⟨.inl rfl, .inl rfl, .inl rfl, .inl rfl, .inl rfl, .inl rfl, .inl rfl, trivial⟩) (⟨.inl rfl, .inl rfl, .inl rfl, .inl rfl, .inl rfl, .inr ⟨rfl, (by simp), oaddLI vs row ⟨⟨(fun _ => rfl), rfl, rfl, fun i _ => .inl rfl⟩, rfl⟩⟩, .inl rfl, trivial⟩) (xe_again ((max 0 ((time' + (1 + v_13)) - 20)), (i - 1), s'_14, (vs ++ [row])) rfl (show (okSrc s'_14 ∧ s'_14.code = s.code ∧ s.atx ≤ s'_14.atx ∧ s'_14.atx ≤ s.atx + 30 + 56 * (3 - k) + 2 + 10 * (5 - (i - 1))) ∧ (0 ≤ (i - 1) ∧ (i - 1) ≤ 5) ∧ (((vs ++ [row]).length : Int) + (i - 1) ≤ 5) ∧ (1 ≤ ((vs ++ [row]).length : Int) + (i - 1)) ∧ (∀ w_ ∈ (vs ++ [row]), okRw cs' w_) ∧ (0 ≤ (max 0 ((time' + (1 + v_13)) - 20)) ∧ (max 0 ((time' + (1 + v_13)) - 20)) ≤ 20 + 60 * (3 - k) + 10 * (5 - (i - 1))) ∧ True from ⟨(by first | exact ⟨hs0.1, hs0.2.1, by omega, by omega⟩ | (exact ⟨by assumption, by first | assumption | rfl | (simp only [*]; done), by omega, by omega⟩)), (by omega), (by (simp; omega)), (by (simp; omega)), (by intro r hr; rcases List.mem_append.1 hr with q | q; (exact hvs r q); (simp only [List.mem_singleton] at q; subst q; exact hrow)), (by first | omega | (simp only [Int.max_def] at *; omega)), trivial⟩) (by first | (show ((i - 1).toNat : Nat) < i.toNat; omega) | (dsimp only; omega)))
      subst h6
      refine x_r [(1, .lend [(7001, bxl00Src s'_13, bxl00Src s'_14)] [] [(true, .any), (true, .any)] true (Bv false))] [0, 2, 3, 5, 6, 7, 8, 95] [2, 3, 7, 34, 73, 87, 731, 7001] [.ref 7001 0, .ref 2 0, .ref 3 0, I (time' + (1 + v_13)), I k, .ref 7 0, I i, Bv false] [some (.box [nilA, nilA, nilA]), some (.box [.arr 34, .arr 731, nilA]), some (.box [.arr 87]), some (tAChannel cs'), some (tAI row), some (.oar [73] 1 (vs.length + 1) (catF vs.length (fLI true vs) (litF [.arr 73] 1))), some (tARows true ss), some (bxl00Src s'_14)] [CallOK Tryz.prog 28 [.ref 7001 0, I 30] (lookO [(7001, bxl00Src s'_13)]) true (Bv false) (lookO [(7001, bxl00Src s'_14)]) ∧ (((bxl00Src s'_13 : Ob) = bxl00Src s'_13 ∨ obLe noOb true (bxl00Src s'_13) (bxl00Src s'_13)) ∧ taggedO false (bxl00Src s'_13)) ∧ True] ⟨⟨hc14, ⟨.inl rfl, (by simp [taggedO, taggedL, tagged, tagU8])⟩, trivial⟩, trivial⟩ ?_
      refine xe_then ?_
      refine x_false rfl ?_
      refine x_skip ?_
      refine xe_block 3 ?_
      refine xe_then ?_
      refine x_r [] [0, 2, 3, 5, 6, 7, 8] [2, 3, 7, 34, 73, 87, 731, 7001] [.ref 7001 0, .ref 2 0, .ref 3 0, I (time' + (1 + v_13)), I k, .ref 7 0, I (i - 1)] [some (.box [nilA, nilA, nilA]), some (.box [.arr 34, .arr 731, nilA]), some (.box [.arr 87]), some (tAChannel cs'), some (tAI row), some (.oar [73] 1 (vs.length + 1) (catF vs.length (fLI true vs) (litF [.arr 73] 1))), some (tARows true ss), some (bxl00Src s'_14)] [inR .i64 (i - 1)] ⟨(inR_i64 (by omega) (by omega)), trivial⟩ ?_
      refine xe_weak [(770, 87)] (T := [(0, .ref 7001 0), (2, .ref 2 0), (3, .ref 3 0), (5, I (time' + (1 + v_13))), (6, I k), (7, .ref 7 0), (8, I (i - 1))]) (O := [(2, .box [nilA, nilA, nilA]), (3, .box [.arr 34, .arr 731, nilA]), (7, .box [.arr 770]), (34, tAChannel cs'), (731, tARows true ss), (770, .arr 1 ((vs ++ [row]).length) (fLI true (vs ++ [row]))), (7001, bxl00Src s'_14)]) rfl (⟨.inl rfl, .inl rfl, .inl rfl, .inl rfl, .inl rfl, .inl rfl, .inl rfl, trivial⟩) (⟨.inl rfl, .inl rfl, .inl rfl, .inl rfl, .inl rfl, .inr ⟨rfl, (by simp), oaddLI vs row ⟨⟨(fun _ => rfl), rfl, rfl, fun i _ => .inl rfl⟩, rfl⟩⟩, .inl rfl, trivial⟩) (xe_again ((time' + (1 + v_13)), (i - 1), s'_14, (vs ++ [row])) rfl (show (okSrc s'_14 ∧ s'_14.code = s.code ∧ s.atx ≤ s'_14.atx ∧ s'_14.atx ≤ s.atx + 30 + 56 * (3 - k) + 2 + 10 * (5 - (i - 1))) ∧ (0 ≤ (i - 1) ∧ (i - 1) ≤ 5) ∧ (((vs ++ [row]).length : Int) + (i - 1) ≤ 5) ∧ (1 ≤ ((vs ++ [row]).length : Int) + (i - 1)) ∧ (∀ w_ ∈ (vs ++ [row]), okRw cs' w_) ∧ (0 ≤ (time' + (1 + v_13)) ∧ (time' + (1 + v_13)) ≤ 20 + 60 * (3 - k) + 10 * (5 - (i - 1))) ∧ True from ⟨(by first | exact ⟨hs0.1, hs0.2.1, by omega, by omega⟩ | (exact ⟨by assumption, by first | assumption | rfl | (simp only [*]; done), by omega, by omega⟩)), (by omega), (by (simp; omega)), (by (simp; omega)), (by intro r hr; rcases List.mem_append.1 hr with q | q; (exact hvs r q); (simp only [List.mem_singleton] at q; subst q; exact hrow)), (by first | omega | (simp only [Int.max_def] at *; omega)), trivial⟩) (by first | (show ((i - 1).toNat : Nat) < i.toNat; omega) | (dsimp only; omega)))
     refine x_r [(1, .dec false)] [0, 2, 3, 5, 6, 7, 8, 63] [2, 3, 7, 34, 731, 770, 7001] [.ref 7001 0, .ref 2 0, .ref 3 0, I time', I k, .ref 7 0, I i, Bv false] [some (.box [nilA, nilA, nilA]), some (.box [.arr 34, .arr 731, nilA]), some (.box [.arr 770]), some (tAChannel cs'), some (tARows true ss), some (.arr 1 vs.length (fLI true vs)), some (bxl00Src src2)] [¬ (0 < i)] ⟨h4, trivial⟩ ?_
     refine xe_then ?_
     refine x_false rfl ?_
     refine x_exit ?_
     refine xe_exit_then ?_
     refine xe_loop_exit ?_
     refine xe_exit_same ?_
     refine xe_then ?_
     refine x_weak [] (T := [(0, .ref 7001 0), (2, .ref 2 0), (3, .ref 3 0), (5, I time'), (6, I k), (7, .ref 7 0), (8, I i), (63, Bv false)]) (O := [(2, .box [nilA, nilA, nilA]), (3, .box [.arr 34, .arr 731, nilA]), (7, .box [.arr 770]), (34, tAChannel cs'), (731, .oar [] 1 ss.length (fRows true ss)), (770, .arr 1 vs.length (fLI true vs)), (7001, bxl00Src src2)]) rfl (⟨.inl rfl, .inl rfl, .inl rfl, .inl rfl, .inl rfl, .inl rfl, .inl rfl, .inl rfl, trivial⟩) (⟨.inl rfl, .inl rfl, .inl rfl, .inl rfl, .inr ⟨rfl, rfl, fun i hi => rfl⟩, .inl rfl, .inl rfl, trivial⟩) ?_
     refine x_r [(3, .new 102), (4, .new 103)] [0, 2, 3, 5, 6] [2, 3, 34, 103, 770, 7001] [.ref 7001 0, .ref 2 0, .ref 3 0, I time', I k] [some (.box [nilA, nilA, nilA]), some (.box [.arr 34, .arr 103, nilA]), some (tAChannel cs'), some (.oar [770] 1 (ss.length + 1) (catF ss.length (fRows true ss) (litF [.arr 770] 1))), some (.arr 1 vs.length (fLI true vs)), some (bxl00Src src2)] [(ss.length + 1) * 24 ≤ 140737488355328] ⟨(by first | omega | (simp only [List.length_cons, List.length_nil, List.length_append]; omega)), trivial⟩ ?_
     refine xe_block 1 ?_
     refine xe_then ?_
     refine x_r [] [0, 2, 3, 5, 6] [2, 3, 34, 103, 770, 7001] [.ref 7001 0, .ref 2 0, .ref 3 0, I time', I (k - 1)] [some (.box [nilA, nilA, nilA]), some (.box [.arr 34, .arr 103, nilA]), some (tAChannel cs'), some (.oar [770] 1 (ss.length + 1) (catF ss.length (fRows true ss) (litF [.arr 770] 1))), some (.arr 1 vs.length (fLI true vs)), some (bxl00Src src2)] [inR .i64 (k - 1)] ⟨(inR_i64 (by omega) (by omega)), trivial⟩ ?_
     refine xe_weak [(731, 103)] (T := [(0, .ref 7001 0), (2, .ref 2 0), (3, .ref 3 0), (5, I time'), (6, I (k - 1))]) (O := [(2, .box [nilA, nilA, nilA]), (3, .box [.arr 34, .arr 731, nilA]), (34, tAChannel cs'), (731, tARows true (ss ++ [(Rows.mk vs)])), (7001, bxl00Src src2)]) rfl (⟨.inl rfl, .inl rfl, .inl rfl, .inl rfl, .inl rfl, trivial⟩) (⟨.inl rfl, .inl rfl, .inl rfl, .inr ⟨rfl, (by simp), oaddRows ss (Rows.mk vs) ⟨⟨(fun _ => rfl), rfl, rfl, fun i _ => .inl rfl⟩, rfl⟩⟩, .inl rfl, trivial⟩) (xe_again (time', (k - 1), (ss ++ [(Rows.mk vs)]), src2) rfl (show (okSrc src2 ∧ src2.code = s.code ∧ s.atx ≤ src2.atx ∧ src2.atx ≤ s.atx + 30 + 56 * (3 - (k - 1))) ∧ (0 ≤ (k - 1) ∧ (k - 1) ≤ 3) ∧ (((ss ++ [(Rows.mk vs)]).length : Int) + (k - 1) ≤ 3) ∧ (∀ r ∈ (ss ++ [(Rows.mk vs)]), okRows cs' r) ∧ (0 ≤ time' ∧ time' ≤ 20 + 60 * (3 - (k - 1))) ∧ True from ⟨(by first | exact ⟨hs0.1, hs0.2.1, by omega, by omega⟩ | (exact ⟨by assumption, by first | assumption | rfl | (simp only [*]; done), by omega, by omega⟩)), (by omega), (by (simp; omega)), (by intro r hr; rcases List.mem_append.1 hr with q | q; (exact hss r q); (simp only [List.mem_singleton] at q; subst q; exact ⟨⟨by dsimp only; omega, by dsimp only; omega⟩, hvs⟩)), (by omega), trivial⟩) (by first | (show ((k - 1).toNat : Nat) < k.toNat; omega) | (dsimp only; omega)))
    refine x_r [(1, .dec false)] [0, 2, 3, 5, 6, 55] [2, 3, 34, 731, 7001] [.ref 7001 0, .ref 2 0, .ref 3 0, I time, I k, Bv false] [some (.box [nilA, nilA, nilA]), some (.box [.arr 34, .arr 731, nilA]), some (tAChannel cs'), some (tARows true ss), some (bxl00Src src1)] [¬ (0 < k)] ⟨h3, trivial⟩ ?_
    refine xe_then ?_
    refine x_false rfl ?_
    refine x_exit ?_
    refine xe_exit_then ?_
    refine xe_loop_exit ?_
    refine xe_exit_same ?_
    refine xe_then ?_
    refine xR [] [0, 2, 3, 10] [2, 3, 34, 731, 7001] [.ref 7001 0, .ref 2 0, .ref 3 0, I (ss.length : Int)] [some (.box [nilA, nilA, nilA]), some (.box [.arr 34, .arr 731, nilA]), some (tAChannel cs'), some (tARows true ss), some (bxl00Src src1)] [] trivial ?_
    refine x_seq ?_
    refine x_seq ?_
    obtain ⟨v_15, s'_15, hx15_0, hx15_1, hx15_2, hx15_3, hc15⟩ := pick_ok src1 3 (by first | assumption | (simp only [okSrc] at *; simp_all; done)) (by omega)
    refine x_r [(1, .lend [(7001, bxl00Src src1, bxl00Src s'_15)] [] [(true, .any), (true, .any)] true (I v_15))] [0, 2, 3, 10, 11] [2, 3, 34, 731, 7001] [.ref 7001 0, .ref 2 0, .ref 3 0, I (ss.length : Int), I v_15] [some (.box [nilA, nilA, nilA]), some (.box [.arr 34, .arr 731, nilA]), some (tAChannel cs'), some (tARows true ss), some (bxl00Src s'_15)] [CallOK Tryz.prog 49 [.ref 7001 0, I 3] (lookO [(7001, bxl00Src src1)]) true (I v_15) (lookO [(7001, bxl00Src s'_15)]) ∧ (((bxl00Src src1 : Ob) = bxl00Src src1 ∨ obLe noOb true (bxl00Src src1) (bxl00Src src1)) ∧ taggedO false (bxl00Src src1)) ∧ True] ⟨⟨hc15, ⟨.inl rfl, (by simp [taggedO, taggedL, tagged, tagU8])⟩, trivial⟩, trivial⟩ ?_
    refine xe_then ?_
    refine x_block ?_
    refine x_nilC 3 2 732 3 (fun _ => []) rfl (by kernel_rfl) ?_
    refine x_weak [] (T := [(0, .ref 7001 0), (2, .ref 2 0), (3, .ref 3 0), (10, I (ss.length : Int)), (11, I v_15)]) (O := [(2, .box [nilA, nilA, nilA]), (3, .box [.arr 34, .arr 731, .arr 732]), (34, tAChannel cs'), (731, tARows true ss), (732, tANote ([] : List Note)), (7001, bxl00Src s'_15)]) rfl (⟨.inl rfl, .inl rfl, .inl rfl, .inl rfl, .inl rfl, trivial⟩) (⟨.inl rfl, .inl rfl, .inl rfl, .inl rfl, .inr ⟨rfl, (by first | rfl | (simp; done) | (simp; omega) | omega), fun i_ hi_ => absurd hi_ (Nat.not_lt_zero _)⟩, .inl rfl, trivial⟩) ?_
    refine x_loop (X := Int × (List Note) × l00Src) (fun x => mkS [(0, .ref 7001 0), (2, .ref 2 0), (3, .ref 3 0), (10, I (ss.length : Int)), (11, I x.1)] [(2, .box [nilA, nilA, nilA]), (3, .box [.arr 34, .arr 731, .arr 732]), (34, tAChannel cs'), (731, tARows true ss), (732, tANote x.2.1), (7001, bxl00Src x.2.2)]) (fun x => (okSrc x.2.2 ∧ x.2.2.code = s.code ∧ s.atx ≤ x.2.2.atx ∧ x.2.2.atx ≤ s.atx + 200 + 6 * (2 - x.1)) ∧ (0 ≤ x.1 ∧ x.1 ≤ 2) ∧ ((x.2.1.length : Int) + x.1 ≤ 2) ∧ (∀ n ∈ x.2.1, okNote ss.length n) ∧ True) (fun x => x.1.toNat) (v_15, ([] : List Note), s'_15) rfl (show (okSrc s'_15 ∧ s'_15.code = s.code ∧ s.atx ≤ s'_15.atx ∧ s'_15.atx ≤ s.atx + 200 + 6 * (2 - v_15)) ∧ (0 ≤ v_15 ∧ v_15 ≤ 2) ∧ ((([] : List Note).length : Int) + v_15 ≤ 2) ∧ (∀ n ∈ ([] : List Note), okNote ss.length n) ∧ True from ⟨(by first | exact ⟨hs0.1, hs0.2.1, by omega, by omega⟩ | (exact ⟨by assumption, by first | assumption | rfl | (simp only [*]; done), by omega, by omega⟩)), (by omega), (by (simp; omega)), (by intro n hn; cases hn), trivial⟩) (fun x hI => ?_)
    obtain ⟨kn, ns, src3⟩ := x
    obtain ⟨hs0, hkn, hnl, hns, _⟩ : (okSrc src3 ∧ src3.code = s.code ∧ s.atx ≤ src3.atx ∧ src3.atx ≤ s.atx + 200 + 6 * (2 - kn)) ∧ (0 ≤ kn ∧ kn ≤ 2) ∧ ((ns.length : Int) + kn ≤ 2) ∧ (∀ n ∈ ns, okNote ss.length n) ∧ True := hI
    show XW _ _ _ _ (mkS [(0, .ref 7001 0), (2, .ref 2 0), (3, .ref 3 0), (10, I (ss.length : Int)), (11, I kn)] [(2, .box [nilA, nilA, nilA]), (3, .box [.arr 34, .arr 731, .arr 732]), (34, tAChannel cs'), (731, tARows true ss), (732, tANote ns), (7001, bxl00Src src3)]) _ _
    refine x_seq ?_
    refine x_seq ?_
    by_cases h7 : 0 < kn
    ·by_cases h8 : 0 < (ss.length : Int)
     ·refine x_r [(1, .dec true), (4, .dec true)] [0, 2, 3, 10, 11, 115] [2, 3, 34, 731, 732, 7001] [.ref 7001 0, .ref 2 0, .ref 3 0, I (ss.length : Int), I kn, Bv true] [some (.box [nilA, nilA, nilA]), some (.box [.arr 34, .arr 731, .arr 732]), some (tAChannel cs'), some (tARows true ss), some (tANote ns), some (bxl00Src src3)] [0 < kn, 0 < (ss.length : Int)] ⟨h7, h8, trivial⟩ ?_
      refine xe_then ?_
      refine x_true rfl ?_
      refine x_skip ?_
      refine xe_then ?_
      refine x_seq ?_
      refine x_block ?_
      refine x_seq ?_
      obtain ⟨v_16, s'_16, hx16_0, hx16_1, hx16_2, hx16_3, hc16⟩ := pick_ok src3 (ss.length : Int) (by first | assumption | (simp only [okSrc] at *; simp_all; done)) (by omega)
      refine x_r [(2, .lend [(7001, bxl00Src src3, bxl00Src s'_16)] [] [(true, .any), (true, .any)] true (I v_16))] [0, 2, 3, 10, 11, 12] [2, 3, 34, 731, 732, 7001] [.ref 7001 0, .ref 2 0, .ref 3 0, I (ss.length : Int), I kn, I v_16] [some (.box [nilA, nilA, nilA]), some (.box [.arr 34, .arr 731, .arr 732]), some (tAChannel cs'), some (tARows true ss), some (tANote ns), some (bxl00Src s'_16)] [CallOK Tryz.prog 49 [.ref 7001 0, I (ss.length : Int)] (lookO [(7001, bxl00Src src3)]) true (I v_16) (lookO [(7001, bxl00Src s'_16)]) ∧ (((bxl00Src src3 : Ob) = bxl00Src src3 ∨ obLe noOb true (bxl00Src src3) (bxl00Src src3)) ∧ taggedO false (bxl00Src src3)) ∧ True] ⟨⟨hc16, ⟨.inl rfl, (by simp [taggedO, taggedL, tagged, tagU8])⟩, trivial⟩, trivial⟩ ?_
      refine xe_then ?_
      obtain ⟨v_17, s'_17, hx17_0, hx17_1, hx17_2, hx17_3, hc17⟩ := pick_ok s'_16 ((ss.length : Int) - v_16) (by first | assumption | (simp only [okSrc] at *; simp_all; done)) (by omega)
      obtain ⟨v_18, s'_18, hx18_0, hx18_1, hx18_2, hx18_3, hx18_4, hc18⟩ := text_ok s'_17 ([(⟨#[119, 111, 114, 100]⟩ : ByteArray), (⟨#[97]⟩ : ByteArray), (⟨#[120, 45, 50]⟩ : ByteArray)]) (by first | assumption | (simp only [okSrc] at *; simp_all; done)) (by omega) (by decide)
      have hun_v_18 : okName v_18 := text_nm hx18_4
      refine x_r [(9, .lend [(7001, bxl00Src s'_16, bxl00Src s'_17)] [] [(true, .any), (true, .any)] true (I v_17)), (12, .new 133), (13, .lend [(7001, bxl00Src s'_17, bxl00Src s'_18)] [] [(true, .any), (false, slS false ([(⟨#[119, 111, 114, 100]⟩ : ByteArray), (⟨#[97]⟩ : ByteArray), (⟨#[120, 45, 50]⟩ : ByteArray)]))] true (Sv v_18)), (15, .new 136), (16, .new 137)] [0, 2, 3, 10, 11] [2, 3, 34, 137, 731, 7001] [.ref 7001 0, .ref 2 0, .ref 3 0, I (ss.length : Int), I kn] [some (.box [nilA, nilA, nilA]), some (.box [.arr 34, .arr 731, .arr 137]), some (tAChannel cs'), some (.arr 3 (ns.length + 1) (catF ns.length (fNote ns) (litF [I v_16, I ((v_16 + 1) + v_17), Sv v_18] 3))), some (tARows true ss), some (bxl00Src s'_18)] [inR .i64 (v_16 + 1), inR .i64 ((ss.length : Int) - v_16), CallOK Tryz.prog 49 [.ref 7001 0, I ((ss.length : Int) - v_16)] (lookO [(7001, bxl00Src s'_16)]) true (I v_17) (lookO [(7001, bxl00Src s'_17)]) ∧ (((bxl00Src s'_16 : Ob) = bxl00Src s'_16 ∨ obLe noOb true (bxl00Src s'_16) (bxl00Src s'_16)) ∧ taggedO false (bxl00Src s'_16)) ∧ True, inR .i64 ((v_16 + 1) + v_17), CallOK Tryz.prog 51 [.ref 7001 0, slS false ([(⟨#[119, 111, 114, 100]⟩ : ByteArray), (⟨#[97]⟩ : ByteArray), (⟨#[120, 45, 50]⟩ : ByteArray)])] (lookO [(7001, bxl00Src s'_17)]) true (Sv v_18) (lookO [(7001, bxl00Src s'_18)]) ∧ ((false = true → true = true) ∧ 1 = 1 ∧ 3 = (([(⟨#[119, 111, 114, 100]⟩ : ByteArray), (⟨#[97]⟩ : ByteArray), (⟨#[120, 45, 50]⟩ : ByteArray)]).length) ∧ ∀ i_, i_ < (([(⟨#[119, 111, 114, 100]⟩ : ByteArray), (⟨#[97]⟩ : ByteArray), (⟨#[120, 45, 50]⟩ : ByteArray)]).length) → (litF [Sv (⟨#[119, 111, 114, 100]⟩ : ByteArray), Sv (⟨#[97]⟩ : ByteArray), Sv (⟨#[120, 45, 50]⟩ : ByteArray)] 1) i_ = (fS ([(⟨#[119, 111, 114, 100]⟩ : ByteArray), (⟨#[97]⟩ : ByteArray), (⟨#[120, 45, 50]⟩ : ByteArray)])) i_ ∨ (AV.idsL ((fS ([(⟨#[119, 111, 114, 100]⟩ : ByteArray), (⟨#[97]⟩ : ByteArray), (⟨#[120, 45, 50]⟩ : ByteArray)])) i_) = [] ∧ leL (fun _ => none) false ((litF [Sv (⟨#[119, 111, 114, 100]⟩ : ByteArray), Sv (⟨#[97]⟩ : ByteArray), Sv (⟨#[120, 45, 50]⟩ : ByteArray)] 1) i_) ((fS ([(⟨#[119, 111, 114, 100]⟩ : ByteArray), (⟨#[97]⟩ : ByteArray), (⟨#[120, 45, 50]⟩ : ByteArray)])) i_))) ∧ (((bxl00Src s'_17 : Ob) = bxl00Src s'_17 ∨ obLe noOb true (bxl00Src s'_17) (bxl00Src s'_17)) ∧ taggedO false (bxl00Src s'_17)) ∧ True, (ns.length + 1) * 32 ≤ 140737488355328] ⟨(inR_i64 (by omega) (by omega)), (inR_i64 (by omega) (by omega)), ⟨hc17, ⟨.inl rfl, (by simp [taggedO, taggedL, tagged, tagU8])⟩, trivial⟩, (inR_i64 (by omega) (by omega)), ⟨hc18, ⟨(fun h => by cases h), rfl, (by first | rfl | (simp; done) | (simp; omega) | omega), fun i_ hi_ => .inl (match i_, hi_ with | 0, _ => rfl | 1, _ => rfl | 2, _ => rfl | (i + 3), h => absurd h (by simp))⟩, ⟨.inl rfl, (by simp [taggedO, taggedL, tagged, tagU8])⟩, trivial⟩, (by first | omega | (simp only [List.length_cons, List.length_nil, List.length_append]; omega)), trivial⟩ ?_
      refine xe_block 5 ?_
      refine xe_then ?_
      refine x_r [] [0, 2, 3, 10, 11] [2, 3, 34, 137, 731, 7001] [.ref 7001 0, .ref 2 0, .ref 3 0, I (ss.length : Int), I (kn - 1)] [some (.box [nilA, nilA, nilA]), some (.box [.arr 34, .arr 731, .arr 137]), some (tAChannel cs'), some (.arr 3 (ns.length + 1) (catF ns.length (fNote ns) (litF [I v_16, I ((v_16 + 1) + v_17), Sv v_18] 3))), some (tARows true ss), some (bxl00Src s'_18)] [inR .i64 (kn - 1)] ⟨(inR_i64 (by omega) (by omega)), trivial⟩ ?_
      refine xe_weak [(732, 137)] (T := [(0, .ref 7001 0), (2, .ref 2 0), (3, .ref 3 0), (10, I (ss.length : Int)), (11, I (kn - 1))]) (O := [(2, .box [nilA, nilA, nilA]), (3, .box [.arr 34, .arr 731, .arr 732]), (34, tAChannel cs'), (731, tARows true ss), (732, tANote (ns ++ [(Note.mk v_16 ((v_16 + 1) + v_17) v_18)])), (7001, bxl00Src s'_18)]) rfl (⟨.inl rfl, .inl rfl, .inl rfl, .inl rfl, .inl rfl, trivial⟩) (⟨.inl rfl, .inl rfl, .inl rfl, .inl rfl, .inr ⟨rfl, (by first | rfl | (simp; done) | (simp; omega) | omega), fun i_ hi_ => .inl (cat_snoc (enc := cNote) (xs := ns) rfl i_ hi_)⟩, .inl rfl, trivial⟩) (xe_again ((kn - 1), (ns ++ [(Note.mk v_16 ((v_16 + 1) + v_17) v_18)]), s'_18) rfl (show (okSrc s'_18 ∧ s'_18.code = s.code ∧ s.atx ≤ s'_18.atx ∧ s'_18.atx ≤ s.atx + 200 + 6 * (2 - (kn - 1))) ∧ (0 ≤ (kn - 1) ∧ (kn - 1) ≤ 2) ∧ (((ns ++ [(Note.mk v_16 ((v_16 + 1) + v_17) v_18)]).length : Int) + (kn - 1) ≤ 2) ∧ (∀ n ∈ (ns ++ [(Note.mk v_16 ((v_16 + 1) + v_17) v_18)]), okNote ss.length n) ∧ True from ⟨(by first | exact ⟨hs0.1, hs0.2.1, by omega, by omega⟩ | (exact ⟨by assumption, by first | assumption | rfl | (simp only [*]; done), by omega, by omega⟩)), (by omega), (by (simp; omega)), (by intro n hn; rcases List.mem_append.1 hn with q | q; (exact hns n q); (simp only [List.mem_singleton] at q; subst q; exact ⟨⟨by dsimp only; omega, by dsimp only; omega, by dsimp only; omega⟩, by assumption⟩)), trivial⟩) (by first | (show ((kn - 1).toNat : Nat) < kn.toNat; omega) | (dsimp only; omega)))
     refine x_r [(1, .dec true), (4, .dec false)] [0, 2, 3, 10, 11, 115] [2, 3, 34, 731, 732, 7001] [.ref 7001 0, .ref 2 0, .ref 3 0, I (ss.length : Int), I kn, Bv false] [some (.box [nilA, nilA, nilA]), some (.box [.arr 34, .arr 731, .arr 732]), some (tAChannel cs'), some (tARows true ss), some (tANote ns), some (bxl00Src src3)] [0 < kn, ¬ (0 < (ss.length : Int))] ⟨h7, h8, trivial⟩ ?_
     refine xe_then ?_
     refine x_false rfl ?_
     refine x_exit ?_
     refine xe_exit_then ?_
     refine xe_loop_exit ?_
     refine xe_exit_same ?_
     refine xe_then ?_
     refine xR [] [2] [2, 34, 731, 732, 7001] [.ref 2 0] [some (.box [.arr 34, .arr 731, .arr 732]), some (tAChannel cs'), some (tARows true ss), some (tANote ns), some (bxl00Src src3)] [] trivial ?_
     refine x_ret ?_
     refine xe_end ((File.mk cs' ss ns), src3) (show (okSrc src3) ∧ (src3.code = s.code) ∧ (s.atx + 0 ≤ src3.atx ∧ src3.atx ≤ s.atx + 400) ∧ (okFil (File.mk cs' ss ns)) ∧ (True) from ⟨(by first | omega | exact hs0.1 | exact hs0.2.1 | exact okFil_of hcs (by omega) (by omega) hss hns), (by first | omega | exact hs0.1 | exact hs0.2.1 | exact okFil_of hcs (by omega) (by omega) hss hns), (by first | omega | exact hs0.1 | exact hs0.2.1 | exact okFil_of hcs (by omega) (by omega) hss hns), (by first | omega | exact hs0.1 | exact hs0.2.1 | exact okFil_of hcs (by omega) (by omega) hss hns), trivial⟩) (⟨.inl rfl, trivial⟩) (.agg [.arr 34, .arr 731, .arr 732]) (by kernel_rfl) (.inr ⟨⟨(fun _ => rfl), rfl, rfl, fun i _ => .inl rfl⟩, ⟨⟨(fun _ => rfl), rfl, rfl, fun i _ => .inl rfl⟩, ⟨⟨(fun _ => rfl), rfl, rfl, fun i _ => .inl rfl⟩, rfl⟩⟩⟩) (fun _ => rfl) (fun _ => (by simp [tagged, taggedL, tagChannel, tagNote, tagRows]))
    refine x_r [(1, .dec false)] [0, 2, 3, 10, 11, 115] [2, 3, 34, 731, 732, 7001] [.ref 7001 0, .ref 2 0, .ref 3 0, I (ss.length : Int), I kn, Bv false] [some (.box [nilA, nilA, nilA]), some (.box [.arr 34, .arr 731, .arr 732]), some (tAChannel cs'), some (tARows true ss), some (tANote ns), some (bxl00Src src3)] [¬ (0 < kn)] ⟨h7, trivial⟩ ?_
    refine xe_then ?_
    refine x_false rfl ?_
    refine x_exit ?_
    refine xe_exit_then ?_
    refine xe_loop_exit ?_
    refine xe_exit_same ?_
    refine xe_then ?_
    refine xR [] [2] [2, 34, 731, 732, 7001] [.ref 2 0] [some (.box [.arr 34, .arr 731, .arr 732]), some (tAChannel cs'), some (tARows true ss), some (tANote ns), some (bxl00Src src3)] [] trivial ?_
    refine x_ret ?_
    refine xe_end ((File.mk cs' ss ns), src3) (show (okSrc src3) ∧ (src3.code = s.code) ∧ (s.atx + 0 ≤ src3.atx ∧ src3.atx ≤ s.atx + 400) ∧ (okFil (File.mk cs' ss ns)) ∧ (True) from ⟨(by first | omega | exact hs0.1 | exact hs0.2.1 | exact okFil_of hcs (by omega) (by omega) hss hns), (by first | omega | exact hs0.1 | exact hs0.2.1 | exact okFil_of hcs (by omega) (by omega) hss hns), (by first | omega | exact hs0.1 | exact hs0.2.1 | exact okFil_of hcs (by omega) (by omega) hss hns), (by first | omega | exact hs0.1 | exact hs0.2.1 | exact okFil_of hcs (by omega) (by omega) hss hns), trivial⟩) (⟨.inl rfl, trivial⟩) (.agg [.arr 34, .arr 731, .arr 732]) (by kernel_rfl) (.inr ⟨⟨(fun _ => rfl), rfl, rfl, fun i _ => .inl rfl⟩, ⟨⟨(fun _ => rfl), rfl, rfl, fun i _ => .inl rfl⟩, ⟨⟨(fun _ => rfl), rfl, rfl, fun i _ => .inl rfl⟩, rfl⟩⟩⟩) (fun _ => rfl) (fun _ => (by simp [tagged, taggedL, tagChannel, tagNote, tagRows]))
  obtain ⟨⟨v, s'⟩, ⟨hh0, hh1, hh2, hh3, _⟩, hc⟩ := hh
  exact ⟨v, s', hh0, hh1, hh2, hh3, hc⟩
theorem A2File_ok (code : List Int) (hc : (∀ j, j < code.length → 0 ≤ at_ code j ∧ at_ code j ≤ 255) ∧ code.length ≤ 4611686018427387904) : ∃ (v : File), (okFil v) ∧ Con Tryz.prog 13 [slU8 false code] true (agFileT v) := by
  have hh : ∃ r : File, ((okFil r) ∧ (True)) ∧ CallOK Tryz.prog 13 [slU8 false code] (lookO []) true (agFileT r) (lookO []) := by
    refine fn_okX (Φ := fun r : File => (okFil r) ∧ (True)) [] (fun r => []) (fn := Tryz.f13) (nt := 6) Tryz.func13 rfl rfl (args := [slU8 false code]) rfl (allcons (.inl ⟨rfl, tagU8 false _⟩) allnil) (res := fun r => agFileT r) ?_
    refine xR [(0, .new 2)] [0, 2] [2] [slU8 false code, .ref 2 0] [some (.box [nilA, nilA, nilA])] [] trivial ?_
    refine x_seq ?_
    obtain ⟨s'_1, hx1_0, hc1⟩ := l00From_ok code
    obtain ⟨v_2, s'_2, hx2_0, hx2_1, hx2_2, hx2_3, hc2⟩ := l03Draw_ok s'_1 (by first | assumption | (simp only [okSrc] at *; simp_all; done)) (by omega)
    refine x_r [(1, .lend [] [(7001, bxl00Src s'_1)] [(true, .any)] false (.ref 7001 0)), (2, .lend [(7001, bxl00Src s'_1, bxl00Src s'_2)] [] [(true, .any)] true (agFileT v_2))] [2] [2] [.ref 2 0] [some (bxFileT v_2)] [CallOK Tryz.prog 27 [slU8 false code] (lookO []) false (.ref 7001 0) (lookO [(7001, bxl00Src s'_1)]) ∧ True, CallOK Tryz.prog 40 [.ref 7001 0] (lookO [(7001, bxl00Src s'_1)]) true (agFileT v_2) (lookO [(7001, bxl00Src s'_2)]) ∧ (((bxl00Src s'_1 : Ob) = bxl00Src s'_1 ∨ obLe noOb true (bxl00Src s'_1) (bxl00Src s'_1)) ∧ taggedO false (bxl00Src s'_1)) ∧ True] ⟨⟨hc1, trivial⟩, ⟨hc2, ⟨.inl rfl, (by simp [taggedO, taggedL, tagged, tagU8])⟩, trivial⟩, trivial⟩ ?_
    refine xe_then ?_
    refine x_ret ?_
    refine xe_end v_2 (show (okFil v_2) ∧ (True) from ⟨(by assumption), trivial⟩) (trivial) (agFileT v_2) (by kernel_rfl) (.inl rfl) (fun _ => rfl) (fun _ => (by simp [tagged, taggedL, tagChannel, tagNote, tagRows]))
  obtain ⟨v, ⟨hh0, _⟩, hc⟩ := hh
  exact ⟨v, hh0, hc⟩
theorem formatInt_ok (n base : Int) (h : -9223372036854775808 ≤ n ∧ n ≤ 9223372036854775807) (hb : base = 10) : Con Tryz.prog 100 [I n, I base] true (Sv (decB n)) := by
  subst hb
  refine con_of_calls (vals := [.int .i64 n, .int .i64 10]) fun w hw => ?_
  refine (Tryz.strconv_FormatInt_10 n h.1 h.2 w (WX_tab hw)).mono ?_
  rintro e w' ⟨rfl, k, os, rfl⟩
  exact ⟨rfl, Lib.below_grow _ _ (Nat.le_refl _) k os⟩
theorem implDecimal_ok (n : Int) (hn : -9223372036854775808 ≤ n ∧ n ≤ 9223372036854775807) : Con Tryz.prog 45 [I n] true (Sv (decB n)) := by
  refine fn_ok (fn := Tryz.f45) (nt := 5) Tryz.func45 rfl rfl rfl rfl (by simp [taggedL, tagged]) fun B hB => ?_
  refine aR [] [0] [] [I n] [] [] hB trivial ?_
  refine aR [(1, .call [(true, .any), (true, .any)] true (Sv (decB n)))] [2] [] [Sv (decB n)] [] [Con Tryz.prog 100 [I n, I 10] true (Sv (decB n)) ∧ True] hB ⟨⟨(formatInt_ok n 10 (by omega) rfl), trivial⟩, trivial⟩ ?_
  refine aw_ret ?_
  refine ae_ret hB (Sv (decB n)) (by kernel_rfl) (.inl rfl) rfl (fun _ => trivial)
def jok (sep : ByteArray) (xs : List ByteArray) : Prop := sep.size ≤ 8 ∧ xs.length ≤ 100000 ∧ (xs ≠ [] → jnZ xs xs.length + sep.size * (xs.length - 1) ≤ 1000000000)
theorem jok_room {s n : Nat} (hs : s ≤ 8) (hn : 1 ≤ n ∧ n ≤ 100000) : (s : Int) < (9223372036854775807 : Int) / (n : Int) := by
  have h : (9 : Int) ≤ (9223372036854775807 : Int) / (n : Int) := by
    rw [Int.le_ediv_iff_mul_le (by omega)]
    omega
  omega
theorem jnZ_at (xs : List ByteArray) {k : Nat} : jnZ xs (k + 1) = jnZ xs k + (at_ xs k).size := rfl
theorem jnB_one (sep : ByteArray) {xs : List ByteArray} (h : xs.length = 1) : jnB sep xs = at_ xs 0 := by
  match xs, h with
  | [x], _ => simp [jnB, jrest, ba_nilT, at_]
theorem jnB_take {sep : ByteArray} {xs : List ByteArray} {k : Nat} (h : k + 1 < xs.length) : jnB sep (xs.take (k + 2)) = (jnB sep (xs.take (k + 1)) ++ sep) ++ at_ xs (k + 1) := by
  rw [show xs.take (k + 2) = xs.take (k + 1) ++ [at_ xs (k + 1)] from by rw [List.take_succ_eq_append_getElem h, at_eq h], jnB_snoc]
  intro e
  have h2 : (xs.take (k + 1)).length = k + 1 := by rw [List.length_take]; omega
  rw [e] at h2
  simp at h2
theorem jnB_take1 {sep : ByteArray} {xs : List ByteArray} (h : 1 ≤ xs.length) : jnB sep (xs.take 1) = at_ xs 0 := by
  have e : (xs.take 1).length = 1 := by simp; omega
  rw [jnB_one sep e]
  simp [at_]
theorem join_ok (xs : List ByteArray) (sep : ByteArray) (ok : jok sep xs) : Con Tryz.prog 101 [slS false xs, Sv sep] true (Sv (jnB sep xs)) := by
  refine fn_ok (fn := Tryz.f101) (nt := 75) Tryz.func101 rfl rfl rfl rfl (by simp [taggedL, tagged, tagS]) fun B hB => ?_
  refine aw_lens (x := slS false xs) 0 rfl (fun len_xs => ?_)
  simp [LenOK, LenL, cS, fS, slS] at len_xs
  refine aR [] [0, 1] [] [slS false xs, Sv sep] [] [] hB trivial ?_
  refine aw_seq ?_
  refine aR [] [0, 1, 12] [] [slS false xs, Sv sep, I (xs.length : Int)] [] [] hB trivial ?_
  refine aw_block ?_
  refine aw_seq ?_
  by_cases h1 : (xs.length : Int) = 0
  ·have he : xs = [] := List.length_eq_zero_iff.1 (by omega)
   refine aw_r [(0, .dec true)] [0, 1, 12, 13] [] [slS false xs, Sv sep, I (xs.length : Int), Bv true] [] [(xs.length : Int) = 0] hB ⟨h1, trivial⟩ ?_
   refine ae_then ?_
   refine aw_true rfl ?_
   refine aR [] [4] [] [Sv (⟨#[]⟩ : ByteArray)] [] [] hB trivial ?_
   refine aw_ret ?_
   refine ae_ret_block (ae_ret_then ?_)
   refine ae_ret hB (Sv (⟨#[]⟩ : ByteArray)) (by kernel_rfl) (.inl (by first | rfl | (rw [jnB_one _ he]; done) | (rw [htx]; done) | (rw [he]; rfl))) rfl (fun _ => trivial)
  refine aw_r [(0, .dec false)] [0, 1, 12, 13] [] [slS false xs, Sv sep, I (xs.length : Int), Bv false] [] [¬ ((xs.length : Int) = 0)] hB ⟨h1, trivial⟩ ?_
  refine ae_then ?_
  refine aw_false rfl ?_
  refine aw_seq ?_
  by_cases h2 : (xs.length : Int) = 1
  ·have he : xs.length = 1 := by omega
   refine aw_r [(0, .dec true)] [0, 1, 15] [] [slS false xs, Sv sep, Bv true] [] [(xs.length : Int) = 1] hB ⟨h2, trivial⟩ ?_
   refine ae_then ?_
   refine aw_true rfl ?_
   refine aR [] [4] [] [Sv (at_ xs 0)] [] [(0 : Int) ≤ 0 ∧ 0 < (xs.length : Int)] hB ⟨⟨(by omega), (by omega)⟩, trivial⟩ ?_
   refine aw_ret ?_
   refine ae_ret_block (ae_ret_then ?_)
   refine ae_ret hB (Sv (at_ xs 0)) (by kernel_rfl) (.inl (by first | rfl | (rw [jnB_one _ he]; done) | (rw [htx]; done) | (rw [he]; rfl))) rfl (fun _ => trivial)
  have ok3 := ok.2.2 (List.ne_nil_of_length_pos (by omega))
  have okl := ok.2.1
  have oks := ok.1
  obtain ⟨M, hM⟩ : ∃ M : Nat, sep.size * (xs.length - 1) = M := ⟨_, rfl⟩
  rw [hM] at ok3
  have hMi : (sep.size : Int) * ((xs.length : Int) - 1) = (M : Int) := by rw [← hM, Int.natCast_mul, Int.natCast_sub (by omega)]; rfl
  refine aw_r [(0, .dec false)] [0, 1, 15] [] [slS false xs, Sv sep, Bv false] [] [¬ ((xs.length : Int) = 1)] hB ⟨h2, trivial⟩ ?_
  refine ae_then ?_
  refine aw_false rfl ?_
  refine aw_skip ?_
  refine ae_block 0 ?_
  refine ae_then ?_
  refine aR [] [0, 1, 5] [] [slS false xs, Sv sep, I 0] [] [] hB trivial ?_
  refine aw_seq ?_
  refine aw_seq ?_
  by_cases h3 : 0 < (sep.size : Int)
  ·refine aw_r [(2, .dec true)] [0, 1, 5, 22] [] [slS false xs, Sv sep, I 0, Bv true] [] [0 < (sep.size : Int)] hB ⟨h3, trivial⟩ ?_
   refine ae_then ?_
   refine aw_true rfl ?_
   refine aw_seq ?_
   refine aR [(5, .nn), (6, .dec false)] [0, 1, 5, 29] [] [slS false xs, Sv sep, I 0, Bv false] [] [inR .i64 ((xs.length : Int) - 1), (0 : Int) ≤ 9223372036854775807 ∧ (0 : Int) < ((xs.length : Int) - 1) ∧ inR .i64 9223372036854775807, ¬ ((9223372036854775807 / ((xs.length : Int) - 1)) ≤ (sep.size : Int))] hB ⟨(inR_i64 (by omega) (by omega)), ⟨(by omega), (by omega), (inR_i64 (by omega) (by omega))⟩, (by have q := jok_room (s := sep.size) (n := xs.length - 1) ok.1 (by have := ok.2.1; omega); have e : ((xs.length - 1 : Nat) : Int) = (xs.length : Int) - 1 := (by omega); rw [e] at q; omega), trivial⟩ ?_
   refine aw_false rfl ?_
   refine aw_skip ?_
   refine ae_then ?_
   refine aw_r [] [0, 1, 5] [] [slS false xs, Sv sep, I (0 + ((sep.size : Int) * ((xs.length : Int) - 1)))] [] [inR .i64 ((xs.length : Int) - 1), inR .i64 ((sep.size : Int) * ((xs.length : Int) - 1)), inR .i64 (0 + ((sep.size : Int) * ((xs.length : Int) - 1)))] hB ⟨(inR_i64 (by omega) (by omega)), (inR_i64 (by omega) (by omega)), (inR_i64 (by omega) (by omega)), trivial⟩ ?_
   refine ae_then ?_
   refine aw_seq ?_
   refine aR [] [0, 1, 5, 39, 40, 41] [] [slS false xs, Sv sep, I (0 + ((sep.size : Int) * ((xs.length : Int) - 1))), slS false xs, I (xs.length : Int), I 0] [] [] hB trivial ?_
   refine aw_block ?_
   refine aw_loop (fun gn gσ => ∃ (n : Int) (k : Int), gn = ((xs.length : Int) - k).toNat ∧ (0 ≤ k ∧ k ≤ (xs.length : Int)) ∧ (n = (M : Int) + (jnZ xs k.toNat : Int)) ∧ gσ = mkS [(0, slS false xs), (1, Sv sep), (5, I n), (39, slS false xs), (40, I (xs.length : Int)), (41, I k)] []) (((xs.length : Int) - 0).toNat) ⟨(0 + ((sep.size : Int) * ((xs.length : Int) - 1))), 0, rfl, (by omega), (by show _ = (M : Int) + ((0 : Nat) : Int); omega), rfl⟩ (fun gn gσ hI => ?_)
   obtain ⟨n, k, rfl, hk, hn, rfl⟩ := hI
   refine aw_seq ?_
   by_cases h4 : k < (xs.length : Int)
   ·have hi : k.toNat < xs.length := by omega
    have hsm := jnZ_at xs (k := k.toNat)
    have hmo := jnZ_mono xs (show k.toNat + 1 ≤ xs.length from hi)
    have hks : (k + 1).toNat = k.toNat + 1 := by omega
    refine aw_r [(0, .dec true)] [0, 1, 5, 39, 40, 41, 42] [] [slS false xs, Sv sep, I n, slS false xs, I (xs.length : Int), I k, Bv true] [] [k < (xs.length : Int)] hB ⟨h4, trivial⟩ ?_
    refine ae_then ?_
    refine aw_seq ?_
    refine aw_true rfl ?_
    refine aw_skip ?_
    refine ae_then ?_
    refine aw_seq ?_
    refine aw_block ?_
    refine aR [] [0, 1, 5, 7, 39, 40, 41] [] [slS false xs, Sv sep, I n, Sv (at_ xs k.toNat), slS false xs, I (xs.length : Int), I k] [] [(0 : Int) ≤ k ∧ k < (xs.length : Int)] hB ⟨⟨(by omega), (by omega)⟩, trivial⟩ ?_
    refine aw_seq ?_
    refine aR [(4, .dec false)] [0, 1, 5, 7, 39, 40, 41, 49] [] [slS false xs, Sv sep, I n, Sv (at_ xs k.toNat), slS false xs, I (xs.length : Int), I k, Bv false] [] [inR .i64 (9223372036854775807 - n), ¬ ((9223372036854775807 - n) < ((at_ xs k.toNat).size : Int))] hB ⟨(inR_i64 (by omega) (by omega)), (by omega), trivial⟩ ?_
    refine aw_false rfl ?_
    refine aw_skip ?_
    refine ae_then ?_
    refine aw_r [] [0, 1, 5, 39, 40, 41] [] [slS false xs, Sv sep, I (n + ((at_ xs k.toNat).size : Int)), slS false xs, I (xs.length : Int), I k] [] [inR .i64 (n + ((at_ xs k.toNat).size : Int))] hB ⟨(inR_i64 (by omega) (by omega)), trivial⟩ ?_
    refine ae_block 2 ?_
    refine ae_then ?_
    refine aw_r [] [0, 1, 5, 39, 40, 41] [] [slS false xs, Sv sep, I (n + ((at_ xs k.toNat).size : Int)), slS false xs, I (xs.length : Int), I (k + 1)] [] [inR .i64 (k + 1)] hB ⟨(inR_i64 (by omega) (by omega)), trivial⟩ ?_
    exact ae_again _ (by omega) ⟨(n + ((at_ xs k.toNat).size : Int)), (k + 1), rfl, (by omega), (by rw [hks]; omega), rfl⟩
   have hke : k.toNat = xs.length := by omega
   rw [hke] at hn
   have hj1 := jnB_take1 (sep := sep) (xs := xs) (by omega)
   have hs1 := jnZ_mono xs (show 1 ≤ xs.length from by omega)
   have hz0 : (⟨#[]⟩ : ByteArray).size = 0 := rfl
   have hs0 : jnZ xs 1 = (at_ xs 0).size := by simp [jnZ]
   refine aw_r [(0, .dec false)] [0, 1, 5, 39, 40, 41, 42] [] [slS false xs, Sv sep, I n, slS false xs, I (xs.length : Int), I k, Bv false] [] [¬ (k < (xs.length : Int))] hB ⟨h4, trivial⟩ ?_
   refine ae_then ?_
   refine aw_seq ?_
   refine aw_false rfl ?_
   refine aw_exit ?_
   refine ae_exit_then ?_
   refine ae_exit_then ?_
   refine ae_exit_same ?_
   refine ae_then ?_
   refine aR [(0, .newb 8 60016 5)] [0, 1, 5, 8] [8, 60016] [slS false xs, Sv sep, I n, .ref 8 0] [some (.bld 104 60016), some (.buf 5 false (⟨#[]⟩ : ByteArray))] [] hB trivial ?_
   refine aR [(1, .bw 8 60016 60017 (.int .i64 n) true (⟨#[]⟩ : ByteArray))] [0, 1, 8] [8, 60017] [slS false xs, Sv sep, .ref 8 0] [some (.bld 104 60017), some (.buf 5 true ((⟨#[]⟩ : ByteArray) ++ (⟨#[]⟩ : ByteArray)))] [([.ref 8 0, I n] : List AV) = [.ref 8 0, I n] ∧ BwOK Tryz.prog 132 104 5 (.int .i64 n) false (⟨#[]⟩ : ByteArray) true (⟨#[]⟩ : ByteArray)] hB ⟨⟨rfl, bg_ok (by omega) (by omega)⟩, trivial⟩ ?_
   refine aR [(3, .bw 8 60017 60016 (.string (at_ xs 0)) true (at_ xs 0))] [0, 1, 8] [8, 60016] [slS false xs, Sv sep, .ref 8 0] [some (.bld 104 60016), some (.buf 5 true (((⟨#[]⟩ : ByteArray) ++ (⟨#[]⟩ : ByteArray)) ++ (at_ xs 0)))] [(0 : Int) ≤ 0 ∧ 0 < (xs.length : Int), ([.ref 8 0, Sv (at_ xs 0)] : List AV) = [.ref 8 0, Sv (at_ xs 0)] ∧ BwOK Tryz.prog 44 104 5 (.string (at_ xs 0)) true ((⟨#[]⟩ : ByteArray) ++ (⟨#[]⟩ : ByteArray)) true (at_ xs 0)] hB ⟨⟨(by omega), (by omega)⟩, ⟨rfl, bw_ok (by first | omega | (simp only [ByteArray.size_append]; omega) | (simp only [ByteArray.size_append, hat]; omega))⟩, trivial⟩ ?_
   refine aw_seq ?_
   refine aR [] [1, 8, 63, 64, 65] [8, 60016] [Sv sep, .ref 8 0, .sl false 1 ((xs.length : Int).toNat - 1) (cutF 1 (fS xs)), I (((xs.length : Int).toNat - 1 : Nat) : Int), I 0] [some (.bld 104 60016), some (.buf 5 true (((⟨#[]⟩ : ByteArray) ++ (⟨#[]⟩ : ByteArray)) ++ (at_ xs 0)))] [(0 : Int) ≤ 1 ∧ (1 : Int) ≤ (xs.length : Int) ∧ (xs.length : Int) ≤ (xs.length : Int)] hB ⟨⟨(by omega), (by omega), (by omega)⟩, trivial⟩ ?_
   refine aw_block ?_
   refine aw_loop (fun gn gσ => ∃ (j : Int) (tx : ByteArray), gn = ((xs.length : Int) - j).toNat ∧ (0 ≤ j ∧ j + 1 ≤ (xs.length : Int)) ∧ (tx = jnB sep (xs.take (j.toNat + 1))) ∧ (tx.size ≤ jnZ xs (j.toNat + 1) + 8 * j.toNat) ∧ gσ = mkS [(1, Sv sep), (8, .ref 8 0), (63, .sl false 1 ((xs.length : Int).toNat - 1) (cutF 1 (fS xs))), (64, I (((xs.length : Int).toNat - 1 : Nat) : Int)), (65, I j)] [(8, .bld 104 60016), (60016, .buf 5 true tx)]) (((xs.length : Int) - 0).toNat) ⟨0, (((⟨#[]⟩ : ByteArray) ++ (⟨#[]⟩ : ByteArray)) ++ (at_ xs 0)), rfl, (by omega), (by show _ = jnB sep (xs.take 1); rw [hj1, nil_ba, nil_ba]), (by show _ ≤ jnZ xs 1 + _; simp only [ByteArray.size_append]; omega), rfl⟩ (fun gn gσ hI => ?_)
   obtain ⟨j, tx, rfl, hj0, htx, hts, rfl⟩ := hI
   refine aw_seq ?_
   by_cases h5 : j < (((xs.length : Int).toNat - 1 : Nat) : Int)
   ·have hj : j.toNat + 1 < xs.length := by omega
    have hsj := jnZ_at xs (k := j.toNat + 1)
    have hmj := jnZ_mono xs (show j.toNat + 1 + 1 ≤ xs.length from by omega)
    have hmj2 := jnZ_mono xs (show j.toNat + 1 ≤ xs.length from by omega)
    have hjs : (j + 1).toNat = j.toNat + 1 := by omega
    have hjt := jnB_take (sep := sep) hj
    have hat : at_ xs (1 + j.toNat) = at_ xs (j.toNat + 1) := by rw [Nat.add_comm]
    refine aw_r [(0, .dec true)] [1, 8, 63, 64, 65, 66] [8, 60016] [Sv sep, .ref 8 0, .sl false 1 ((xs.length : Int).toNat - 1) (cutF 1 (fS xs)), I (((xs.length : Int).toNat - 1 : Nat) : Int), I j, Bv true] [some (.bld 104 60016), some (.buf 5 true tx)] [j < (((xs.length : Int).toNat - 1 : Nat) : Int)] hB ⟨h5, trivial⟩ ?_
    refine ae_then ?_
    refine aw_seq ?_
    refine aw_true rfl ?_
    refine aw_skip ?_
    refine ae_then ?_
    refine aw_seq ?_
    refine aw_block ?_
    refine aR [] [1, 8, 10, 63, 64, 65] [8, 60016] [Sv sep, .ref 8 0, Sv (at_ xs (1 + j.toNat)), .sl false 1 ((xs.length : Int).toNat - 1) (cutF 1 (fS xs)), I (((xs.length : Int).toNat - 1 : Nat) : Int), I j] [some (.bld 104 60016), some (.buf 5 true tx)] [(0 : Int) ≤ j ∧ j < (((xs.length : Int).toNat - 1 : Nat) : Int)] hB ⟨⟨(by omega), (by omega)⟩, trivial⟩ ?_
    refine aR [(1, .bw 8 60016 60017 (.string sep) true sep)] [1, 8, 10, 63, 64, 65] [8, 60017] [Sv sep, .ref 8 0, Sv (at_ xs (1 + j.toNat)), .sl false 1 ((xs.length : Int).toNat - 1) (cutF 1 (fS xs)), I (((xs.length : Int).toNat - 1 : Nat) : Int), I j] [some (.bld 104 60017), some (.buf 5 true (tx ++ sep))] [([.ref 8 0, Sv sep] : List AV) = [.ref 8 0, Sv sep] ∧ BwOK Tryz.prog 44 104 5 (.string sep) true tx true sep] hB ⟨⟨rfl, bw_ok (by first | omega | (simp only [ByteArray.size_append]; omega) | (simp only [ByteArray.size_append, hat]; omega))⟩, trivial⟩ ?_
    refine aw_r [(1, .bw 8 60017 60016 (.string (at_ xs (1 + j.toNat))) true (at_ xs (1 + j.toNat)))] [1, 8, 63, 64, 65] [8, 60016] [Sv sep, .ref 8 0, .sl false 1 ((xs.length : Int).toNat - 1) (cutF 1 (fS xs)), I (((xs.length : Int).toNat - 1 : Nat) : Int), I j] [some (.bld 104 60016), some (.buf 5 true ((tx ++ sep) ++ (at_ xs (1 + j.toNat))))] [([.ref 8 0, Sv (at_ xs (1 + j.toNat))] : List AV) = [.ref 8 0, Sv (at_ xs (1 + j.toNat))] ∧ BwOK Tryz.prog 44 104 5 (.string (at_ xs (1 + j.toNat))) true (tx ++ sep) true (at_ xs (1 + j.toNat))] hB ⟨⟨rfl, bw_ok (by first | omega | (simp only [ByteArray.size_append]; omega) | (simp only [ByteArray.size_append, hat]; omega))⟩, trivial⟩ ?_
    refine ae_block 4 ?_
    refine ae_then ?_
    refine aw_r [] [1, 8, 63, 64, 65] [8, 60016] [Sv sep, .ref 8 0, .sl false 1 ((xs.length : Int).toNat - 1) (cutF 1 (fS xs)), I (((xs.length : Int).toNat - 1 : Nat) : Int), I (j + 1)] [some (.bld 104 60016), some (.buf 5 true ((tx ++ sep) ++ (at_ xs (1 + j.toNat))))] [inR .i64 (j + 1)] hB ⟨(inR_i64 (by omega) (by omega)), trivial⟩ ?_
    exact ae_again _ (by omega) ⟨(j + 1), ((tx ++ sep) ++ (at_ xs (1 + j.toNat))), rfl, (by omega), (by rw [hjs, hjt, ← htx, hat]), (by rw [hjs, hsj]; simp only [ByteArray.size_append, hat]; omega), rfl⟩
   have hje : j.toNat + 1 = xs.length := by omega
   rw [hje, List.take_length] at htx
   refine aw_r [(0, .dec false)] [1, 8, 63, 64, 65, 66] [8, 60016] [Sv sep, .ref 8 0, .sl false 1 ((xs.length : Int).toNat - 1) (cutF 1 (fS xs)), I (((xs.length : Int).toNat - 1 : Nat) : Int), I j, Bv false] [some (.bld 104 60016), some (.buf 5 true tx)] [¬ (j < (((xs.length : Int).toNat - 1 : Nat) : Int))] hB ⟨h5, trivial⟩ ?_
   refine ae_then ?_
   refine aw_seq ?_
   refine aw_false rfl ?_
   refine aw_exit ?_
   refine ae_exit_then ?_
   refine ae_exit_then ?_
   refine ae_exit_same ?_
   refine ae_then ?_
   refine aR [(0, .bs 8 60016)] [4] [] [Sv tx] [] [([.ref 8 0] : List AV) = [.ref 8 0] ∧ BsOK Tryz.prog 47 104 5] hB ⟨⟨rfl, bs_ok⟩, trivial⟩ ?_
   refine aw_ret ?_
   refine ae_ret hB (Sv tx) (by kernel_rfl) (.inl (by first | rfl | (rw [jnB_one _ he]; done) | (rw [htx]; done) | (rw [he]; rfl))) rfl (fun _ => trivial)
  have hM0 : M = 0 := by rw [← hM, show sep.size = 0 from by omega, Nat.zero_mul]
  refine aw_r [(2, .dec false)] [0, 1, 5, 22] [] [slS false xs, Sv sep, I 0, Bv false] [] [¬ (0 < (sep.size : Int))] hB ⟨h3, trivial⟩ ?_
  refine ae_then ?_
  refine aw_false rfl ?_
  refine aw_skip ?_
  refine ae_then ?_
  refine aw_seq ?_
  refine aR [] [0, 1, 5, 39, 40, 41] [] [slS false xs, Sv sep, I 0, slS false xs, I (xs.length : Int), I 0] [] [] hB trivial ?_
  refine aw_block ?_
  refine aw_loop (fun gn gσ => ∃ (n : Int) (k : Int), gn = ((xs.length : Int) - k).toNat ∧ (0 ≤ k ∧ k ≤ (xs.length : Int)) ∧ (n = (M : Int) + (jnZ xs k.toNat : Int)) ∧ gσ = mkS [(0, slS false xs), (1, Sv sep), (5, I n), (39, slS false xs), (40, I (xs.length : Int)), (41, I k)] []) (((xs.length : Int) - 0).toNat) ⟨0, 0, rfl, (by omega), (by show _ = (M : Int) + ((0 : Nat) : Int); omega), rfl⟩ (fun gn gσ hI => ?_)
  obtain ⟨n, k, rfl, hk, hn, rfl⟩ := hI
  refine aw_seq ?_
  by_cases h6 : k < (xs.length : Int)
  ·have hi : k.toNat < xs.length := by omega
   have hsm := jnZ_at xs (k := k.toNat)
   have hmo := jnZ_mono xs (show k.toNat + 1 ≤ xs.length from hi)
   have hks : (k + 1).toNat = k.toNat + 1 := by omega
   refine aw_r [(0, .dec true)] [0, 1, 5, 39, 40, 41, 42] [] [slS false xs, Sv sep, I n, slS false xs, I (xs.length : Int), I k, Bv true] [] [k < (xs.length : Int)] hB ⟨h6, trivial⟩ ?_
   refine ae_then ?_
   refine aw_seq ?_
   refine aw_true rfl ?_
   refine aw_skip ?_
   refine ae_then ?_
   refine aw_seq ?_
   refine aw_block ?_
   refine aR [] [0, 1, 5, 7, 39, 40, 41] [] [slS false xs, Sv sep, I n, Sv (at_ xs k.toNat), slS false xs, I (xs.length : Int), I k] [] [(0 : Int) ≤ k ∧ k < (xs.length : Int)] hB ⟨⟨(by omega), (by omega)⟩, trivial⟩ ?_
   refine aw_seq ?_
   refine aR [(4, .dec false)] [0, 1, 5, 7, 39, 40, 41, 49] [] [slS false xs, Sv sep, I n, Sv (at_ xs k.toNat), slS false xs, I (xs.length : Int), I k, Bv false] [] [inR .i64 (9223372036854775807 - n), ¬ ((9223372036854775807 - n) < ((at_ xs k.toNat).size : Int))] hB ⟨(inR_i64 (by omega) (by omega)), (by omega), trivial⟩ ?_
   refine aw_false rfl ?_
   refine aw_skip ?_
   refine ae_then ?_
   refine aw_r [] [0, 1, 5, 39, 40, 41] [] [slS false xs, Sv sep, I (n + ((at_ xs k.toNat).size : Int)), slS false xs, I (xs.length : Int), I k] [] [inR .i64 (n + ((at_ xs k.toNat).size : Int))] hB ⟨(inR_i64 (by omega) (by omega)), trivial⟩ ?_
   refine ae_block 2 ?_
   refine ae_then ?_
   refine aw_r [] [0, 1, 5, 39, 40, 41] [] [slS false xs, Sv sep, I (n + ((at_ xs k.toNat).size : Int)), slS false xs, I (xs.length : Int), I (k + 1)] [] [inR .i64 (k + 1)] hB ⟨(inR_i64 (by omega) (by omega)), trivial⟩ ?_
   exact ae_again _ (by omega) ⟨(n + ((at_ xs k.toNat).size : Int)), (k + 1), rfl, (by omega), (by rw [hks]; omega), rfl⟩
  have hke : k.toNat = xs.length := by omega
  rw [hke] at hn
  have hj1 := jnB_take1 (sep := sep) (xs := xs) (by omega)
  have hs1 := jnZ_mono xs (show 1 ≤ xs.length from by omega)
  have hz0 : (⟨#[]⟩ : ByteArray).size = 0 := rfl
  have hs0 : jnZ xs 1 = (at_ xs 0).size := by simp [jnZ]
  refine aw_r [(0, .dec false)] [0, 1, 5, 39, 40, 41, 42] [] [slS false xs, Sv sep, I n, slS false xs, I (xs.length : Int), I k, Bv false] [] [¬ (k < (xs.length : Int))] hB ⟨h6, trivial⟩ ?_
  refine ae_then ?_
  refine aw_seq ?_
  refine aw_false rfl ?_
  refine aw_exit ?_
  refine ae_exit_then ?_
  refine ae_exit_then ?_
  refine ae_exit_same ?_
  refine ae_then ?_
  refine aR [(0, .newb 8 60016 5)] [0, 1, 5, 8] [8, 60016] [slS false xs, Sv sep, I n, .ref 8 0] [some (.bld 104 60016), some (.buf 5 false (⟨#[]⟩ : ByteArray))] [] hB trivial ?_
  refine aR [(1, .bw 8 60016 60017 (.int .i64 n) true (⟨#[]⟩ : ByteArray))] [0, 1, 8] [8, 60017] [slS false xs, Sv sep, .ref 8 0] [some (.bld 104 60017), some (.buf 5 true ((⟨#[]⟩ : ByteArray) ++ (⟨#[]⟩ : ByteArray)))] [([.ref 8 0, I n] : List AV) = [.ref 8 0, I n] ∧ BwOK Tryz.prog 132 104 5 (.int .i64 n) false (⟨#[]⟩ : ByteArray) true (⟨#[]⟩ : ByteArray)] hB ⟨⟨rfl, bg_ok (by omega) (by omega)⟩, trivial⟩ ?_
  refine aR [(3, .bw 8 60017 60016 (.string (at_ xs 0)) true (at_ xs 0))] [0, 1, 8] [8, 60016] [slS false xs, Sv sep, .ref 8 0] [some (.bld 104 60016), some (.buf 5 true (((⟨#[]⟩ : ByteArray) ++ (⟨#[]⟩ : ByteArray)) ++ (at_ xs 0)))] [(0 : Int) ≤ 0 ∧ 0 < (xs.length : Int), ([.ref 8 0, Sv (at_ xs 0)] : List AV) = [.ref 8 0, Sv (at_ xs 0)] ∧ BwOK Tryz.prog 44 104 5 (.string (at_ xs 0)) true ((⟨#[]⟩ : ByteArray) ++ (⟨#[]⟩ : ByteArray)) true (at_ xs 0)] hB ⟨⟨(by omega), (by omega)⟩, ⟨rfl, bw_ok (by first | omega | (simp only [ByteArray.size_append]; omega) | (simp only [ByteArray.size_append, hat]; omega))⟩, trivial⟩ ?_
  refine aw_seq ?_
  refine aR [] [1, 8, 63, 64, 65] [8, 60016] [Sv sep, .ref 8 0, .sl false 1 ((xs.length : Int).toNat - 1) (cutF 1 (fS xs)), I (((xs.length : Int).toNat - 1 : Nat) : Int), I 0] [some (.bld 104 60016), some (.buf 5 true (((⟨#[]⟩ : ByteArray) ++ (⟨#[]⟩ : ByteArray)) ++ (at_ xs 0)))] [(0 : Int) ≤ 1 ∧ (1 : Int) ≤ (xs.length : Int) ∧ (xs.length : Int) ≤ (xs.length : Int)] hB ⟨⟨(by omega), (by omega), (by omega)⟩, trivial⟩ ?_
  refine aw_block ?_
  refine aw_loop (fun gn gσ => ∃ (j : Int) (tx : ByteArray), gn = ((xs.length : Int) - j).toNat ∧ (0 ≤ j ∧ j + 1 ≤ (xs.length : Int)) ∧ (tx = jnB sep (xs.take (j.toNat + 1))) ∧ (tx.size ≤ jnZ xs (j.toNat + 1) + 8 * j.toNat) ∧ gσ = mkS [(1, Sv sep), (8, .ref 8 0), (63, .sl false 1 ((xs.length : Int).toNat - 1) (cutF 1 (fS xs))), (64, I (((xs.length : Int).toNat - 1 : Nat) : Int)), (65, I j)] [(8, .bld 104 60016), (60016, .buf 5 true tx)]) (((xs.length : Int) - 0).toNat) ⟨0, (((⟨#[]⟩ : ByteArray) ++ (⟨#[]⟩ : ByteArray)) ++ (at_ xs 0)), rfl, (by omega), (by show _ = jnB sep (xs.take 1); rw [hj1, nil_ba, nil_ba]), (by show _ ≤ jnZ xs 1 + _; simp only [ByteArray.size_append]; omega), rfl⟩ (fun gn gσ hI => ?_)
  obtain ⟨j, tx, rfl, hj0, htx, hts, rfl⟩ := hI
  refine aw_seq ?_
  by_cases h7 : j < (((xs.length : Int).toNat - 1 : Nat) : Int)
  ·have hj : j.toNat + 1 < xs.length := by omega
   have hsj := jnZ_at xs (k := j.toNat + 1)
   have hmj := jnZ_mono xs (show j.toNat + 1 + 1 ≤ xs.length from by omega)
   have hmj2 := jnZ_mono xs (show j.toNat + 1 ≤ xs.length from by omega)
   have hjs : (j + 1).toNat = j.toNat + 1 := by omega
   have hjt := jnB_take (sep := sep) hj
   have hat : at_ xs (1 + j.toNat) = at_ xs (j.toNat + 1) := by rw [Nat.add_comm]
   refine aw_r [(0, .dec true)] [1, 8, 63, 64, 65, 66] [8, 60016] [Sv sep, .ref 8 0, .sl false 1 ((xs.length : Int).toNat - 1) (cutF 1 (fS xs)), I (((xs.length : Int).toNat - 1 : Nat) : Int), I j, Bv true] [some (.bld 104 60016), some (.buf 5 true tx)] [j < (((xs.length : Int).toNat - 1 : Nat) : Int)] hB ⟨h7, trivial⟩ ?_
   refine ae_then ?_
   refine aw_seq ?_
   refine aw_true rfl ?_
   refine aw_skip ?_
   refine ae_then ?_
   refine aw_seq ?_
   refine aw_block ?_
   refine aR [] [1, 8, 10, 63, 64, 65] [8, 60016] [Sv sep, .ref 8 0, Sv (at_ xs (1 + j.toNat)), .sl false 1 ((xs.length : Int).toNat - 1) (cutF 1 (fS xs)), I (((xs.length : Int).toNat - 1 : Nat) : Int), I j] [some (.bld 104 60016), some (.buf 5 true tx)] [(0 : Int) ≤ j ∧ j < (((xs.length : Int).toNat - 1 : Nat) : Int)] hB ⟨⟨(by omega), (by omega)⟩, trivial⟩ ?_
   refine aR [(1, .bw 8 60016 60017 (.string sep) true sep)] [1, 8, 10, 63, 64, 65] [8, 60017] [Sv sep, .ref 8 0, Sv (at_ xs (1 + j.toNat)), .sl false 1 ((xs.length : Int).toNat - 1) (cutF 1 (fS xs)), I (((xs.length : Int).toNat - 1 : Nat) : Int), I j] [some (.bld 104 60017), some (.buf 5 true (tx ++ sep))] [([.ref 8 0, Sv sep] : List AV) = [.ref 8 0, Sv sep] ∧ BwOK Tryz.prog 44 104 5 (.string sep) true tx true sep] hB ⟨⟨rfl, bw_ok (by first | omega | (simp only [ByteArray.size_append]; omega) | (simp only [ByteArray.size_append, hat]; omega))⟩, trivial⟩ ?_
   refine aw_r [(1, .bw 8 60017 60016 (.string (at_ xs (1 + j.toNat))) true (at_ xs (1 + j.toNat)))] [1, 8, 63, 64, 65] [8, 60016] [Sv sep, .ref 8 0, .sl false 1 ((xs.length : Int).toNat - 1) (cutF 1 (fS xs)), I (((xs.length : Int).toNat - 1 : Nat) : Int), I j] [some (.bld 104 60016), some (.buf 5 true ((tx ++ sep) ++ (at_ xs (1 + j.toNat))))] [([.ref 8 0, Sv (at_ xs (1 + j.toNat))] : List AV) = [.ref 8 0, Sv (at_ xs (1 + j.toNat))] ∧ BwOK Tryz.prog 44 104 5 (.string (at_ xs (1 + j.toNat))) true (tx ++ sep) true (at_ xs (1 + j.toNat))] hB ⟨⟨rfl, bw_ok (by first | omega | (simp only [ByteArray.size_append]; omega) | (simp only [ByteArray.size_append, hat]; omega))⟩, trivial⟩ ?_
   refine ae_block 4 ?_
   refine ae_then ?_
   refine aw_r [] [1, 8, 63, 64, 65] [8, 60016] [Sv sep, .ref 8 0, .sl false 1 ((xs.length : Int).toNat - 1) (cutF 1 (fS xs)), I (((xs.length : Int).toNat - 1 : Nat) : Int), I (j + 1)] [some (.bld 104 60016), some (.buf 5 true ((tx ++ sep) ++ (at_ xs (1 + j.toNat))))] [inR .i64 (j + 1)] hB ⟨(inR_i64 (by omega) (by omega)), trivial⟩ ?_
   exact ae_again _ (by omega) ⟨(j + 1), ((tx ++ sep) ++ (at_ xs (1 + j.toNat))), rfl, (by omega), (by rw [hjs, hjt, ← htx, hat]), (by rw [hjs, hsj]; simp only [ByteArray.size_append, hat]; omega), rfl⟩
  have hje : j.toNat + 1 = xs.length := by omega
  rw [hje, List.take_length] at htx
  refine aw_r [(0, .dec false)] [1, 8, 63, 64, 65, 66] [8, 60016] [Sv sep, .ref 8 0, .sl false 1 ((xs.length : Int).toNat - 1) (cutF 1 (fS xs)), I (((xs.length : Int).toNat - 1 : Nat) : Int), I j, Bv false] [some (.bld 104 60016), some (.buf 5 true tx)] [¬ (j < (((xs.length : Int).toNat - 1 : Nat) : Int))] hB ⟨h7, trivial⟩ ?_
  refine ae_then ?_
  refine aw_seq ?_
  refine aw_false rfl ?_
  refine aw_exit ?_
  refine ae_exit_then ?_
  refine ae_exit_then ?_
  refine ae_exit_same ?_
  refine ae_then ?_
  refine aR [(0, .bs 8 60016)] [4] [] [Sv tx] [] [([.ref 8 0] : List AV) = [.ref 8 0] ∧ BsOK Tryz.prog 47 104 5] hB ⟨⟨rfl, bs_ok⟩, trivial⟩ ?_
  refine aw_ret ?_
  refine ae_ret hB (Sv tx) (by kernel_rfl) (.inl (by first | rfl | (rw [jnB_one _ he]; done) | (rw [htx]; done) | (rw [he]; rfl))) rfl (fun _ => trivial)
def splB (sep s : ByteArray) : List ByteArray := Lib.splitB sep 0 (Lib.countB s sep) s
theorem splB_C (c : UInt8) (s : ByteArray) : splB ⟨#[c]⟩ s = splC c s := rfl
def sufB (s p : ByteArray) : Bool := Lib.hasSuffix s.data.toList p.data.toList
def trsB (s p : ByteArray) : ByteArray := ⟨(Lib.trimSuffix s.data.toList p.data.toList).toArray⟩
theorem sufB_app (x y : ByteArray) : sufB (x ++ y) y = true := by simp [sufB, Lib.hasSuffix]
theorem trsB_app (x y : ByteArray) : trsB (x ++ y) y = x := by
  unfold trsB Lib.trimSuffix
  have h := sufB_app x y
  unfold sufB at h
  rw [if_pos h]
  apply ByteArray.ext
  simp
def isDec (s : ByteArray) : Prop := ∃ n : Int, (-1000000000000000000 < n ∧ n < 1000000000000000000) ∧ s = decB n
def dcV (s : ByteArray) : Int := match Lib.parseIntB 64 s.data.toList with | .ok v => v | _ => 0
theorem dcV_dec {n : Int} (h : -1000000000000000000 < n ∧ n < 1000000000000000000) : dcV (decB n) = n := by unfold dcV; rw [parse_dec h]
theorem ddLen : ∀ (k u : Nat), 1 ≤ k → u < 10 ^ k → (Lib.decDigits u).length ≤ k
  | 0, _, h, _ => absurd h (by decide)
  | k + 1, u, _, h => by
    rw [Lib.decDigits]
    split
    · simp
    · rename_i h3
      rw [List.length_append]
      by_cases hk : k = 0
      · subst hk; omega
      · have := ddLen k (u / 10) (by omega) (by rw [Nat.pow_succ] at h; omega)
        simp only [List.length_cons, List.length_nil]; omega
theorem trp_dec {n : Int} (h : -1000000000000000000 < n ∧ n < 1000000000000000000) : 1 ≤ (Lib.trimPrefix (decB n).data.toList [45]).length ∧ (Lib.trimPrefix (decB n).data.toList [45]).length ≤ 18 := by
  have e : (decB n).data.toList = Lib.itoa n := by simp [decB]
  have hne : ∀ u, 1 ≤ (Lib.decDigits u).length := fun u => List.length_pos_iff.2 (decDigits_ne u)
  rw [e]
  unfold Lib.itoa
  split
  · have : Lib.trimPrefix (45 :: Lib.decDigits n.natAbs) [45] = Lib.decDigits n.natAbs := by simp [Lib.trimPrefix, Lib.hasPrefix]
    rw [this]
    exact ⟨hne _, ddLen 18 _ (by decide) (by omega)⟩
  · have hl := ddLen 18 n.toNat (by decide) (by omega)
    have h1 := hne n.toNat
    obtain ⟨c, r, hc⟩ : ∃ c r, Lib.decDigits n.toNat = c :: r := by
      cases h : Lib.decDigits n.toNat with
      | nil => exact absurd h (decDigits_ne _)
      | cons c r => exact ⟨c, r, rfl⟩
    have hb := decDigits_bytes _ n.toNat (Nat.lt_succ_self _) c (by rw [hc]; simp)
    have : Lib.trimPrefix (Lib.decDigits n.toNat) [45] = Lib.decDigits n.toNat := by
      have h2 : ¬ (45 : UInt8) = c := fun e => by subst e; have : (45 : UInt8).toNat = 45 := rfl; omega
      rw [hc]
      simp [Lib.trimPrefix, Lib.hasPrefix, h2]
    rw [this]
    exact ⟨h1, hl⟩
theorem con_of_calls2 {P : Program} {f : FuncId} {vals : List Value} {v u : Value} {fr : Bool} (h : ∀ w, WX w → Calls P f vals.toArray w fun e w' => e = .returned (.tuple #[v, u]) ∧ Below w.heap.size w w') : Con P f (vals.map .val) fr (.tup [.val v, .val u]) := by
  intro B vals' hbo hm hr
  have h1 := con_of_calls (fr := fr) h B vals' hbo hm hr
  refine h1.mono ?_
  rintro e w' ⟨v', κ', rfl, h2, h3⟩
  refine ⟨v', κ', rfl, h2, ?_⟩
  have e : v' = .tuple #[v, u] := h3.val_of
  subst e
  exact .tup _ _ rfl fun q a x ha hx => by
    match q, ha, hx with
    | 0, ha, hx => simp at ha hx; subst ha; subst hx; exact .tree _ _ (.val _)
    | 1, ha, hx => simp at ha hx; subst ha; subst hx; exact .tree _ _ (.val _)
    | q + 2, ha, _ => simp at ha
theorem at_mapB {α β : Type} [Inhabited α] [Inhabited β] {xs : List α} {f : α → β} {k : Nat} (h : k < xs.length) : at_ (xs.map f) k = f (at_ xs k) := by simp [at_, h]
theorem mapTake_succ {α β : Type} [Inhabited α] {xs : List α} {f : α → β} {i : Int} {y : β} (h0 : 0 ≤ i) (h : i.toNat < xs.length) (hy : y = f (at_ xs i.toNat)) : (xs.take (i + 1).toNat).map f = (xs.take i.toNat).map f ++ [y] := by
  have e : (i + 1).toNat = i.toNat + 1 := by omega
  rw [e, List.take_succ_eq_append_getElem h, hy, at_eq h]
  simp only [List.map_append, List.map_cons, List.map_nil]
theorem map_all {α β : Type} {xs : List α} {f : α → β} {i : Int} (h : (xs.length : Int) ≤ i) : (xs.take i.toNat).map f = xs.map f := by
  rw [List.take_of_length_le (by omega)]
def comB (xs : List Int) : ByteArray := jnB ⟨#[44]⟩ (xs.map decB)
def bndI (xs : List Int) : Prop := xs.length ≤ 1000 ∧ ∀ x ∈ xs, -1000000000000000000 < x ∧ x < 1000000000000000000
theorem jnZ_le {B : Nat} {xs : List ByteArray} (h : ∀ x ∈ xs, x.size ≤ B) : ∀ k, k ≤ xs.length → jnZ xs k ≤ B * k
  | 0, _ => Nat.zero_le _
  | k + 1, hk => by
    have h1 := jnZ_le h k (by omega)
    have h2 := h _ (at_mem (show k < xs.length from hk))
    rw [jnZ, Nat.mul_succ]; omega
theorem jok_of {sep : ByteArray} {B n : Nat} {xs : List ByteArray} (hs : sep.size = 1) (hn : xs.length ≤ n) (h : ∀ x ∈ xs, x.size ≤ B) (hB : B * n ≤ 100000000) (hn2 : n ≤ 10000) : jok sep xs := by
  refine ⟨by omega, by omega, fun _ => ?_⟩
  have h1 := jnZ_le h xs.length (Nat.le_refl _)
  have h2 : B * xs.length ≤ B * n := Nat.mul_le_mul_left _ hn
  rw [hs]; omega
theorem decs_size {xs : List Int} (h : ∀ x ∈ xs, -1000000000000000000 < x ∧ x < 1000000000000000000) : ∀ y ∈ xs.map decB, y.size ≤ 20 := fun y hy => by
  obtain ⟨x, hx, rfl⟩ := List.mem_map.1 hy
  have := h x hx
  exact decB_size (by omega)
theorem com_jok {xs : List Int} (h : bndI xs) : jok ⟨#[44]⟩ (xs.map decB) := jok_of (B := 20) (n := 1000) rfl (by rw [List.length_map]; exact h.1) (decs_size h.2) (by decide) (by decide)
theorem jnB_le {sep : ByteArray} {B : Nat} {xs : List ByteArray} (hs : sep.size = 1) (h : ∀ x ∈ xs, x.size ≤ B) : (jnB sep xs).size ≤ (B + 1) * xs.length := by
  by_cases e : xs = []
  · subst e; exact Nat.le_refl _
  · have h1 := jnZ_le h xs.length (Nat.le_refl _)
    rw [jnB_size sep e, hs, Nat.add_mul]; omega
theorem com_size {xs : List Int} (h : ∀ x ∈ xs, -1000000000000000000 < x ∧ x < 1000000000000000000) : (comB xs).size ≤ 21 * xs.length := by
  have := jnB_le (sep := ⟨#[44]⟩) rfl (decs_size h)
  rw [List.length_map] at this
  exact this
theorem com_noB {c : UInt8} (hc : c.toNat < 44 ∨ 57 < c.toNat) (xs : List Int) : noB c (comB xs) := by
  refine noB_join (by unfold noB; simp; intro e; subst e; revert hc; decide) fun y hy => ?_
  obtain ⟨x, _, rfl⟩ := List.mem_map.1 hy
  exact decB_noB (by omega) x
theorem com_split {xs : List Int} (h : xs ≠ []) : splC 44 (comB xs) = xs.map decB := by
  refine spl_join (by simpa using h) fun y hy => ?_
  obtain ⟨x, _, rfl⟩ := List.mem_map.1 hy
  exact decB_noB (by decide) x
def dcs (s : ByteArray) : List Int := (splB ⟨#[44]⟩ s).map dcV
theorem dcs_com {xs : List Int} (h : xs ≠ []) (hb : ∀ x ∈ xs, -1000000000000000000 < x ∧ x < 1000000000000000000) : dcs (comB xs) = xs := by
  unfold dcs
  rw [splB_C, com_split h, List.map_map]
  conv => rhs; rw [← List.map_id xs]
  exact List.map_congr_left fun x hx => dcV_dec (hb x hx)
theorem com_isDec {xs : List Int} (h : xs ≠ []) (hb : ∀ x ∈ xs, -1000000000000000000 < x ∧ x < 1000000000000000000) : ∀ y ∈ splC 44 (comB xs), isDec y := fun y hy => by
  rw [com_split h] at hy
  obtain ⟨x, hx, rfl⟩ := List.mem_map.1 hy
  exact ⟨x, hb x hx, rfl⟩
theorem splB_len (c : UInt8) (s : ByteArray) : (splB ⟨#[c]⟩ s).length ≤ s.size + 1 := by
  have h1 := Lib.countB_le ⟨#[c]⟩ (Nat.le_refl 1) s.size s (Nat.le_refl _)
  have h2 := splB_length (sep := ⟨#[c]⟩) (s := s) rfl
  show (Lib.splitB ⟨#[c]⟩ 0 (Lib.countB s ⟨#[c]⟩) s).length ≤ _
  omega
theorem trsB_size (s p : ByteArray) : (trsB s p).size ≤ s.size := by
  show (Lib.trimSuffix s.data.toList p.data.toList).toArray.size ≤ s.data.size
  unfold Lib.trimSuffix
  split
  · simp
  · simp
def linB (s : ByteArray) : List ByteArray := if s = ⟨#[]⟩ then [] else splB ⟨#[10]⟩ (trsB s ⟨#[10]⟩)
def linesX : List ByteArray → Nat → ByteArray
  | _, 0 => ⟨#[]⟩
  | ls, k + 1 => linesX ls k ++ (at_ ls k ++ ⟨#[10]⟩)
theorem linesX_join {ls : List ByteArray} : ∀ {k}, k < ls.length → linesX ls (k + 1) = jnB ⟨#[10]⟩ (ls.take (k + 1)) ++ ⟨#[10]⟩
  | 0, h => by rw [linesX, linesX, nil_ba, jnB_take1 h]
  | k + 1, h => by
    rw [linesX, linesX_join (by omega), jnB_take (by omega)]
    simp only [ByteArray.append_assoc]
theorem linesX_ne {ls : List ByteArray} {k : Nat} : linesX ls (k + 1) ≠ ⟨#[]⟩ := fun e => by
  have := congrArg ByteArray.size e
  simp only [linesX, ByteArray.size_append] at this
  have h1 : (⟨#[10]⟩ : ByteArray).size = 1 := rfl
  have h2 : (⟨#[]⟩ : ByteArray).size = 0 := rfl
  omega
theorem linesX_all {ls : List ByteArray} (h : ls ≠ []) : ∃ k, ls.length = k + 1 ∧ linesX ls ls.length = jnB ⟨#[10]⟩ ls ++ ⟨#[10]⟩ := by
  obtain ⟨k, hk⟩ : ∃ k, ls.length = k + 1 := ⟨ls.length - 1, by have := List.length_pos_iff.2 h; omega⟩
  refine ⟨k, hk, ?_⟩
  rw [hk, linesX_join (by omega), ← hk, List.take_length]
theorem lin_lines {ls : List ByteArray} (hl : ∀ l ∈ ls, noB 10 l) : linB (linesX ls ls.length) = ls := by
  by_cases h : ls = []
  · subst h; simp [linB, linesX]
  · obtain ⟨k, hk, e⟩ := linesX_all h
    unfold linB
    rw [if_neg (by rw [hk]; exact linesX_ne), e, trsB_app, splB_C, spl_join h hl]
theorem suf_lines {ls : List ByteArray} (h : ls ≠ []) : sufB (linesX ls ls.length) ⟨#[10]⟩ = true := by
  obtain ⟨k, hk, e⟩ := linesX_all h
  rw [e]; exact sufB_app _ _
def linOk (s : ByteArray) : Prop := s.size ≤ 10000000 ∧ (s = ⟨#[]⟩ ∨ sufB s ⟨#[10]⟩ = true)
theorem linOk_lines {ls : List ByteArray} (hz : (linesX ls ls.length).size ≤ 10000000) : linOk (linesX ls ls.length) := by
  refine ⟨hz, ?_⟩
  by_cases h : ls = []
  · subst h; exact .inl rfl
  · exact .inr (suf_lines h)
theorem linesX_size {ls : List ByteArray} {B : Nat} (h : ∀ l ∈ ls, l.size ≤ B) : ∀ k, k ≤ ls.length → (linesX ls k).size ≤ (B + 1) * k
  | 0, _ => Nat.zero_le _
  | k + 1, hk => by
    have h1 := linesX_size h k (by omega)
    have h2 := h _ (at_mem (show k < ls.length from hk))
    have h3 : (⟨#[10]⟩ : ByteArray).size = 1 := rfl
    rw [linesX, ByteArray.size_append, ByteArray.size_append, Nat.mul_succ]; omega
theorem commasOf_ok (xs : List Int) (ok : bndI xs) : Con Tryz.prog 46 [slI false xs] true (Sv (comB xs)) := by
  refine fn_ok (fn := Tryz.f46) (nt := 20) Tryz.func46 rfl rfl rfl rfl (by simp [taggedL, tagged, tagI]) fun B hB => ?_
  refine aw_lens (x := slI false xs) 0 rfl (fun len_xs => ?_)
  simp [LenOK, LenL, cI, fI, slI] at len_xs
  refine aR [] [0] [] [slI false xs] [] [] hB trivial ?_
  refine aR [] [0, 3] [] [slI false xs, nilA] [] [] hB trivial ?_
  refine aw_seq ?_
  refine aR [] [3, 6, 7, 8] [] [nilA, slI false xs, I (xs.length : Int), I 0] [] [] hB trivial ?_
  refine aw_block ?_
  refine aw_nil hB 3 703 1 (fun _ => []) (by kernel_rfl) ?_
  refine aw_weak hB [] (T := [(3, .arr 703), (6, slI false xs), (7, I (xs.length : Int)), (8, I 0)]) (O := [(703, tAS ([] : List ByteArray))]) rfl (⟨.inl rfl, .inl rfl, .inl rfl, .inl rfl, trivial⟩) (⟨.inr ⟨rfl, (by first | rfl | (simp; done) | (simp; omega) | omega), fun i_ hi_ => absurd hi_ (Nat.not_lt_zero _)⟩, trivial⟩) ?_
  refine aw_loop (fun gn gσ => ∃ (words : List ByteArray) (k : Int), gn = ((xs.length : Int) - k).toNat ∧ (0 ≤ k ∧ k ≤ (xs.length : Int)) ∧ (words = (xs.take k.toNat).map decB) ∧ gσ = mkS [(3, .arr 703), (6, slI false xs), (7, I (xs.length : Int)), (8, I k)] [(703, tAS words)]) (((xs.length : Int) - 0).toNat) ⟨([] : List ByteArray), 0, rfl, (by omega), (by rfl), rfl⟩ (fun gn gσ hI => ?_)
  obtain ⟨words, k, rfl, hi0, hws, rfl⟩ := hI
  refine aw_seq ?_
  by_cases h1 : k < (xs.length : Int)
  ·have hi : k.toNat < xs.length := by omega
   have hob := ok.2 _ (at_mem hi)
   have okl := ok.1
   have hwl : words.length = k.toNat := by rw [hws]; simp; omega
   refine aw_r [(0, .dec true)] [3, 6, 7, 8, 9] [703] [.arr 703, slI false xs, I (xs.length : Int), I k, Bv true] [some (tAS words)] [k < (xs.length : Int)] hB ⟨h1, trivial⟩ ?_
   refine ae_then ?_
   refine aw_seq ?_
   refine aw_true rfl ?_
   refine aw_skip ?_
   refine ae_then ?_
   refine aw_seq ?_
   refine aw_block ?_
   refine aR [] [3, 5, 6, 7, 8] [703] [.arr 703, I (at_ xs k.toNat), slI false xs, I (xs.length : Int), I k] [some (tAS words)] [(0 : Int) ≤ k ∧ k < (xs.length : Int)] hB ⟨⟨(by omega), (by omega)⟩, trivial⟩ ?_
   refine aw_r [(2, .call [(true, .any)] true (Sv (decB (at_ xs k.toNat)))), (3, .new 15), (4, .new 16)] [3, 6, 7, 8] [16] [.arr 16, slI false xs, I (xs.length : Int), I k] [some (.arr 1 (words.length + 1) (catF words.length (fS words) (litF [Sv (decB (at_ xs k.toNat))] 1)))] [Con Tryz.prog 45 [I (at_ xs k.toNat)] true (Sv (decB (at_ xs k.toNat))) ∧ True, (words.length + 1) * 16 ≤ 140737488355328] hB ⟨⟨(implDecimal_ok (at_ xs k.toNat) (by omega)), trivial⟩, (by omega), trivial⟩ ?_
   refine ae_block 1 ?_
   refine ae_then ?_
   refine aw_r [] [3, 6, 7, 8] [16] [.arr 16, slI false xs, I (xs.length : Int), I (k + 1)] [some (.arr 1 (words.length + 1) (catF words.length (fS words) (litF [Sv (decB (at_ xs k.toNat))] 1)))] [inR .i64 (k + 1)] hB ⟨(inR_i64 (by omega) (by omega)), trivial⟩ ?_
   refine ae_weak hB [(703, 16)] (T := [(3, .arr 703), (6, slI false xs), (7, I (xs.length : Int)), (8, I (k + 1))]) (O := [(703, tAS (words ++ [(decB (at_ xs k.toNat))]))]) rfl (⟨.inl rfl, .inl rfl, .inl rfl, .inl rfl, trivial⟩) (⟨.inr ⟨rfl, (by first | rfl | (simp; done) | (simp; omega) | omega), fun i_ hi_ => .inl (cat_snoc (enc := cS) (xs := words) rfl i_ hi_)⟩, trivial⟩) (ae_again _ (by omega) ⟨(words ++ [(decB (at_ xs k.toNat))]), (k + 1), rfl, (by omega), (by rw [hws]; exact (mapTake_succ (by omega) hi rfl).symm), rfl⟩)
  have hfin : words = xs.map decB := by rw [hws]; exact map_all (by omega)
  refine aw_r [(0, .dec false)] [3, 6, 7, 8, 9] [703] [.arr 703, slI false xs, I (xs.length : Int), I k, Bv false] [some (tAS words)] [¬ (k < (xs.length : Int))] hB ⟨h1, trivial⟩ ?_
  refine ae_then ?_
  refine aw_seq ?_
  refine aw_false rfl ?_
  refine aw_exit ?_
  refine ae_exit_then ?_
  refine ae_exit_then ?_
  refine ae_exit_same ?_
  refine ae_then ?_
  refine aR [(1, .call [(false, slS false words), (true, .any)] true (Sv (jnB (⟨#[44]⟩ : ByteArray) words)))] [2] [] [Sv (jnB (⟨#[44]⟩ : ByteArray) words)] [] [Con Tryz.prog 101 [slS false words, Sv (⟨#[44]⟩ : ByteArray)] true (Sv (jnB (⟨#[44]⟩ : ByteArray) words)) ∧ ((false = true → true = true) ∧ 1 = 1 ∧ words.length = words.length ∧ ∀ i_, i_ < words.length → (fS words) i_ = (fS words) i_ ∨ (AV.idsL ((fS words) i_) = [] ∧ leL (fun _ => none) false ((fS words) i_) ((fS words) i_))) ∧ True] hB ⟨⟨(join_ok words (⟨#[44]⟩ : ByteArray) (by rw [hfin]; exact com_jok ok)), ⟨(fun h => by cases h), rfl, rfl, fun i _ => .inl rfl⟩, trivial⟩, trivial⟩ ?_
  refine aw_ret ?_
  refine ae_ret hB (Sv (jnB (⟨#[44]⟩ : ByteArray) words)) (by kernel_rfl) (.inl (by rw [hfin]; rfl)) rfl (fun _ => trivial)
def wC : ByteArray := ⟨#[99, 104, 97, 110, 110, 101, 108]⟩
def wS : ByteArray := ⟨#[115, 116, 114, 111, 107, 101]⟩
def wN : ByteArray := ⟨#[110, 111, 116, 101]⟩
def hdC : ByteArray := ⟨#[99, 104, 97, 110, 110, 101, 108, 32]⟩
def hdN : ByteArray := ⟨#[110, 111, 116, 101, 32]⟩
def chLn (c : Channel) : ByteArray := jnB ⟨#[32]⟩ [wC, c.Name, c.Unit, decB c.Low, decB c.High]
def ntLn (n : Note) : ByteArray := jnB ⟨#[32]⟩ [wN, decB n.From, decB n.To, n.Text]
def rwsT (rows : List (List Int)) (k : Nat) : ByteArray := jnB ⟨#[32]⟩ (wS :: (rows.take k).map comB)
def skLnF (r : Rows) : ByteArray := jnB ⟨#[32]⟩ (wS :: r.Values.map comB)
def filLns (f : File) : List ByteArray := f.Channels.map chLn ++ (f.Strokes.map skLnF ++ f.Notes.map ntLn)
def filN (f : File) : Nat := f.Channels.length + f.Strokes.length + f.Notes.length
def filTx (f : File) : ByteArray := linesX (filLns f) (filN f)
theorem filLns_len (f : File) : (filLns f).length = filN f := by simp [filLns, filN]; omega
theorem chLn_eq (c : Channel) : chLn c = (((((hdC ++ c.Name) ++ ⟨#[32]⟩) ++ c.Unit) ++ ⟨#[32]⟩) ++ decB c.Low) ++ ⟨#[32]⟩ ++ decB c.High := by
  have : hdC = wC ++ ⟨#[32]⟩ := by decide
  unfold chLn
  simp only [jnB, jrest, ba_nilT, this, ByteArray.append_assoc]
theorem ntLn_eq (n : Note) : ntLn n = (((hdN ++ decB n.From) ++ ⟨#[32]⟩) ++ decB n.To) ++ ⟨#[32]⟩ ++ n.Text := by
  have : hdN = wN ++ ⟨#[32]⟩ := by decide
  unfold ntLn
  simp only [jnB, jrest, ba_nilT, this, ByteArray.append_assoc]
theorem rwsT_0 (rows : List (List Int)) : rwsT rows 0 = wS := by simp [rwsT, jnB, jrest, ba_nilT]
theorem rwsT_1 {rows : List (List Int)} {k : Nat} (h : k < rows.length) : rwsT rows (k + 1) = rwsT rows k ++ ((⟨#[32]⟩ : ByteArray) ++ comB (at_ rows k)) := by
  unfold rwsT
  rw [List.take_succ_eq_append_getElem h, List.map_append, ← at_eq h, ← List.cons_append, List.map_cons, List.map_nil, jnB_snoc (by simp), ByteArray.append_assoc]
theorem rwsT_all {r : Rows} {k : Nat} (h : r.Values.length ≤ k) : rwsT r.Values k = skLnF r := by unfold rwsT skLnF; rw [List.take_of_length_le h]
theorem fl_at1 {f : File} {k : Nat} (h : k < f.Channels.length) : at_ (filLns f) k = chLn (at_ f.Channels k) := by
  unfold filLns
  rw [at_left (by simpa using h), at_mapB h]
theorem fl_at2 {f : File} {k : Nat} (h : k < f.Strokes.length) : at_ (filLns f) (f.Channels.length + k) = skLnF (at_ f.Strokes k) := by
  unfold filLns
  rw [at_right (by simp), List.length_map, Nat.add_sub_cancel_left, at_left (by simpa using h), at_mapB h]
theorem fl_at3 {f : File} {k : Nat} (h : k < f.Notes.length) : at_ (filLns f) (f.Channels.length + f.Strokes.length + k) = ntLn (at_ f.Notes k) := by
  unfold filLns
  rw [at_right (by simp; omega), List.length_map, show f.Channels.length + f.Strokes.length + k - f.Channels.length = f.Strokes.length + k from by omega, at_right (by simp), List.length_map, Nat.add_sub_cancel_left, at_mapB h]
theorem rw_bd {cs : List Channel} {row : List Int} (hc : ∀ c ∈ cs, okChan c) (h : okRw cs row) : ∀ x ∈ row, -1000000000 ≤ x ∧ x ≤ 1000000000 := fun x hx => by
  obtain ⟨j, hj, e⟩ := List.getElem_of_mem hx
  have h1 := h.2 j (by rw [← h.1]; exact hj)
  have h2 := (hc _ (at_mem (show j < cs.length by rw [← h.1]; exact hj))).2.2
  rw [at_eq hj, e] at h1
  omega
theorem rw_bnd {cs : List Channel} {row : List Int} (hc : ∀ c ∈ cs, okChan c) (h6 : cs.length ≤ 6) (h : okRw cs row) : bndI row := ⟨by rw [h.1]; omega, fun x hx => by have := rw_bd hc h x hx; omega⟩
theorem com_le {cs : List Channel} {row : List Int} (hc : ∀ c ∈ cs, okChan c) (h6 : cs.length ≤ 6) (h : okRw cs row) : (comB row).size ≤ 126 := by
  have h1 := jnB_le (sep := ⟨#[44]⟩) rfl (decs_size (rw_bnd hc h6 h).2)
  rw [List.length_map, h.1] at h1
  unfold comB
  omega
theorem rwsT_size {cs : List Channel} {rows : List (List Int)} (hc : ∀ c ∈ cs, okChan c) (h6 : cs.length ≤ 6) (h : ∀ row ∈ rows, okRw cs row) : ∀ k, k ≤ rows.length → (rwsT rows k).size ≤ 6 + 127 * k
  | 0, _ => by rw [rwsT_0]; decide
  | k + 1, hk => by
    have h1 := rwsT_size hc h6 h k (by omega)
    have h2 := com_le hc h6 (h _ (at_mem (show k < rows.length by omega)))
    have e2 : (⟨#[32]⟩ : ByteArray).size = 1 := rfl
    rw [rwsT_1 (by omega)]
    simp only [ByteArray.size_append]
    omega
theorem filLns_size {f : File} (h : okFil f) : ∀ y ∈ filLns f, y.size ≤ 7700 := fun y hy => by
  have e2 : (⟨#[32]⟩ : ByteArray).size = 1 := rfl
  have e3 : hdC.size = 8 := rfl
  have e4 : hdN.size = 5 := rfl
  unfold filLns at hy
  rcases List.mem_append.1 hy with q | q
  · obtain ⟨c, hc, rfl⟩ := List.mem_map.1 q
    have ho := h.2.1 c hc
    have a := ho.1.1; have b := ho.2.1.1
    have d1 := decB_size (n := c.Low) (by have := ho.2.2; omega)
    have d2 := decB_size (n := c.High) (by have := ho.2.2; omega)
    rw [chLn_eq]
    simp only [ByteArray.size_append]
    omega
  · rcases List.mem_append.1 q with q | q
    · obtain ⟨r, hr, rfl⟩ := List.mem_map.1 q
      have ho := h.2.2.2.1 r hr
      have := rwsT_size h.2.1 h.1.1.2 ho.2 r.Values.length (Nat.le_refl _)
      rw [rwsT_all (Nat.le_refl _)] at this
      have := ho.1
      omega
    · obtain ⟨n, hn, rfl⟩ := List.mem_map.1 q
      have ho := h.2.2.2.2 n hn
      have a := ho.2.1
      have hs := h.1.2.1
      have d1 := decB_size (n := n.From) (by have := ho.1; omega)
      have d2 := decB_size (n := n.To) (by have := ho.1; omega)
      rw [ntLn_eq]
      simp only [ByteArray.size_append]
      omega
theorem filL_size {f : File} (h : okFil f) {k : Nat} (hk : k ≤ filN f) : (linesX (filLns f) k).size ≤ 300000 := by
  have h1 := linesX_size (filLns_size h) k (by rw [filLns_len]; exact hk)
  have := h.1
  unfold filN at hk
  have : (7700 + 1) * k ≤ 7701 * 34 := Nat.mul_le_mul (by omega) (by omega)
  omega
theorem FileText_ok (f : File) (hok : okFil f) : Con Tryz.prog 15 [agFile f] true (Sv (filTx f)) := by
  have hf1 := hok.1
  have h00 : (⟨#[]⟩ : ByteArray).size = 0 := rfl
  have h10 : (⟨#[10]⟩ : ByteArray).size = 1 := rfl
  have h32 : (⟨#[32]⟩ : ByteArray).size = 1 := rfl
  have hq1 : (⟨#[99, 104, 97, 110, 110, 101, 108, 32]⟩ : ByteArray).size = 8 := rfl
  have hq2 : (⟨#[115, 116, 114, 111, 107, 101]⟩ : ByteArray).size = 6 := rfl
  have hq3 : (⟨#[110, 111, 116, 101, 32]⟩ : ByteArray).size = 5 := rfl
  refine fn_ok (fn := Tryz.f15) (nt := 88) Tryz.func15 rfl rfl rfl rfl (by simp [taggedL, tagged, tagChannel, tagNote, tagRows]) fun B hB => ?_
  refine aw_lens (x := agFile f) 0 rfl (fun len_f => ?_)
  simp [LenOK, LenL, cChannel, cI, cLI, cNote, cRows, fChannel, fI, fLI, fNote, fRows, slChannel, slI, slLI, slNote, slRows] at len_f
  refine aR [(0, .new 1)] [1] [1] [.ref 1 0] [some (bxFile f)] [] hB trivial ?_
  refine aw_seq ?_
  refine aR [(1, .call [(true, .any)] true (Bv true))] [1, 14] [1] [.ref 1 0, Bv false] [some (bxFile f)] [Con Tryz.prog 32 [agFile f] true (Bv true) ∧ True] hB ⟨⟨(ValidFile_ok f hok), trivial⟩, trivial⟩ ?_
  refine aw_false rfl ?_
  refine aw_skip ?_
  refine ae_then ?_
  refine aR [(0, .newb 3 60006 5)] [1, 3] [1, 3, 60006] [.ref 1 0, .ref 3 0] [some (bxFile f), some (.bld 104 60006), some (.buf 5 false (⟨#[]⟩ : ByteArray))] [] hB trivial ?_
  refine aw_seq ?_
  refine aR [] [1, 3, 16, 17, 18] [1, 3, 60006] [.ref 1 0, .ref 3 0, slChannel false f.Channels, I (f.Channels.length : Int), I 0] [some (bxFile f), some (.bld 104 60006), some (.buf 5 false (⟨#[]⟩ : ByteArray))] [] hB trivial ?_
  refine aw_block ?_
  refine aw_loop (fun gn gσ => ∃ (t18 : Int) (tx : ByteArray), gn = ((f.Channels.length : Int) - t18).toNat ∧ (0 ≤ t18 ∧ t18 ≤ (f.Channels.length : Int)) ∧ (tx = linesX (filLns f) t18.toNat) ∧ gσ = mkS [(1, .ref 1 0), (3, .ref 3 0), (16, slChannel false f.Channels), (17, I (f.Channels.length : Int)), (18, I t18)] [(1, bxFile f), (3, .bld 104 60006), (60006, .buf 5 false tx)]) (((f.Channels.length : Int) - 0).toNat) ⟨0, (⟨#[]⟩ : ByteArray), rfl, (by omega), (by rfl), rfl⟩ (fun gn gσ hI => ?_)
  obtain ⟨t18, tx, rfl, hi0, htx, rfl⟩ := hI
  refine aw_seq ?_
  by_cases h1 : t18 < (f.Channels.length : Int)
  ·have hi : t18.toNat < f.Channels.length := by omega
   have ho := hok.2.1 _ (at_mem hi)
   have hoa := ho.1.1
   have hob := ho.2.1.1
   have hoc := ho.2.2
   have hd1 := decB_size (n := (at_ f.Channels t18.toNat).Low) (by omega)
   have hd2 := decB_size (n := (at_ f.Channels t18.toNat).High) (by omega)
   have hzl := filL_size hok (k := t18.toNat) (by unfold filN; omega)
   rw [← htx] at hzl
   have hks : (t18 + 1).toNat = t18.toNat + 1 := by omega
   refine aw_r [(0, .dec true)] [1, 3, 16, 17, 18, 19] [1, 3, 60006] [.ref 1 0, .ref 3 0, slChannel false f.Channels, I (f.Channels.length : Int), I t18, Bv true] [some (bxFile f), some (.bld 104 60006), some (.buf 5 false tx)] [t18 < (f.Channels.length : Int)] hB ⟨h1, trivial⟩ ?_
   refine ae_then ?_
   refine aw_seq ?_
   refine aw_true rfl ?_
   refine aw_skip ?_
   refine ae_then ?_
   refine aw_seq ?_
   refine aw_block ?_
   refine aR [(2, .new 5)] [1, 3, 5, 16, 17, 18] [1, 3, 5, 60006] [.ref 1 0, .ref 3 0, .ref 5 0, slChannel false f.Channels, I (f.Channels.length : Int), I t18] [some (bxFile f), some (.bld 104 60006), some (bxChannel (at_ f.Channels t18.toNat)), some (.buf 5 false tx)] [(0 : Int) ≤ t18 ∧ t18 < (f.Channels.length : Int)] hB ⟨⟨(by omega), (by omega)⟩, trivial⟩ ?_
   refine aw_r [(10, .call [(true, .any)] true (Sv (decB ((at_ f.Channels t18.toNat).Low)))), (15, .call [(true, .any)] true (Sv (decB ((at_ f.Channels t18.toNat).High)))), (18, .bw 3 60006 60007 (.string (((((((((⟨#[99, 104, 97, 110, 110, 101, 108, 32]⟩ : ByteArray) ++ ((at_ f.Channels t18.toNat).Name)) ++ (⟨#[32]⟩ : ByteArray)) ++ ((at_ f.Channels t18.toNat).Unit)) ++ (⟨#[32]⟩ : ByteArray)) ++ (decB ((at_ f.Channels t18.toNat).Low))) ++ (⟨#[32]⟩ : ByteArray)) ++ (decB ((at_ f.Channels t18.toNat).High))) ++ (⟨#[10]⟩ : ByteArray))) false (((((((((⟨#[99, 104, 97, 110, 110, 101, 108, 32]⟩ : ByteArray) ++ ((at_ f.Channels t18.toNat).Name)) ++ (⟨#[32]⟩ : ByteArray)) ++ ((at_ f.Channels t18.toNat).Unit)) ++ (⟨#[32]⟩ : ByteArray)) ++ (decB ((at_ f.Channels t18.toNat).Low))) ++ (⟨#[32]⟩ : ByteArray)) ++ (decB ((at_ f.Channels t18.toNat).High))) ++ (⟨#[10]⟩ : ByteArray)))] [1, 3, 16, 17, 18] [1, 3, 60007] [.ref 1 0, .ref 3 0, slChannel false f.Channels, I (f.Channels.length : Int), I t18] [some (bxFile f), some (.bld 104 60007), some (.buf 5 false (tx ++ (((((((((⟨#[99, 104, 97, 110, 110, 101, 108, 32]⟩ : ByteArray) ++ ((at_ f.Channels t18.toNat).Name)) ++ (⟨#[32]⟩ : ByteArray)) ++ ((at_ f.Channels t18.toNat).Unit)) ++ (⟨#[32]⟩ : ByteArray)) ++ (decB ((at_ f.Channels t18.toNat).Low))) ++ (⟨#[32]⟩ : ByteArray)) ++ (decB ((at_ f.Channels t18.toNat).High))) ++ (⟨#[10]⟩ : ByteArray))))] [(⟨#[99, 104, 97, 110, 110, 101, 108, 32]⟩ : ByteArray).size + ((at_ f.Channels t18.toNat).Name).size ≤ 9223372036854775807, ((⟨#[99, 104, 97, 110, 110, 101, 108, 32]⟩ : ByteArray) ++ ((at_ f.Channels t18.toNat).Name)).size + (⟨#[32]⟩ : ByteArray).size ≤ 9223372036854775807, (((⟨#[99, 104, 97, 110, 110, 101, 108, 32]⟩ : ByteArray) ++ ((at_ f.Channels t18.toNat).Name)) ++ (⟨#[32]⟩ : ByteArray)).size + ((at_ f.Channels t18.toNat).Unit).size ≤ 9223372036854775807, ((((⟨#[99, 104, 97, 110, 110, 101, 108, 32]⟩ : ByteArray) ++ ((at_ f.Channels t18.toNat).Name)) ++ (⟨#[32]⟩ : ByteArray)) ++ ((at_ f.Channels t18.toNat).Unit)).size + (⟨#[32]⟩ : ByteArray).size ≤ 9223372036854775807, Con Tryz.prog 45 [I ((at_ f.Channels t18.toNat).Low)] true (Sv (decB ((at_ f.Channels t18.toNat).Low))) ∧ True, (((((⟨#[99, 104, 97, 110, 110, 101, 108, 32]⟩ : ByteArray) ++ ((at_ f.Channels t18.toNat).Name)) ++ (⟨#[32]⟩ : ByteArray)) ++ ((at_ f.Channels t18.toNat).Unit)) ++ (⟨#[32]⟩ : ByteArray)).size + (decB ((at_ f.Channels t18.toNat).Low)).size ≤ 9223372036854775807, ((((((⟨#[99, 104, 97, 110, 110, 101, 108, 32]⟩ : ByteArray) ++ ((at_ f.Channels t18.toNat).Name)) ++ (⟨#[32]⟩ : ByteArray)) ++ ((at_ f.Channels t18.toNat).Unit)) ++ (⟨#[32]⟩ : ByteArray)) ++ (decB ((at_ f.Channels t18.toNat).Low))).size + (⟨#[32]⟩ : ByteArray).size ≤ 9223372036854775807, Con Tryz.prog 45 [I ((at_ f.Channels t18.toNat).High)] true (Sv (decB ((at_ f.Channels t18.toNat).High))) ∧ True, (((((((⟨#[99, 104, 97, 110, 110, 101, 108, 32]⟩ : ByteArray) ++ ((at_ f.Channels t18.toNat).Name)) ++ (⟨#[32]⟩ : ByteArray)) ++ ((at_ f.Channels t18.toNat).Unit)) ++ (⟨#[32]⟩ : ByteArray)) ++ (decB ((at_ f.Channels t18.toNat).Low))) ++ (⟨#[32]⟩ : ByteArray)).size + (decB ((at_ f.Channels t18.toNat).High)).size ≤ 9223372036854775807, ((((((((⟨#[99, 104, 97, 110, 110, 101, 108, 32]⟩ : ByteArray) ++ ((at_ f.Channels t18.toNat).Name)) ++ (⟨#[32]⟩ : ByteArray)) ++ ((at_ f.Channels t18.toNat).Unit)) ++ (⟨#[32]⟩ : ByteArray)) ++ (decB ((at_ f.Channels t18.toNat).Low))) ++ (⟨#[32]⟩ : ByteArray)) ++ (decB ((at_ f.Channels t18.toNat).High))).size + (⟨#[10]⟩ : ByteArray).size ≤ 9223372036854775807, ([.ref 3 0, Sv (((((((((⟨#[99, 104, 97, 110, 110, 101, 108, 32]⟩ : ByteArray) ++ ((at_ f.Channels t18.toNat).Name)) ++ (⟨#[32]⟩ : ByteArray)) ++ ((at_ f.Channels t18.toNat).Unit)) ++ (⟨#[32]⟩ : ByteArray)) ++ (decB ((at_ f.Channels t18.toNat).Low))) ++ (⟨#[32]⟩ : ByteArray)) ++ (decB ((at_ f.Channels t18.toNat).High))) ++ (⟨#[10]⟩ : ByteArray))] : List AV) = [.ref 3 0, Sv (((((((((⟨#[99, 104, 97, 110, 110, 101, 108, 32]⟩ : ByteArray) ++ ((at_ f.Channels t18.toNat).Name)) ++ (⟨#[32]⟩ : ByteArray)) ++ ((at_ f.Channels t18.toNat).Unit)) ++ (⟨#[32]⟩ : ByteArray)) ++ (decB ((at_ f.Channels t18.toNat).Low))) ++ (⟨#[32]⟩ : ByteArray)) ++ (decB ((at_ f.Channels t18.toNat).High))) ++ (⟨#[10]⟩ : ByteArray))] ∧ BwOK Tryz.prog 44 104 5 (.string (((((((((⟨#[99, 104, 97, 110, 110, 101, 108, 32]⟩ : ByteArray) ++ ((at_ f.Channels t18.toNat).Name)) ++ (⟨#[32]⟩ : ByteArray)) ++ ((at_ f.Channels t18.toNat).Unit)) ++ (⟨#[32]⟩ : ByteArray)) ++ (decB ((at_ f.Channels t18.toNat).Low))) ++ (⟨#[32]⟩ : ByteArray)) ++ (decB ((at_ f.Channels t18.toNat).High))) ++ (⟨#[10]⟩ : ByteArray))) false tx false (((((((((⟨#[99, 104, 97, 110, 110, 101, 108, 32]⟩ : ByteArray) ++ ((at_ f.Channels t18.toNat).Name)) ++ (⟨#[32]⟩ : ByteArray)) ++ ((at_ f.Channels t18.toNat).Unit)) ++ (⟨#[32]⟩ : ByteArray)) ++ (decB ((at_ f.Channels t18.toNat).Low))) ++ (⟨#[32]⟩ : ByteArray)) ++ (decB ((at_ f.Channels t18.toNat).High))) ++ (⟨#[10]⟩ : ByteArray))] hB ⟨(by (try simp only [ByteArray.size_append]); omega), (by (try simp only [ByteArray.size_append]); omega), (by (try simp only [ByteArray.size_append]); omega), (by (try simp only [ByteArray.size_append]); omega), ⟨(implDecimal_ok ((at_ f.Channels t18.toNat).Low) (by omega)), trivial⟩, (by (try simp only [ByteArray.size_append]); omega), (by (try simp only [ByteArray.size_append]); omega), ⟨(implDecimal_ok ((at_ f.Channels t18.toNat).High) (by omega)), trivial⟩, (by (try simp only [ByteArray.size_append]); omega), (by (try simp only [ByteArray.size_append]); omega), ⟨rfl, bw_ok (by (try simp only [ByteArray.size_append]); omega)⟩, trivial⟩ ?_
   refine ae_block 1 ?_
   refine ae_then ?_
   refine aw_r [] [1, 3, 16, 17, 18] [1, 3, 60007] [.ref 1 0, .ref 3 0, slChannel false f.Channels, I (f.Channels.length : Int), I (t18 + 1)] [some (bxFile f), some (.bld 104 60007), some (.buf 5 false (tx ++ (((((((((⟨#[99, 104, 97, 110, 110, 101, 108, 32]⟩ : ByteArray) ++ ((at_ f.Channels t18.toNat).Name)) ++ (⟨#[32]⟩ : ByteArray)) ++ ((at_ f.Channels t18.toNat).Unit)) ++ (⟨#[32]⟩ : ByteArray)) ++ (decB ((at_ f.Channels t18.toNat).Low))) ++ (⟨#[32]⟩ : ByteArray)) ++ (decB ((at_ f.Channels t18.toNat).High))) ++ (⟨#[10]⟩ : ByteArray))))] [inR .i64 (t18 + 1)] hB ⟨(inR_i64 (by omega) (by omega)), trivial⟩ ?_
   refine ae_weak hB [(60006, 60007)] (T := [(1, .ref 1 0), (3, .ref 3 0), (16, slChannel false f.Channels), (17, I (f.Channels.length : Int)), (18, I (t18 + 1))]) (O := [(1, bxFile f), (3, .bld 104 60006), (60006, .buf 5 false (tx ++ (((((((((⟨#[99, 104, 97, 110, 110, 101, 108, 32]⟩ : ByteArray) ++ ((at_ f.Channels t18.toNat).Name)) ++ (⟨#[32]⟩ : ByteArray)) ++ ((at_ f.Channels t18.toNat).Unit)) ++ (⟨#[32]⟩ : ByteArray)) ++ (decB ((at_ f.Channels t18.toNat).Low))) ++ (⟨#[32]⟩ : ByteArray)) ++ (decB ((at_ f.Channels t18.toNat).High))) ++ (⟨#[10]⟩ : ByteArray))))]) rfl (⟨.inl rfl, .inl rfl, .inl rfl, .inl rfl, .inl rfl, trivial⟩) (⟨.inl rfl, .inl rfl, .inl rfl, trivial⟩) (ae_again _ (by omega) ⟨(t18 + 1), (tx ++ (((((((((⟨#[99, 104, 97, 110, 110, 101, 108, 32]⟩ : ByteArray) ++ ((at_ f.Channels t18.toNat).Name)) ++ (⟨#[32]⟩ : ByteArray)) ++ ((at_ f.Channels t18.toNat).Unit)) ++ (⟨#[32]⟩ : ByteArray)) ++ (decB ((at_ f.Channels t18.toNat).Low))) ++ (⟨#[32]⟩ : ByteArray)) ++ (decB ((at_ f.Channels t18.toNat).High))) ++ (⟨#[10]⟩ : ByteArray))), rfl, (by omega), (by rw [hks, linesX, fl_at1 hi, ← htx, chLn_eq]; simp only [hdC, ByteArray.append_assoc]), rfl⟩)
  have hke : t18.toNat = f.Channels.length := by omega
  rw [hke] at htx
  refine aw_r [(0, .dec false)] [1, 3, 16, 17, 18, 19] [1, 3, 60006] [.ref 1 0, .ref 3 0, slChannel false f.Channels, I (f.Channels.length : Int), I t18, Bv false] [some (bxFile f), some (.bld 104 60006), some (.buf 5 false tx)] [¬ (t18 < (f.Channels.length : Int))] hB ⟨h1, trivial⟩ ?_
  refine ae_then ?_
  refine aw_seq ?_
  refine aw_false rfl ?_
  refine aw_exit ?_
  refine ae_exit_then ?_
  refine ae_exit_then ?_
  refine ae_exit_same ?_
  refine ae_then ?_
  refine aw_seq ?_
  refine aR [] [1, 3, 43, 44, 45] [1, 3, 60006] [.ref 1 0, .ref 3 0, slRows false f.Strokes, I (f.Strokes.length : Int), I 0] [some (bxFile f), some (.bld 104 60006), some (.buf 5 false tx)] [] hB trivial ?_
  refine aw_block ?_
  refine aw_loop (fun gn gσ => ∃ (t45 : Int) (tx2 : ByteArray), gn = ((f.Strokes.length : Int) - t45).toNat ∧ (0 ≤ t45 ∧ t45 ≤ (f.Strokes.length : Int)) ∧ (tx2 = linesX (filLns f) (f.Channels.length + t45.toNat)) ∧ gσ = mkS [(1, .ref 1 0), (3, .ref 3 0), (43, slRows false f.Strokes), (44, I (f.Strokes.length : Int)), (45, I t45)] [(1, bxFile f), (3, .bld 104 60006), (60006, .buf 5 false tx2)]) (((f.Strokes.length : Int) - 0).toNat) ⟨0, tx, rfl, (by omega), (by exact htx), rfl⟩ (fun gn gσ hI => ?_)
  obtain ⟨t45, tx2, rfl, hi0, htx2, rfl⟩ := hI
  refine aw_seq ?_
  by_cases h2 : t45 < (f.Strokes.length : Int)
  ·have hi : t45.toNat < f.Strokes.length := by omega
   have ho := hok.2.2.2.1 _ (at_mem hi)
   have hon := ho.1
   have hzl := filL_size hok (k := f.Channels.length + t45.toNat) (by unfold filN; omega)
   rw [← htx2] at hzl
   have hks : f.Channels.length + (t45 + 1).toNat = f.Channels.length + t45.toNat + 1 := by omega
   refine aw_r [(0, .dec true)] [1, 3, 43, 44, 45, 46] [1, 3, 60006] [.ref 1 0, .ref 3 0, slRows false f.Strokes, I (f.Strokes.length : Int), I t45, Bv true] [some (bxFile f), some (.bld 104 60006), some (.buf 5 false tx2)] [t45 < (f.Strokes.length : Int)] hB ⟨h2, trivial⟩ ?_
   refine ae_then ?_
   refine aw_seq ?_
   refine aw_true rfl ?_
   refine aw_skip ?_
   refine ae_then ?_
   refine aw_seq ?_
   refine aw_block ?_
   refine aR [(2, .new 7)] [1, 3, 7, 43, 44, 45] [1, 3, 7, 60006] [.ref 1 0, .ref 3 0, .ref 7 0, slRows false f.Strokes, I (f.Strokes.length : Int), I t45] [some (bxFile f), some (.bld 104 60006), some (.box [slLI false ((at_ f.Strokes t45.toNat).Values)]), some (.buf 5 false tx2)] [(0 : Int) ≤ t45 ∧ t45 < (f.Strokes.length : Int)] hB ⟨⟨(by omega), (by omega)⟩, trivial⟩ ?_
   refine aR [(0, .bw 3 60006 60007 (.string (⟨#[115, 116, 114, 111, 107, 101]⟩ : ByteArray)) false (⟨#[115, 116, 114, 111, 107, 101]⟩ : ByteArray))] [1, 3, 7, 43, 44, 45] [1, 3, 7, 60007] [.ref 1 0, .ref 3 0, .ref 7 0, slRows false f.Strokes, I (f.Strokes.length : Int), I t45] [some (bxFile f), some (.bld 104 60007), some (.box [slLI false ((at_ f.Strokes t45.toNat).Values)]), some (.buf 5 false (tx2 ++ (⟨#[115, 116, 114, 111, 107, 101]⟩ : ByteArray)))] [([.ref 3 0, Sv (⟨#[115, 116, 114, 111, 107, 101]⟩ : ByteArray)] : List AV) = [.ref 3 0, Sv (⟨#[115, 116, 114, 111, 107, 101]⟩ : ByteArray)] ∧ BwOK Tryz.prog 44 104 5 (.string (⟨#[115, 116, 114, 111, 107, 101]⟩ : ByteArray)) false tx2 false (⟨#[115, 116, 114, 111, 107, 101]⟩ : ByteArray)] hB ⟨⟨rfl, bw_ok (by (try simp only [ByteArray.size_append]); omega)⟩, trivial⟩ ?_
   refine aw_seq ?_
   refine aR [] [1, 3, 43, 44, 45, 51, 52, 53] [1, 3, 60007] [.ref 1 0, .ref 3 0, slRows false f.Strokes, I (f.Strokes.length : Int), I t45, slLI false ((at_ f.Strokes t45.toNat).Values), I ((((at_ f.Strokes t45.toNat).Values).length) : Int), I 0] [some (bxFile f), some (.bld 104 60007), some (.buf 5 false (tx2 ++ (⟨#[115, 116, 114, 111, 107, 101]⟩ : ByteArray)))] [] hB trivial ?_
   refine aw_block ?_
   refine aw_loop (fun gn gσ => ∃ (t53 : Int) (tx3 : ByteArray), gn = (((at_ f.Strokes t45.toNat).Values.length : Int) - t53).toNat ∧ (0 ≤ t53 ∧ t53 ≤ ((at_ f.Strokes t45.toNat).Values.length : Int)) ∧ (tx3 = linesX (filLns f) (f.Channels.length + t45.toNat) ++ rwsT (at_ f.Strokes t45.toNat).Values t53.toNat) ∧ gσ = mkS [(1, .ref 1 0), (3, .ref 3 0), (43, slRows false f.Strokes), (44, I (f.Strokes.length : Int)), (45, I t45), (51, slLI false ((at_ f.Strokes t45.toNat).Values)), (52, I ((((at_ f.Strokes t45.toNat).Values).length) : Int)), (53, I t53)] [(1, bxFile f), (3, .bld 104 60007), (60007, .buf 5 false tx3)]) ((((at_ f.Strokes t45.toNat).Values.length : Int) - 0).toNat) ⟨0, (tx2 ++ (⟨#[115, 116, 114, 111, 107, 101]⟩ : ByteArray)), rfl, (by omega), (by rw [← htx2]; exact congrArg (tx2 ++ ·) (rwsT_0 _).symm), rfl⟩ (fun gn gσ hI => ?_)
   obtain ⟨t53, tx3, rfl, hk0, htx3, rfl⟩ := hI
   refine aw_seq ?_
   by_cases h3 : t53 < ((((at_ f.Strokes t45.toNat).Values).length) : Int)
   ·have hk : t53.toNat < (at_ f.Strokes t45.toNat).Values.length := by omega
    have hrw := ho.2 _ (at_mem hk)
    have hcz := com_le hok.2.1 hok.1.1.2 hrw
    have hrz := rwsT_size hok.2.1 hok.1.1.2 ho.2 t53.toNat (by omega)
    have hqz : tx3.size ≤ 310000 := by rw [htx3, ByteArray.size_append, ← htx2]; omega
    have hkk : (t53 + 1).toNat = t53.toNat + 1 := by omega
    refine aw_r [(0, .dec true)] [1, 3, 43, 44, 45, 51, 52, 53, 54] [1, 3, 60007] [.ref 1 0, .ref 3 0, slRows false f.Strokes, I (f.Strokes.length : Int), I t45, slLI false ((at_ f.Strokes t45.toNat).Values), I ((((at_ f.Strokes t45.toNat).Values).length) : Int), I t53, Bv true] [some (bxFile f), some (.bld 104 60007), some (.buf 5 false tx3)] [t53 < ((((at_ f.Strokes t45.toNat).Values).length) : Int)] hB ⟨h3, trivial⟩ ?_
    refine ae_then ?_
    refine aw_seq ?_
    refine aw_true rfl ?_
    refine aw_skip ?_
    refine ae_then ?_
    refine aw_seq ?_
    refine aw_block ?_
    refine aR [] [1, 3, 9, 43, 44, 45, 51, 52, 53] [1, 3, 60007] [.ref 1 0, .ref 3 0, slI false (at_ ((at_ f.Strokes t45.toNat).Values) t53.toNat), slRows false f.Strokes, I (f.Strokes.length : Int), I t45, slLI false ((at_ f.Strokes t45.toNat).Values), I ((((at_ f.Strokes t45.toNat).Values).length) : Int), I t53] [some (bxFile f), some (.bld 104 60007), some (.buf 5 false tx3)] [(0 : Int) ≤ t53 ∧ t53 < ((((at_ f.Strokes t45.toNat).Values).length) : Int)] hB ⟨⟨(by omega), (by omega)⟩, trivial⟩ ?_
    refine aw_r [(1, .call [(true, .any)] true (Sv (comB (at_ ((at_ f.Strokes t45.toNat).Values) t53.toNat)))), (3, .bw 3 60007 60006 (.string ((⟨#[32]⟩ : ByteArray) ++ (comB (at_ ((at_ f.Strokes t45.toNat).Values) t53.toNat)))) false ((⟨#[32]⟩ : ByteArray) ++ (comB (at_ ((at_ f.Strokes t45.toNat).Values) t53.toNat))))] [1, 3, 43, 44, 45, 51, 52, 53] [1, 3, 60006] [.ref 1 0, .ref 3 0, slRows false f.Strokes, I (f.Strokes.length : Int), I t45, slLI false ((at_ f.Strokes t45.toNat).Values), I ((((at_ f.Strokes t45.toNat).Values).length) : Int), I t53] [some (bxFile f), some (.bld 104 60006), some (.buf 5 false (tx3 ++ ((⟨#[32]⟩ : ByteArray) ++ (comB (at_ ((at_ f.Strokes t45.toNat).Values) t53.toNat)))))] [Con Tryz.prog 46 [slI false (at_ ((at_ f.Strokes t45.toNat).Values) t53.toNat)] true (Sv (comB (at_ ((at_ f.Strokes t45.toNat).Values) t53.toNat))) ∧ True, (⟨#[32]⟩ : ByteArray).size + (comB (at_ ((at_ f.Strokes t45.toNat).Values) t53.toNat)).size ≤ 9223372036854775807, ([.ref 3 0, Sv ((⟨#[32]⟩ : ByteArray) ++ (comB (at_ ((at_ f.Strokes t45.toNat).Values) t53.toNat)))] : List AV) = [.ref 3 0, Sv ((⟨#[32]⟩ : ByteArray) ++ (comB (at_ ((at_ f.Strokes t45.toNat).Values) t53.toNat)))] ∧ BwOK Tryz.prog 44 104 5 (.string ((⟨#[32]⟩ : ByteArray) ++ (comB (at_ ((at_ f.Strokes t45.toNat).Values) t53.toNat)))) false tx3 false ((⟨#[32]⟩ : ByteArray) ++ (comB (at_ ((at_ f.Strokes t45.toNat).Values) t53.toNat)))] hB ⟨⟨(commasOf_ok (at_ ((at_ f.Strokes t45.toNat).Values) t53.toNat) (rw_bnd hok.2.1 hok.1.1.2 hrw)), trivial⟩, (by (try simp only [ByteArray.size_append]); omega), ⟨rfl, bw_ok (by (try simp only [ByteArray.size_append]); omega)⟩, trivial⟩ ?_
    refine ae_block 5 ?_
    refine ae_then ?_
    refine aw_r [] [1, 3, 43, 44, 45, 51, 52, 53] [1, 3, 60006] [.ref 1 0, .ref 3 0, slRows false f.Strokes, I (f.Strokes.length : Int), I t45, slLI false ((at_ f.Strokes t45.toNat).Values), I ((((at_ f.Strokes t45.toNat).Values).length) : Int), I (t53 + 1)] [some (bxFile f), some (.bld 104 60006), some (.buf 5 false (tx3 ++ ((⟨#[32]⟩ : ByteArray) ++ (comB (at_ ((at_ f.Strokes t45.toNat).Values) t53.toNat)))))] [inR .i64 (t53 + 1)] hB ⟨(inR_i64 (by omega) (by omega)), trivial⟩ ?_
    refine ae_weak hB [(60007, 60006)] (T := [(1, .ref 1 0), (3, .ref 3 0), (43, slRows false f.Strokes), (44, I (f.Strokes.length : Int)), (45, I t45), (51, slLI false ((at_ f.Strokes t45.toNat).Values)), (52, I ((((at_ f.Strokes t45.toNat).Values).length) : Int)), (53, I (t53 + 1))]) (O := [(1, bxFile f), (3, .bld 104 60007), (60007, .buf 5 false (tx3 ++ ((⟨#[32]⟩ : ByteArray) ++ (comB (at_ ((at_ f.Strokes t45.toNat).Values) t53.toNat)))))]) rfl (⟨.inl rfl, .inl rfl, .inl rfl, .inl rfl, .inl rfl, .inl rfl, .inl rfl, .inl rfl, trivial⟩) (⟨.inl rfl, .inl rfl, .inl rfl, trivial⟩) (ae_again _ (by omega) ⟨(t53 + 1), (tx3 ++ ((⟨#[32]⟩ : ByteArray) ++ (comB (at_ ((at_ f.Strokes t45.toNat).Values) t53.toNat)))), rfl, (by omega), (by rw [hkk, rwsT_1 hk, htx3]; simp only [ByteArray.append_assoc]), rfl⟩)
   have hrz := rwsT_size hok.2.1 hok.1.1.2 ho.2 t53.toNat (by omega)
   have hqz : tx3.size ≤ 310000 := by rw [htx3, ByteArray.size_append, ← htx2]; omega
   have hke2 : (at_ f.Strokes t45.toNat).Values.length ≤ t53.toNat := by omega
   rw [rwsT_all hke2] at htx3
   refine aw_r [(0, .dec false)] [1, 3, 43, 44, 45, 51, 52, 53, 54] [1, 3, 60007] [.ref 1 0, .ref 3 0, slRows false f.Strokes, I (f.Strokes.length : Int), I t45, slLI false ((at_ f.Strokes t45.toNat).Values), I ((((at_ f.Strokes t45.toNat).Values).length) : Int), I t53, Bv false] [some (bxFile f), some (.bld 104 60007), some (.buf 5 false tx3)] [¬ (t53 < ((((at_ f.Strokes t45.toNat).Values).length) : Int))] hB ⟨h3, trivial⟩ ?_
   refine ae_then ?_
   refine aw_seq ?_
   refine aw_false rfl ?_
   refine aw_exit ?_
   refine ae_exit_then ?_
   refine ae_exit_then ?_
   refine ae_exit_same ?_
   refine ae_then ?_
   refine aw_r [(0, .bw 3 60007 60006 (.string (⟨#[10]⟩ : ByteArray)) false (⟨#[10]⟩ : ByteArray))] [1, 3, 43, 44, 45] [1, 3, 60006] [.ref 1 0, .ref 3 0, slRows false f.Strokes, I (f.Strokes.length : Int), I t45] [some (bxFile f), some (.bld 104 60006), some (.buf 5 false (tx3 ++ (⟨#[10]⟩ : ByteArray)))] [([.ref 3 0, Sv (⟨#[10]⟩ : ByteArray)] : List AV) = [.ref 3 0, Sv (⟨#[10]⟩ : ByteArray)] ∧ BwOK Tryz.prog 44 104 5 (.string (⟨#[10]⟩ : ByteArray)) false tx3 false (⟨#[10]⟩ : ByteArray)] hB ⟨⟨rfl, bw_ok (by (try simp only [ByteArray.size_append]); omega)⟩, trivial⟩ ?_
   refine ae_block 3 ?_
   refine ae_then ?_
   refine aw_r [] [1, 3, 43, 44, 45] [1, 3, 60006] [.ref 1 0, .ref 3 0, slRows false f.Strokes, I (f.Strokes.length : Int), I (t45 + 1)] [some (bxFile f), some (.bld 104 60006), some (.buf 5 false (tx3 ++ (⟨#[10]⟩ : ByteArray)))] [inR .i64 (t45 + 1)] hB ⟨(inR_i64 (by omega) (by omega)), trivial⟩ ?_
   exact ae_again _ (by omega) ⟨(t45 + 1), (tx3 ++ (⟨#[10]⟩ : ByteArray)), rfl, (by omega), (by rw [hks, linesX, fl_at2 hi, ← htx2, htx3, ← htx2]; simp only [ByteArray.append_assoc]), rfl⟩
  have hke : t45.toNat = f.Strokes.length := by omega
  rw [hke] at htx2
  refine aw_r [(0, .dec false)] [1, 3, 43, 44, 45, 46] [1, 3, 60006] [.ref 1 0, .ref 3 0, slRows false f.Strokes, I (f.Strokes.length : Int), I t45, Bv false] [some (bxFile f), some (.bld 104 60006), some (.buf 5 false tx2)] [¬ (t45 < (f.Strokes.length : Int))] hB ⟨h2, trivial⟩ ?_
  refine ae_then ?_
  refine aw_seq ?_
  refine aw_false rfl ?_
  refine aw_exit ?_
  refine ae_exit_then ?_
  refine ae_exit_then ?_
  refine ae_exit_same ?_
  refine ae_then ?_
  refine aw_seq ?_
  refine aR [] [3, 65, 66, 67] [3, 60006] [.ref 3 0, slNote false f.Notes, I (f.Notes.length : Int), I 0] [some (.bld 104 60006), some (.buf 5 false tx2)] [] hB trivial ?_
  refine aw_block ?_
  refine aw_loop (fun gn gσ => ∃ (t67 : Int) (tx4 : ByteArray), gn = ((f.Notes.length : Int) - t67).toNat ∧ (0 ≤ t67 ∧ t67 ≤ (f.Notes.length : Int)) ∧ (tx4 = linesX (filLns f) (f.Channels.length + f.Strokes.length + t67.toNat)) ∧ gσ = mkS [(3, .ref 3 0), (65, slNote false f.Notes), (66, I (f.Notes.length : Int)), (67, I t67)] [(3, .bld 104 60006), (60006, .buf 5 false tx4)]) (((f.Notes.length : Int) - 0).toNat) ⟨0, tx2, rfl, (by omega), (by exact htx2), rfl⟩ (fun gn gσ hI => ?_)
  obtain ⟨t67, tx4, rfl, hi0, htx4, rfl⟩ := hI
  refine aw_seq ?_
  by_cases h4 : t67 < (f.Notes.length : Int)
  ·have hi : t67.toNat < f.Notes.length := by omega
   have ho := hok.2.2.2.2 _ (at_mem hi)
   have hoa := ho.1
   have hob := ho.2.1
   have hd1 := decB_size (n := (at_ f.Notes t67.toNat).From) (by omega)
   have hd2 := decB_size (n := (at_ f.Notes t67.toNat).To) (by omega)
   have hzl := filL_size hok (k := f.Channels.length + f.Strokes.length + t67.toNat) (by unfold filN; omega)
   rw [← htx4] at hzl
   have hks : f.Channels.length + f.Strokes.length + (t67 + 1).toNat = f.Channels.length + f.Strokes.length + t67.toNat + 1 := by omega
   refine aw_r [(0, .dec true)] [3, 65, 66, 67, 68] [3, 60006] [.ref 3 0, slNote false f.Notes, I (f.Notes.length : Int), I t67, Bv true] [some (.bld 104 60006), some (.buf 5 false tx4)] [t67 < (f.Notes.length : Int)] hB ⟨h4, trivial⟩ ?_
   refine ae_then ?_
   refine aw_seq ?_
   refine aw_true rfl ?_
   refine aw_skip ?_
   refine ae_then ?_
   refine aw_seq ?_
   refine aw_block ?_
   refine aR [(2, .new 11)] [3, 11, 65, 66, 67] [3, 11, 60006] [.ref 3 0, .ref 11 0, slNote false f.Notes, I (f.Notes.length : Int), I t67] [some (.bld 104 60006), some (bxNote (at_ f.Notes t67.toNat)), some (.buf 5 false tx4)] [(0 : Int) ≤ t67 ∧ t67 < (f.Notes.length : Int)] hB ⟨⟨(by omega), (by omega)⟩, trivial⟩ ?_
   refine aw_r [(2, .call [(true, .any)] true (Sv (decB ((at_ f.Notes t67.toNat).From)))), (7, .call [(true, .any)] true (Sv (decB ((at_ f.Notes t67.toNat).To)))), (14, .bw 3 60006 60007 (.string (((((((⟨#[110, 111, 116, 101, 32]⟩ : ByteArray) ++ (decB ((at_ f.Notes t67.toNat).From))) ++ (⟨#[32]⟩ : ByteArray)) ++ (decB ((at_ f.Notes t67.toNat).To))) ++ (⟨#[32]⟩ : ByteArray)) ++ ((at_ f.Notes t67.toNat).Text)) ++ (⟨#[10]⟩ : ByteArray))) false (((((((⟨#[110, 111, 116, 101, 32]⟩ : ByteArray) ++ (decB ((at_ f.Notes t67.toNat).From))) ++ (⟨#[32]⟩ : ByteArray)) ++ (decB ((at_ f.Notes t67.toNat).To))) ++ (⟨#[32]⟩ : ByteArray)) ++ ((at_ f.Notes t67.toNat).Text)) ++ (⟨#[10]⟩ : ByteArray)))] [3, 65, 66, 67] [3, 60007] [.ref 3 0, slNote false f.Notes, I (f.Notes.length : Int), I t67] [some (.bld 104 60007), some (.buf 5 false (tx4 ++ (((((((⟨#[110, 111, 116, 101, 32]⟩ : ByteArray) ++ (decB ((at_ f.Notes t67.toNat).From))) ++ (⟨#[32]⟩ : ByteArray)) ++ (decB ((at_ f.Notes t67.toNat).To))) ++ (⟨#[32]⟩ : ByteArray)) ++ ((at_ f.Notes t67.toNat).Text)) ++ (⟨#[10]⟩ : ByteArray))))] [Con Tryz.prog 45 [I ((at_ f.Notes t67.toNat).From)] true (Sv (decB ((at_ f.Notes t67.toNat).From))) ∧ True, (⟨#[110, 111, 116, 101, 32]⟩ : ByteArray).size + (decB ((at_ f.Notes t67.toNat).From)).size ≤ 9223372036854775807, ((⟨#[110, 111, 116, 101, 32]⟩ : ByteArray) ++ (decB ((at_ f.Notes t67.toNat).From))).size + (⟨#[32]⟩ : ByteArray).size ≤ 9223372036854775807, Con Tryz.prog 45 [I ((at_ f.Notes t67.toNat).To)] true (Sv (decB ((at_ f.Notes t67.toNat).To))) ∧ True, (((⟨#[110, 111, 116, 101, 32]⟩ : ByteArray) ++ (decB ((at_ f.Notes t67.toNat).From))) ++ (⟨#[32]⟩ : ByteArray)).size + (decB ((at_ f.Notes t67.toNat).To)).size ≤ 9223372036854775807, ((((⟨#[110, 111, 116, 101, 32]⟩ : ByteArray) ++ (decB ((at_ f.Notes t67.toNat).From))) ++ (⟨#[32]⟩ : ByteArray)) ++ (decB ((at_ f.Notes t67.toNat).To))).size + (⟨#[32]⟩ : ByteArray).size ≤ 9223372036854775807, (((((⟨#[110, 111, 116, 101, 32]⟩ : ByteArray) ++ (decB ((at_ f.Notes t67.toNat).From))) ++ (⟨#[32]⟩ : ByteArray)) ++ (decB ((at_ f.Notes t67.toNat).To))) ++ (⟨#[32]⟩ : ByteArray)).size + ((at_ f.Notes t67.toNat).Text).size ≤ 9223372036854775807, ((((((⟨#[110, 111, 116, 101, 32]⟩ : ByteArray) ++ (decB ((at_ f.Notes t67.toNat).From))) ++ (⟨#[32]⟩ : ByteArray)) ++ (decB ((at_ f.Notes t67.toNat).To))) ++ (⟨#[32]⟩ : ByteArray)) ++ ((at_ f.Notes t67.toNat).Text)).size + (⟨#[10]⟩ : ByteArray).size ≤ 9223372036854775807, ([.ref 3 0, Sv (((((((⟨#[110, 111, 116, 101, 32]⟩ : ByteArray) ++ (decB ((at_ f.Notes t67.toNat).From))) ++ (⟨#[32]⟩ : ByteArray)) ++ (decB ((at_ f.Notes t67.toNat).To))) ++ (⟨#[32]⟩ : ByteArray)) ++ ((at_ f.Notes t67.toNat).Text)) ++ (⟨#[10]⟩ : ByteArray))] : List AV) = [.ref 3 0, Sv (((((((⟨#[110, 111, 116, 101, 32]⟩ : ByteArray) ++ (decB ((at_ f.Notes t67.toNat).From))) ++ (⟨#[32]⟩ : ByteArray)) ++ (decB ((at_ f.Notes t67.toNat).To))) ++ (⟨#[32]⟩ : ByteArray)) ++ ((at_ f.Notes t67.toNat).Text)) ++ (⟨#[10]⟩ : ByteArray))] ∧ BwOK Tryz.prog 44 104 5 (.string (((((((⟨#[110, 111, 116, 101, 32]⟩ : ByteArray) ++ (decB ((at_ f.Notes t67.toNat).From))) ++ (⟨#[32]⟩ : ByteArray)) ++ (decB ((at_ f.Notes t67.toNat).To))) ++ (⟨#[32]⟩ : ByteArray)) ++ ((at_ f.Notes t67.toNat).Text)) ++ (⟨#[10]⟩ : ByteArray))) false tx4 false (((((((⟨#[110, 111, 116, 101, 32]⟩ : ByteArray) ++ (decB ((at_ f.Notes t67.toNat).From))) ++ (⟨#[32]⟩ : ByteArray)) ++ (decB ((at_ f.Notes t67.toNat).To))) ++ (⟨#[32]⟩ : ByteArray)) ++ ((at_ f.Notes t67.toNat).Text)) ++ (⟨#[10]⟩ : ByteArray))] hB ⟨⟨(implDecimal_ok ((at_ f.Notes t67.toNat).From) (by omega)), trivial⟩, (by (try simp only [ByteArray.size_append]); omega), (by (try simp only [ByteArray.size_append]); omega), ⟨(implDecimal_ok ((at_ f.Notes t67.toNat).To) (by omega)), trivial⟩, (by (try simp only [ByteArray.size_append]); omega), (by (try simp only [ByteArray.size_append]); omega), (by (try simp only [ByteArray.size_append]); omega), (by (try simp only [ByteArray.size_append]); omega), ⟨rfl, bw_ok (by (try simp only [ByteArray.size_append]); omega)⟩, trivial⟩ ?_
   refine ae_block 7 ?_
   refine ae_then ?_
   refine aw_r [] [3, 65, 66, 67] [3, 60007] [.ref 3 0, slNote false f.Notes, I (f.Notes.length : Int), I (t67 + 1)] [some (.bld 104 60007), some (.buf 5 false (tx4 ++ (((((((⟨#[110, 111, 116, 101, 32]⟩ : ByteArray) ++ (decB ((at_ f.Notes t67.toNat).From))) ++ (⟨#[32]⟩ : ByteArray)) ++ (decB ((at_ f.Notes t67.toNat).To))) ++ (⟨#[32]⟩ : ByteArray)) ++ ((at_ f.Notes t67.toNat).Text)) ++ (⟨#[10]⟩ : ByteArray))))] [inR .i64 (t67 + 1)] hB ⟨(inR_i64 (by omega) (by omega)), trivial⟩ ?_
   refine ae_weak hB [(60006, 60007)] (T := [(3, .ref 3 0), (65, slNote false f.Notes), (66, I (f.Notes.length : Int)), (67, I (t67 + 1))]) (O := [(3, .bld 104 60006), (60006, .buf 5 false (tx4 ++ (((((((⟨#[110, 111, 116, 101, 32]⟩ : ByteArray) ++ (decB ((at_ f.Notes t67.toNat).From))) ++ (⟨#[32]⟩ : ByteArray)) ++ (decB ((at_ f.Notes t67.toNat).To))) ++ (⟨#[32]⟩ : ByteArray)) ++ ((at_ f.Notes t67.toNat).Text)) ++ (⟨#[10]⟩ : ByteArray))))]) rfl (⟨.inl rfl, .inl rfl, .inl rfl, .inl rfl, trivial⟩) (⟨.inl rfl, .inl rfl, trivial⟩) (ae_again _ (by omega) ⟨(t67 + 1), (tx4 ++ (((((((⟨#[110, 111, 116, 101, 32]⟩ : ByteArray) ++ (decB ((at_ f.Notes t67.toNat).From))) ++ (⟨#[32]⟩ : ByteArray)) ++ (decB ((at_ f.Notes t67.toNat).To))) ++ (⟨#[32]⟩ : ByteArray)) ++ ((at_ f.Notes t67.toNat).Text)) ++ (⟨#[10]⟩ : ByteArray))), rfl, (by omega), (by rw [hks, linesX, fl_at3 hi, ← htx4, ntLn_eq]; simp only [hdN, ByteArray.append_assoc]), rfl⟩)
  have hke : t67.toNat = f.Notes.length := by omega
  rw [hke] at htx4
  refine aw_r [(0, .dec false)] [3, 65, 66, 67, 68] [3, 60006] [.ref 3 0, slNote false f.Notes, I (f.Notes.length : Int), I t67, Bv false] [some (.bld 104 60006), some (.buf 5 false tx4)] [¬ (t67 < (f.Notes.length : Int))] hB ⟨h4, trivial⟩ ?_
  refine ae_then ?_
  refine aw_seq ?_
  refine aw_false rfl ?_
  refine aw_exit ?_
  refine ae_exit_then ?_
  refine ae_exit_then ?_
  refine ae_exit_same ?_
  refine ae_then ?_
  refine aR [(0, .bs 3 60006)] [2] [] [Sv tx4] [] [([.ref 3 0] : List AV) = [.ref 3 0] ∧ BsOK Tryz.prog 47 104 5] hB ⟨⟨rfl, bs_ok⟩, trivial⟩ ?_
  refine aw_ret ?_
  refine ae_ret hB (Sv tx4) (by kernel_rfl) (.inl (by first | (rw [htx4]; rfl) | rfl)) rfl (fun _ => trivial)
theorem hasSuffix_ok (s p : ByteArray) (hs : s.size ≤ 9223372036854775807) : Con Tryz.prog 95 [Sv s, Sv p] true (Bv (sufB s p)) := by
  refine con_of_calls (vals := [.string s, .string p]) fun w _ => ?_
  refine (Tryz.strings_HasSuffix s p w hs).mono ?_
  rintro e w' ⟨rfl, rfl⟩
  exact ⟨rfl, Below.refl _ _⟩
theorem trimSuffix_ok (s p : ByteArray) (hs : s.size ≤ 9223372036854775807) : Con Tryz.prog 97 [Sv s, Sv p] true (Sv (trsB s p)) := by
  refine con_of_calls (vals := [.string s, .string p]) fun w _ => ?_
  refine (Tryz.strings_TrimSuffix s p w hs).mono ?_
  rintro e w' ⟨rfl, rfl⟩
  exact ⟨rfl, Below.refl _ _⟩
set_option maxHeartbeats 2000000 in
set_option maxRecDepth 100000 in
theorem split_ok (s sep : ByteArray) (hs : s.size ≤ 140737488 ∧ True) (h1 : sep.size = 1) : Con Tryz.prog 96 [Sv s, Sv sep] true (slS true (splB sep s)) := by
  obtain ⟨c, rfl⟩ := Lib.one_byte sep h1
  have hle := Lib.countB_le ⟨#[c]⟩ (by omega) s.size s (Nat.le_refl _)
  have hlen := splB_length (s := s) h1
  have hcell : ∀ i, i < Lib.countB s ⟨#[c]⟩ + 1 → (((Lib.splitB ⟨#[c]⟩ 0 (Lib.countB s ⟨#[c]⟩) s).map Value.string).toArray)[i]? = some (.string (at_ (splB ⟨#[c]⟩ s) i)) ∧ (Value.string (at_ (splB ⟨#[c]⟩ s) i)).oneCell' = true := fun i hi => by
    have hi2 : i < (Lib.splitB ⟨#[c]⟩ 0 (Lib.countB s ⟨#[c]⟩) s).length := by omega
    refine ⟨?_, rfl⟩
    have e : at_ (splB ⟨#[c]⟩ s) i = (Lib.splitB ⟨#[c]⟩ 0 (Lib.countB s ⟨#[c]⟩) s)[i] := at_eq hi2
    rw [e]
    simp [List.getElem?_eq_getElem hi2]
  have hmain := con_of_calls_sl (P := Tryz.prog) (f := 96) (vals := [.string s, .string ⟨#[c]⟩]) (n := Lib.countB s ⟨#[c]⟩ + 1) (T := 9) (cs := ((Lib.splitB ⟨#[c]⟩ 0 (Lib.countB s ⟨#[c]⟩) s).map Value.string).toArray) (g := fun i => .string (at_ (splB ⟨#[c]⟩ s) i)) (by unfold maxLen; omega) hcell ?_
  · have e : slS true (splB ⟨#[c]⟩ s) = .sl true 1 (Lib.countB s ⟨#[c]⟩ + 1) fun i => [Sv (at_ (splB ⟨#[c]⟩ s) i)] := by
      rw [← hlen]; rfl
    rw [e]
    exact hmain
  · intro w _
    have hI : ∀ (x : ByteArray) (d : Array Value), x.size ≤ s.size → Calls Tryz.prog 151 #[.string x, .string ⟨#[c]⟩] (w.alloc (.cells d 9)) fun e w' => e = .returned (.int .i64 (Lib.indexB x ⟨#[c]⟩)) ∧ w' = w.alloc (.cells d 9) := fun x d _ => by
      have := Tryz.strings_Index_one x c (w.alloc (.cells d 9))
      have e : Lib.indexB x ⟨#[c]⟩ = Lib.indexByte x.data.toList c := Lib.index_one _ _
      rw [e]
      exact this
    have hC : Calls Tryz.prog 150 #[.string s, .string ⟨#[c]⟩] w fun e w' => e = .returned (.int .i64 (Lib.countB s ⟨#[c]⟩)) ∧ w' = w := by
      have := Tryz.strings_Count_one s c w
      have e : Lib.countB s ⟨#[c]⟩ = Lib.countByte s.data.toList c := Lib.count_one c _
      rw [e]
      exact this
    have hcore := Any.strings_genSplit_core Tryz.lays221 (by kernel_rfl) s ⟨#[c]⟩ 0 (-1) (Lib.countB s ⟨#[c]⟩ + 1) w (by omega) (by omega) (Nat.zero_le _) hI hC (by decide) (by decide) (by rw [if_pos (by decide)]; omega)
    rw [Nat.add_sub_cancel, hlen] at hcore
    have e2 : Lib.cellsOf (Lib.splitB ⟨#[c]⟩ 0 (Lib.countB s ⟨#[c]⟩) s) (Lib.countB s ⟨#[c]⟩ + 1) = ((Lib.splitB ⟨#[c]⟩ 0 (Lib.countB s ⟨#[c]⟩) s).map Value.string).toArray := by rw [← hlen]; exact Lib.cellsOf_full _
    rw [e2] at hcore
    go_enter Tryz.func96, Tryz.ntmps96
    go_wp2_with (go_at_call 128; refine hcore.mono ?_; rintro e w' ⟨rfl, hw⟩; rw [hw])
    go_ret
    exact ⟨rfl, rfl⟩
theorem linesOf_ok (s : ByteArray) (ok : linOk s) : ∃ (ls : List ByteArray) (k : Bool), (ls = linB s) ∧ (k = true) ∧ Con Tryz.prog 41 [Sv s] true (.tup [slS true ls, Bv k]) := by
  have hz := ok.1
  have hh : ∃ r : (List ByteArray) × Bool, ((r.1 = linB s) ∧ (r.2 = true) ∧ (True)) ∧ CallOK Tryz.prog 41 [Sv s] (lookO []) true (.tup [slS true r.1, Bv r.2]) (lookO []) := by
    refine fn_okX (Φ := fun r : (List ByteArray) × Bool => (r.1 = linB s) ∧ (r.2 = true) ∧ (True)) [] (fun r => []) (fn := Tryz.f41) (nt := 12) Tryz.func41 rfl rfl (args := [Sv s]) rfl (allcons (.inl ⟨rfl, trivial⟩) allnil) (res := fun r => .tup [slS true r.1, Bv r.2]) ?_
    refine xR [] [0] [] [Sv s] [] [] trivial ?_
    refine x_seq ?_
    refine x_seq ?_
    by_cases h1 : s = (⟨#[]⟩ : ByteArray)
    ·have hlb : linB s = [] := by rw [linB, if_pos h1]
     refine x_r [(1, .dec true)] [0, 5] [] [Sv s, Bv true] [] [s = (⟨#[]⟩ : ByteArray)] ⟨h1, trivial⟩ ?_
     refine xe_then ?_
     refine x_true rfl ?_
     refine xR [] [2, 3] [] [nilA, Bv true] [] [] trivial ?_
     refine x_ret ?_
     refine xe_ret_then ?_
     refine xe_end (([] : List ByteArray), true) (show (([] : List ByteArray) = linB s) ∧ (true = true) ∧ (True) from ⟨(by first | exact hlb.symm | rfl), (by first | exact hlb.symm | rfl), trivial⟩) (trivial) (.tup [nilA, Bv true]) (by kernel_rfl) (.inr ⟨⟨rfl, rfl⟩, ⟨rfl, rfl⟩⟩) (fun _ => rfl) (fun _ => (by simp [tagged, taggedL, tagS]))
    have hse := h1
    have hlb : linB s = splB ⟨#[10]⟩ (trsB s ⟨#[10]⟩) := by rw [linB, if_neg hse]
    refine x_r [(1, .dec false)] [0, 5] [] [Sv s, Bv false] [] [¬ (s = (⟨#[]⟩ : ByteArray))] ⟨h1, trivial⟩ ?_
    refine xe_then ?_
    refine x_false rfl ?_
    refine x_skip ?_
    refine xe_then ?_
    refine x_seq ?_
    refine xR [(1, .call [(true, .any), (true, .any)] true (Bv true))] [0, 8] [] [Sv s, Bv false] [] [Con Tryz.prog 95 [Sv s, Sv (⟨#[10]⟩ : ByteArray)] true (Bv true) ∧ True] ⟨⟨(con_bool (ok.2.resolve_left hse) (hasSuffix_ok s (⟨#[10]⟩ : ByteArray) (by omega))), trivial⟩, trivial⟩ ?_
    refine x_false rfl ?_
    refine x_skip ?_
    refine xe_then ?_
    refine xR [(1, .call [(true, .any), (true, .any)] true (Sv (trsB s (⟨#[10]⟩ : ByteArray)))), (2, .call [(true, .any), (true, .any)] true (slS true (splB (⟨#[10]⟩ : ByteArray) (trsB s (⟨#[10]⟩ : ByteArray)))))] [2, 3] [] [slS true (splB (⟨#[10]⟩ : ByteArray) (trsB s (⟨#[10]⟩ : ByteArray))), Bv true] [] [Con Tryz.prog 97 [Sv s, Sv (⟨#[10]⟩ : ByteArray)] true (Sv (trsB s (⟨#[10]⟩ : ByteArray))) ∧ True, Con Tryz.prog 96 [Sv (trsB s (⟨#[10]⟩ : ByteArray)), Sv (⟨#[10]⟩ : ByteArray)] true (slS true (splB (⟨#[10]⟩ : ByteArray) (trsB s (⟨#[10]⟩ : ByteArray)))) ∧ True] ⟨⟨(trimSuffix_ok s (⟨#[10]⟩ : ByteArray) (by omega)), trivial⟩, ⟨(split_ok (trsB s (⟨#[10]⟩ : ByteArray)) (⟨#[10]⟩ : ByteArray) ⟨by have := trsB_size s ⟨#[10]⟩; omega, trivial⟩ rfl), trivial⟩, trivial⟩ ?_
    refine x_ret ?_
    refine xe_end ((splB (⟨#[10]⟩ : ByteArray) (trsB s (⟨#[10]⟩ : ByteArray))), true) (show ((splB (⟨#[10]⟩ : ByteArray) (trsB s (⟨#[10]⟩ : ByteArray))) = linB s) ∧ (true = true) ∧ (True) from ⟨(by first | exact hlb.symm | rfl), (by first | exact hlb.symm | rfl), trivial⟩) (trivial) (.tup [slS true (splB (⟨#[10]⟩ : ByteArray) (trsB s (⟨#[10]⟩ : ByteArray))), Bv true]) (by kernel_rfl) (.inl rfl) (fun _ => rfl) (fun _ => (by simp [tagged, taggedL, tagS]))
  obtain ⟨⟨ls, k⟩, ⟨hh0, hh1, _⟩, hc⟩ := hh
  exact ⟨ls, k, hh0, hh1, hc⟩
theorem wordsOf_ok (s : ByteArray) (hz : s.size ≤ 10000000) : Con Tryz.prog 43 [Sv s] true (slS true (splB ⟨#[32]⟩ s)) := by
  refine fn_ok (fn := Tryz.f43) (nt := 5) Tryz.func43 rfl rfl rfl rfl (by simp [taggedL, tagged]) fun B hB => ?_
  refine aR [] [0] [] [Sv s] [] [] hB trivial ?_
  refine aR [(1, .call [(true, .any), (true, .any)] true (slS true (splB (⟨#[32]⟩ : ByteArray) s)))] [2] [] [slS true (splB (⟨#[32]⟩ : ByteArray) s)] [] [Con Tryz.prog 96 [Sv s, Sv (⟨#[32]⟩ : ByteArray)] true (slS true (splB (⟨#[32]⟩ : ByteArray) s)) ∧ True] hB ⟨⟨(split_ok s (⟨#[32]⟩ : ByteArray) ⟨by omega, trivial⟩ rfl), trivial⟩, trivial⟩ ?_
  refine aw_ret ?_
  refine ae_ret hB (slS true (splB (⟨#[32]⟩ : ByteArray) s)) (by kernel_rfl) (.inr ⟨(fun _ => rfl), rfl, (by first | rfl | (simp; done) | (simp; omega) | omega), fun i_ hi_ => .inl (by first | rfl | fail)⟩) rfl (fun _ => (tagS true _))
set_option maxHeartbeats 2000000 in
theorem dec_calls (n : Int) (h : -9223372036854775808 ≤ n ∧ n ≤ 9223372036854775807) (w : World) (hw : WX w) : Calls Tryz.prog 45 #[.int .i64 n] w fun e w' => e = .returned (.string (decB n)) ∧ Below w.heap.size w w' := by
  go_enter Tryz.func45, Tryz.ntmps45
  go_wp2_with (go_at_call 100; refine (Tryz.strconv_FormatInt_10 n h.1 h.2 w (WX_tab hw)).mono ?_; rintro e w' ⟨rfl, k, os, rfl⟩)
  go_ret
  exact ⟨rfl, Lib.below_grow _ _ (Nat.le_refl _) k os⟩
set_option maxHeartbeats 2000000 in
set_option maxRecDepth 100000 in
theorem readDec_ok (s : ByteArray) (hs : isDec s) : Con Tryz.prog 66 [Sv s] true (.tup [I (dcV s), Bv true]) := by
  obtain ⟨n, hn, rfl⟩ := hs
  rw [dcV_dec hn]
  refine con_of_calls2 (vals := [.string (decB n)]) fun w hw => ?_
  have hp := parse_dec hn
  have ht := trp_dec hn
  have hsz := decB_size (n := n) (by omega)
  go_enter Tryz.func66, Tryz.ntmps66
  go_wp2_with (go_at_call 67; refine (Tryz.strings_TrimPrefix (decB n) _ w).mono ?_; rintro e w' ⟨rfl, hw'⟩; rw [hw'])
  clear hw'
  go_wp2_with (go_at_call 115; refine (Tryz.strconv_ParseInt_10_at64_ok (decB n) (by omega) n hp w).mono ?_; rintro e w2 ⟨rfl, hw2⟩)
  have hb : Below w.heap.size w w2 := by
    rcases hw2 with rfl | ⟨t, rfl⟩
    · exact Below.refl _ _
    · exact Lib.bytesWorld_below _ _ _
  have hx := WX_below hw w2 hb
  clear hw2
  go_wp2_with (go_at_call 45; refine (dec_calls n (by omega) w2 hx).mono ?_; rintro e w3 ⟨rfl, hb3⟩)
  go_ret2
  exact ⟨rfl, hb.trans (hb3.mono hb.size)⟩
theorem numbersOf_ok (s : ByteArray) (hz : s.size ≤ 10000000) (hs : ∀ y ∈ splB ⟨#[44]⟩ s, isDec y) : ∃ (v : List Int), (v = dcs s) ∧ Con Tryz.prog 98 [Sv s] true (slI true v) := by
  have hh : ∃ r : (List Int), ((r = dcs s) ∧ (True)) ∧ CallOK Tryz.prog 98 [Sv s] (lookO []) true (slI true r) (lookO []) := by
    refine fn_okX (Φ := fun r : (List Int) => (r = dcs s) ∧ (True)) [] (fun r => []) (fn := Tryz.f98) (nt := 26) Tryz.func98 rfl rfl (args := [Sv s]) rfl (allcons (.inl ⟨rfl, trivial⟩) allnil) (res := fun r => slI true r) ?_
    refine xR [] [0] [] [Sv s] [] [] trivial ?_
    refine xR [] [0, 3] [] [Sv s, nilA] [] [] trivial ?_
    refine x_seq ?_
    refine xR [(1, .call [(true, .any), (true, .any)] true (slS true (splB (⟨#[44]⟩ : ByteArray) s)))] [3, 9, 10, 11] [] [nilA, slS true (splB (⟨#[44]⟩ : ByteArray) s), I (((splB (⟨#[44]⟩ : ByteArray) s).length) : Int), I 0] [] [Con Tryz.prog 96 [Sv s, Sv (⟨#[44]⟩ : ByteArray)] true (slS true (splB (⟨#[44]⟩ : ByteArray) s)) ∧ True] ⟨⟨(split_ok s (⟨#[44]⟩ : ByteArray) ⟨by omega, trivial⟩ rfl), trivial⟩, trivial⟩ ?_
    refine x_block ?_
    refine x_nil 3 703 1 (fun _ => []) (by kernel_rfl) ?_
    refine x_weak [] (T := [(3, .arr 703), (9, slS true (splB (⟨#[44]⟩ : ByteArray) s)), (10, I (((splB (⟨#[44]⟩ : ByteArray) s).length) : Int)), (11, I 0)]) (O := [(703, tAI ([] : List Int))]) rfl (⟨.inl rfl, .inl rfl, .inl rfl, .inl rfl, trivial⟩) (⟨.inr ⟨rfl, (by first | rfl | (simp; done) | (simp; omega) | omega), fun i_ hi_ => absurd hi_ (Nat.not_lt_zero _)⟩, trivial⟩) ?_
    refine x_loop (X := (List Int) × Int) (fun x => mkS [(3, .arr 703), (9, slS true (splB (⟨#[44]⟩ : ByteArray) s)), (10, I (((splB (⟨#[44]⟩ : ByteArray) s).length) : Int)), (11, I x.2)] [(703, tAI x.1)]) (fun x => (0 ≤ x.2 ∧ x.2 ≤ ((splB ⟨#[44]⟩ s).length : Int)) ∧ (x.1 = ((splB ⟨#[44]⟩ s).take x.2.toNat).map dcV) ∧ True) (fun x => (((splB ⟨#[44]⟩ s).length : Int) - x.2).toNat) (([] : List Int), 0) rfl (show (0 ≤ (0 : Int) ∧ (0 : Int) ≤ ((splB ⟨#[44]⟩ s).length : Int)) ∧ (([] : List Int) = ((splB ⟨#[44]⟩ s).take (0 : Int).toNat).map dcV) ∧ True from ⟨(by omega), (by rfl), trivial⟩) (fun x hI => ?_)
    obtain ⟨ns, k⟩ := x
    obtain ⟨hi0, hns, _⟩ : (0 ≤ k ∧ k ≤ ((splB ⟨#[44]⟩ s).length : Int)) ∧ (ns = ((splB ⟨#[44]⟩ s).take k.toNat).map dcV) ∧ True := hI
    show XW _ _ _ _ (mkS [(3, .arr 703), (9, slS true (splB (⟨#[44]⟩ : ByteArray) s)), (10, I (((splB (⟨#[44]⟩ : ByteArray) s).length) : Int)), (11, I k)] [(703, tAI ns)]) _ _
    refine x_seq ?_
    by_cases h1 : k < (((splB (⟨#[44]⟩ : ByteArray) s).length) : Int)
    ·have hi : k.toNat < (splB ⟨#[44]⟩ s).length := by omega
     have hnl : ns.length = k.toNat := by rw [hns]; simp; omega
     have hsl := splB_len 44 s
     refine x_r [(0, .dec true)] [3, 9, 10, 11, 12] [703] [.arr 703, slS true (splB (⟨#[44]⟩ : ByteArray) s), I (((splB (⟨#[44]⟩ : ByteArray) s).length) : Int), I k, Bv true] [some (tAI ns)] [k < (((splB (⟨#[44]⟩ : ByteArray) s).length) : Int)] ⟨h1, trivial⟩ ?_
     refine xe_then ?_
     refine x_seq ?_
     refine x_true rfl ?_
     refine x_skip ?_
     refine xe_then ?_
     refine x_seq ?_
     refine x_block ?_
     refine xR [] [3, 5, 9, 10, 11] [703] [.arr 703, Sv (at_ (splB (⟨#[44]⟩ : ByteArray) s) k.toNat), slS true (splB (⟨#[44]⟩ : ByteArray) s), I (((splB (⟨#[44]⟩ : ByteArray) s).length) : Int), I k] [some (tAI ns)] [(0 : Int) ≤ k ∧ k < (((splB (⟨#[44]⟩ : ByteArray) s).length) : Int)] ⟨⟨(by omega), (by omega)⟩, trivial⟩ ?_
     refine xR [(1, .call [(true, .any)] true (.tup [I (dcV (at_ (splB (⟨#[44]⟩ : ByteArray) s) k.toNat)), Bv true]))] [3, 6, 9, 10, 11] [703] [.arr 703, I (dcV (at_ (splB (⟨#[44]⟩ : ByteArray) s) k.toNat)), slS true (splB (⟨#[44]⟩ : ByteArray) s), I (((splB (⟨#[44]⟩ : ByteArray) s).length) : Int), I k] [some (tAI ns)] [Con Tryz.prog 66 [Sv (at_ (splB (⟨#[44]⟩ : ByteArray) s) k.toNat)] true (.tup [I (dcV (at_ (splB (⟨#[44]⟩ : ByteArray) s) k.toNat)), Bv true]) ∧ True] ⟨⟨(readDec_ok (at_ (splB (⟨#[44]⟩ : ByteArray) s) k.toNat) (hs _ (at_mem hi))), trivial⟩, trivial⟩ ?_
     refine x_r [(2, .new 22), (3, .new 23)] [3, 9, 10, 11] [23] [.arr 23, slS true (splB (⟨#[44]⟩ : ByteArray) s), I (((splB (⟨#[44]⟩ : ByteArray) s).length) : Int), I k] [some (.arr 1 (ns.length + 1) (catF ns.length (fI ns) (litF [I (dcV (at_ (splB (⟨#[44]⟩ : ByteArray) s) k.toNat))] 1)))] [(ns.length + 1) * 8 ≤ 140737488355328] ⟨(by omega), trivial⟩ ?_
     refine xe_block 1 ?_
     refine xe_then ?_
     refine x_r [] [3, 9, 10, 11] [23] [.arr 23, slS true (splB (⟨#[44]⟩ : ByteArray) s), I (((splB (⟨#[44]⟩ : ByteArray) s).length) : Int), I (k + 1)] [some (.arr 1 (ns.length + 1) (catF ns.length (fI ns) (litF [I (dcV (at_ (splB (⟨#[44]⟩ : ByteArray) s) k.toNat))] 1)))] [inR .i64 (k + 1)] ⟨(inR_i64 (by omega) (by omega)), trivial⟩ ?_
     refine xe_weak [(703, 23)] (T := [(3, .arr 703), (9, slS true (splB (⟨#[44]⟩ : ByteArray) s)), (10, I (((splB (⟨#[44]⟩ : ByteArray) s).length) : Int)), (11, I (k + 1))]) (O := [(703, tAI (ns ++ [(dcV (at_ (splB (⟨#[44]⟩ : ByteArray) s) k.toNat))]))]) rfl (⟨.inl rfl, .inl rfl, .inl rfl, .inl rfl, trivial⟩) (⟨.inr ⟨rfl, (by first | rfl | (simp; done) | (simp; omega) | omega), fun i_ hi_ => .inl (cat_snoc (enc := cI) (xs := ns) rfl i_ hi_)⟩, trivial⟩) (xe_again ((ns ++ [(dcV (at_ (splB (⟨#[44]⟩ : ByteArray) s) k.toNat))]), (k + 1)) rfl (show (0 ≤ (k + 1) ∧ (k + 1) ≤ ((splB ⟨#[44]⟩ s).length : Int)) ∧ ((ns ++ [(dcV (at_ (splB (⟨#[44]⟩ : ByteArray) s) k.toNat))]) = ((splB ⟨#[44]⟩ s).take (k + 1).toNat).map dcV) ∧ True from ⟨(by omega), (by rw [hns]; exact (mapTake_succ (by omega) hi rfl).symm), trivial⟩) (by first | (show ((((splB ⟨#[44]⟩ s).length : Int) - (k + 1)).toNat : Nat) < (((splB ⟨#[44]⟩ s).length : Int) - k).toNat; omega) | (dsimp only; omega)))
    have hfin : ns = dcs s := by rw [hns]; exact map_all (by omega)
    refine x_r [(0, .dec false)] [3, 9, 10, 11, 12] [703] [.arr 703, slS true (splB (⟨#[44]⟩ : ByteArray) s), I (((splB (⟨#[44]⟩ : ByteArray) s).length) : Int), I k, Bv false] [some (tAI ns)] [¬ (k < (((splB (⟨#[44]⟩ : ByteArray) s).length) : Int))] ⟨h1, trivial⟩ ?_
    refine xe_then ?_
    refine x_seq ?_
    refine x_false rfl ?_
    refine x_exit ?_
    refine xe_exit_then ?_
    refine xe_loop_exit ?_
    refine xe_exit_same ?_
    refine xe_then ?_
    refine xR [] [2] [703] [.arr 703] [some (tAI ns)] [] trivial ?_
    refine x_ret ?_
    refine xe_end ns (show (ns = dcs s) ∧ (True) from ⟨(by exact hfin), trivial⟩) (trivial) (.arr 703) (by kernel_rfl) (.inr ⟨(fun _ => rfl), rfl, rfl, fun i _ => .inl rfl⟩) (fun _ => rfl) (fun _ => (tagI true _))
  obtain ⟨v, ⟨hh0, _⟩, hc⟩ := hh
  exact ⟨v, hh0, hc⟩
def okWs (ws : List ByteArray) : Prop := (∃ (a b : ByteArray) (lo hi : Int), ws = [wC, a, b, decB lo, decB hi] ∧ (-1000000000 ≤ lo ∧ lo ≤ 1000000000) ∧ (-1000000000 ≤ hi ∧ hi ≤ 1000000000)) ∨ (∃ rows : List (List Int), ws = wS :: rows.map comB ∧ rows.length ≤ 60 ∧ ∀ row ∈ rows, row ≠ [] ∧ row.length ≤ 6 ∧ bndI row) ∨
  (∃ (a b : Int) (t : ByteArray), ws = [wN, decB a, decB b, t] ∧ (0 ≤ a ∧ a ≤ 1000) ∧ (0 ≤ b ∧ b ≤ 1000))
open Classical in
noncomputable def flStep (f : File) (ws : List ByteArray) : File := if at_ ws 0 = wC then ⟨f.Channels ++ [⟨at_ ws 1, at_ ws 2, dcV (at_ ws 3), dcV (at_ ws 4)⟩], f.Strokes, f.Notes⟩
  else if at_ ws 0 = wS then ⟨f.Channels, f.Strokes ++ [⟨(ws.drop 1).map dcs⟩], f.Notes⟩ else ⟨f.Channels, f.Strokes, f.Notes ++ [⟨dcV (at_ ws 1), dcV (at_ ws 2), at_ ws 3⟩]⟩
theorem fs_C {f : File} {ws : List ByteArray} (h : at_ ws 0 = wC) : flStep f ws = ⟨f.Channels ++ [⟨at_ ws 1, at_ ws 2, dcV (at_ ws 3), dcV (at_ ws 4)⟩], f.Strokes, f.Notes⟩ := if_pos h
theorem fs_S {f : File} {ws : List ByteArray} (h : ¬ at_ ws 0 = wC) (h2 : at_ ws 0 = wS) : flStep f ws = ⟨f.Channels, f.Strokes ++ [⟨(ws.drop 1).map dcs⟩], f.Notes⟩ := by unfold flStep; rw [if_neg h, if_pos h2]
theorem fs_N {f : File} {ws : List ByteArray} (h : ¬ at_ ws 0 = wC) (h2 : ¬ at_ ws 0 = wS) : flStep f ws = ⟨f.Channels, f.Strokes, f.Notes ++ [⟨dcV (at_ ws 1), dcV (at_ ws 2), at_ ws 3⟩]⟩ := by unfold flStep; rw [if_neg h, if_neg h2]
theorem fs_len (f : File) (ws : List ByteArray) : (flStep f ws).Channels.length ≤ f.Channels.length + 1 ∧ (flStep f ws).Strokes.length ≤ f.Strokes.length + 1 ∧ (flStep f ws).Notes.length ≤ f.Notes.length + 1 := by
  unfold flStep
  split
  · simp
  · split <;> simp
theorem ow_1 {ws : List ByteArray} (h : okWs ws) : 1 ≤ ws.length := by
  rcases h with ⟨a, b, lo, hi, rfl, _⟩ | ⟨rows, rfl, _⟩ | ⟨a, b, t, rfl, _⟩ <;> simp
theorem ow_C {ws : List ByteArray} (h : okWs ws) (h0 : at_ ws 0 = wC) : ws.length = 5 ∧ isDec (at_ ws 3) ∧ isDec (at_ ws 4) := by
  rcases h with ⟨a, b, lo, hi, rfl, h1, h2⟩ | ⟨rows, rfl, _⟩ | ⟨a, b, t, rfl, _⟩
  · exact ⟨rfl, ⟨lo, by omega, rfl⟩, ⟨hi, by omega, rfl⟩⟩
  · exact absurd h0 (by show ¬ wS = wC; decide)
  · exact absurd h0 (by show ¬ wN = wC; decide)
theorem ow_S {ws : List ByteArray} (h : okWs ws) (h0 : at_ ws 0 = wS) : ws.length ≤ 61 ∧ ∀ j : Nat, 1 + j < ws.length → (at_ ws (1 + j)).size ≤ 2000 ∧ ∀ y ∈ splB ⟨#[44]⟩ (at_ ws (1 + j)), isDec y := by
  rcases h with ⟨a, b, lo, hi, rfl, h1, h2⟩ | ⟨rows, rfl, hn, hr⟩ | ⟨a, b, t, rfl, _⟩
  · exact absurd h0 (by show ¬ wC = wS; decide)
  · refine ⟨by simp; omega, fun j hj => ?_⟩
    have hj2 : j < rows.length := by simp at hj; omega
    have e : at_ (wS :: rows.map comB) (1 + j) = comB (at_ rows j) := by
      have : at_ (wS :: rows.map comB) (1 + j) = at_ (rows.map comB) j := by rw [Nat.add_comm]; simp [at_]
      rw [this, at_mapB hj2]
    have q := hr _ (at_mem hj2)
    rw [e]
    refine ⟨?_, com_isDec q.1 q.2.2.2⟩
    have := com_size q.2.2.2
    omega
  · exact absurd h0 (by show ¬ wN = wS; decide)
theorem ow_N {ws : List ByteArray} (h : okWs ws) (h0 : ¬ at_ ws 0 = wC) (h1 : ¬ at_ ws 0 = wS) : at_ ws 0 = wN ∧ ws.length = 4 ∧ isDec (at_ ws 1) ∧ isDec (at_ ws 2) := by
  rcases h with ⟨a, b, lo, hi, rfl, _⟩ | ⟨rows, rfl, _⟩ | ⟨a, b, t, rfl, h2, h3⟩
  · exact absurd rfl h0
  · exact absurd rfl h1
  · exact ⟨rfl, rfl, ⟨a, by omega, rfl⟩, ⟨b, by omega, rfl⟩⟩
theorem at_dropW {ws : List ByteArray} {k : Nat} : at_ (ws.drop 1) k = at_ ws (1 + k) := by rw [Nat.add_comm 1 k]; simp [at_]
theorem chr_noB {s : ByteArray} (h : okName s) {c : UInt8} (hc : c.toNat < 45) : noB c s := fun hm => by
  obtain ⟨j, hj, e⟩ := List.getElem_of_mem hm
  have hj2 : j < s.size := by rwa [Array.length_toList] at hj
  have q := chr_or (h.2.2 j hj2)
  have e2 : bAt s j = ((c.toNat : Nat) : Int) := by unfold bAt; rw [List.getD_eq_getElem?_getD, List.getElem?_eq_getElem hj, e]; rfl
  rcases q with q | q | q
  · have := inB_iff.1 q; omega
  · omega
  · omega
theorem ch_words {c : Channel} (h : okChan c) : splB ⟨#[32]⟩ (chLn c) = [wC, c.Name, c.Unit, decB c.Low, decB c.High] := by
  refine spl_join (c := 32) (by simp) fun y hy => ?_
  simp only [List.mem_cons, List.not_mem_nil, or_false] at hy
  rcases hy with rfl | rfl | rfl | rfl | rfl
  · unfold noB; decide
  · exact chr_noB h.1 (by decide)
  · exact chr_noB h.2.1 (by decide)
  · exact decB_noB (by decide) _
  · exact decB_noB (by decide) _
theorem nt_words {n : Nat} {x : Note} (h : okNote n x) : splB ⟨#[32]⟩ (ntLn x) = [wN, decB x.From, decB x.To, x.Text] := by
  refine spl_join (c := 32) (by simp) fun y hy => ?_
  simp only [List.mem_cons, List.not_mem_nil, or_false] at hy
  rcases hy with rfl | rfl | rfl | rfl
  · unfold noB; decide
  · exact decB_noB (by decide) _
  · exact decB_noB (by decide) _
  · exact chr_noB h.2 (by decide)
theorem sk_words (r : Rows) : splB ⟨#[32]⟩ (skLnF r) = wS :: r.Values.map comB := by
  refine spl_join (c := 32) (by simp) fun y hy => ?_
  rcases List.mem_cons.1 hy with rfl | hy
  · unfold noB; decide
  · obtain ⟨w, _, rfl⟩ := List.mem_map.1 hy
    exact com_noB (by decide) _
theorem fl_ws {f : File} (h : okFil f) : ∀ l ∈ filLns f, okWs (splB ⟨#[32]⟩ l) := fun l hl => by
  unfold filLns at hl
  rcases List.mem_append.1 hl with q | q
  · obtain ⟨c, hc, rfl⟩ := List.mem_map.1 q
    have ho := h.2.1 c hc
    exact .inl ⟨_, _, _, _, ch_words ho, by have := ho.2.2; omega, by have := ho.2.2; omega⟩
  · rcases List.mem_append.1 q with q | q
    · obtain ⟨r, hr, rfl⟩ := List.mem_map.1 q
      have ho := h.2.2.2.1 r hr
      refine .inr (.inl ⟨r.Values, sk_words r, ho.1.2, fun row hrow => ?_⟩)
      have hw := ho.2 row hrow
      have h1 := h.1.1
      exact ⟨fun e => by rw [e] at hw; have := hw.1; simp at this; omega, by rw [hw.1]; exact h1.2, rw_bnd h.2.1 h1.2 hw⟩
    · obtain ⟨n, hn, rfl⟩ := List.mem_map.1 q
      have ho := h.2.2.2.2 n hn
      have hs := h.1.2.1
      exact .inr (.inr ⟨_, _, _, nt_words ho, by have := ho.1; omega, by have := ho.1; omega⟩)
noncomputable def flK (L : List ByteArray) : Nat → File
  | 0 => ⟨[], [], []⟩
  | k + 1 => flStep (flK L k) (splB ⟨#[32]⟩ (at_ L k))
theorem fk_1 {f : File} (h : okFil f) : ∀ k, k ≤ f.Channels.length → flK (filLns f) k = ⟨f.Channels.take k, [], []⟩
  | 0, _ => rfl
  | k + 1, hk => by
    have ho := h.2.1 _ (at_mem (show k < f.Channels.length by omega))
    rw [flK, fk_1 h k (by omega), fl_at1 (by omega), ch_words ho, fs_C rfl]
    show (⟨f.Channels.take k ++ [⟨(at_ f.Channels k).Name, (at_ f.Channels k).Unit, dcV (decB (at_ f.Channels k).Low), dcV (decB (at_ f.Channels k).High)⟩], [], []⟩ : File) = _
    rw [dcV_dec (by have := ho.2.2; omega), dcV_dec (by have := ho.2.2; omega), List.take_succ_eq_append_getElem (by omega), at_eq (by omega)]
theorem fk_2 {f : File} (h : okFil f) : ∀ k, k ≤ f.Strokes.length → flK (filLns f) (f.Channels.length + k) = ⟨f.Channels, f.Strokes.take k, []⟩
  | 0, _ => by rw [Nat.add_zero, fk_1 h _ (Nat.le_refl _), List.take_length]; rfl
  | k + 1, hk => by
    have ho := h.2.2.2.1 _ (at_mem (show k < f.Strokes.length by omega))
    rw [← Nat.add_assoc, flK, fk_2 h k (by omega), fl_at2 (by omega), sk_words, fs_S (by show ¬ wS = wC; decide) rfl]
    have e : (at_ f.Strokes k).Values.map (dcs ∘ comB) = (at_ f.Strokes k).Values := by
      conv => rhs; rw [← List.map_id (at_ f.Strokes k).Values]
      refine List.map_congr_left fun w hw => ?_
      have hr := ho.2 w hw
      have h1 := h.1.1
      exact dcs_com (fun e => by rw [e] at hr; have := hr.1; simp at this; omega) (rw_bnd h.2.1 h1.2 hr).2
    show (⟨f.Channels, f.Strokes.take k ++ [⟨((wS :: (at_ f.Strokes k).Values.map comB).drop 1).map dcs⟩], []⟩ : File) = _
    rw [List.drop_succ_cons, List.drop_zero, List.map_map, e, List.take_succ_eq_append_getElem (by omega), at_eq (by omega)]
theorem fk_3 {f : File} (h : okFil f) : ∀ k, k ≤ f.Notes.length → flK (filLns f) (f.Channels.length + f.Strokes.length + k) = ⟨f.Channels, f.Strokes, f.Notes.take k⟩
  | 0, _ => by rw [Nat.add_zero, fk_2 h _ (Nat.le_refl _), List.take_length]; rfl
  | k + 1, hk => by
    have ho := h.2.2.2.2 _ (at_mem (show k < f.Notes.length by omega))
    have hs := h.1.2.1
    rw [← Nat.add_assoc, flK, fk_3 h k (by omega), fl_at3 (by omega), nt_words ho, fs_N (by show ¬ wN = wC; decide) (by show ¬ wN = wS; decide)]
    show (⟨f.Channels, f.Strokes, f.Notes.take k ++ [⟨dcV (decB (at_ f.Notes k).From), dcV (decB (at_ f.Notes k).To), (at_ f.Notes k).Text⟩]⟩ : File) = _
    rw [dcV_dec (by have := ho.1; omega), dcV_dec (by have := ho.1; omega), List.take_succ_eq_append_getElem (by omega), at_eq (by omega)]
theorem fk_all {f : File} (h : okFil f) : flK (filLns f) (filN f) = f := by
  have := fk_3 h f.Notes.length (Nat.le_refl _)
  rw [List.take_length] at this
  exact this
theorem fil_noB {f : File} (h : okFil f) : ∀ l ∈ filLns f, noB 10 l := fun l hl => by
  have h32 : noB 10 (⟨#[32]⟩ : ByteArray) := by simp [noB]
  unfold filLns at hl
  rcases List.mem_append.1 hl with q | q
  · obtain ⟨c, hc, rfl⟩ := List.mem_map.1 q
    have ho := h.2.1 c hc
    refine noB_join h32 fun y hy => ?_
    simp only [List.mem_cons, List.not_mem_nil, or_false] at hy
    rcases hy with rfl | rfl | rfl | rfl | rfl
    · unfold noB; decide
    · exact chr_noB ho.1 (by decide)
    · exact chr_noB ho.2.1 (by decide)
    · exact decB_noB (by decide) _
    · exact decB_noB (by decide) _
  · rcases List.mem_append.1 q with q | q
    · obtain ⟨r, hr, rfl⟩ := List.mem_map.1 q
      refine noB_join h32 fun y hy => ?_
      rcases List.mem_cons.1 hy with rfl | hy
      · unfold noB; decide
      · obtain ⟨w, _, rfl⟩ := List.mem_map.1 hy
        exact com_noB (by decide) _
    · obtain ⟨n, hn, rfl⟩ := List.mem_map.1 q
      have ho := h.2.2.2.2 n hn
      refine noB_join h32 fun y hy => ?_
      simp only [List.mem_cons, List.not_mem_nil, or_false] at hy
      rcases hy with rfl | rfl | rfl | rfl
      · unfold noB; decide
      · exact decB_noB (by decide) _
      · exact decB_noB (by decide) _
      · exact chr_noB ho.2 (by decide)
theorem fil_lin {f : File} (h : okFil f) : linB (filTx f) = filLns f ∧ linOk (filTx f) := by
  have e : filTx f = linesX (filLns f) (filLns f).length := by rw [filLns_len]; rfl
  rw [e]
  exact ⟨lin_lines (fil_noB h), linOk_lines (by rw [filLns_len]; exact Nat.le_trans (filL_size h (Nat.le_refl _)) (by decide))⟩
theorem fil_inj {f g : File} (h : okFil f) (h2 : okFil g) (e : filTx f = filTx g) : f = g := by
  have q := (fil_lin h).1
  rw [e, (fil_lin h2).1] at q
  rw [← fk_all h, ← fk_all h2, ← filLns_len, ← filLns_len, q]
theorem readFileLine_ok (f : File) (words : List ByteArray) (hw : okWs words) (hn : f.Channels.length ≤ 100 ∧ f.Strokes.length ≤ 100 ∧ f.Notes.length ≤ 100) : ∃ (v : Bool) (f' : File), (v = true) ∧ (f' = flStep f words) ∧ CallC Tryz.prog 42 [6] [.ref 6 0, slS false words] (lookO [(6, .box [.arr 760, .arr 761, .arr 762]), (760, tAChannel f.Channels), (761, tARows false f.Strokes), (762, tANote f.Notes)]) true (Bv v) (lookO [(6, .box [.arr 770, .arr 771, .arr 772]), (770, tAChannel f'.Channels), (771, tARows false f'.Strokes), (772, tANote f'.Notes)]) := by
  have hw1 := ow_1 hw
  have hh : ∃ r : Bool × File, ((r.1 = true) ∧ (r.2 = flStep f words) ∧ (True)) ∧ CallC Tryz.prog 42 [6] [.ref 6 0, slS false words] (lookO [(6, .box [.arr 760, .arr 761, .arr 762]), (760, tAChannel f.Channels), (761, tARows false f.Strokes), (762, tANote f.Notes)]) true (Bv r.1) (lookO [(6, .box [.arr 770, .arr 771, .arr 772]), (770, tAChannel r.2.Channels), (771, tARows false r.2.Strokes), (772, tANote r.2.Notes)]) := by
    refine fn_okXC (Φ := fun r : Bool × File => (r.1 = true) ∧ (r.2 = flStep f words) ∧ (True)) [6] [(6, .box [.arr 760, .arr 761, .arr 762]), (760, tAChannel f.Channels), (761, tARows false f.Strokes), (762, tANote f.Notes)] (fun r => [(6, .box [.arr 770, .arr 771, .arr 772]), (770, tAChannel r.2.Channels), (771, tARows false r.2.Strokes), (772, tANote r.2.Notes)]) (fn := Tryz.f42) (nt := 127) Tryz.func42 rfl rfl (args := [.ref 6 0, slS false words]) rfl (allcons (.inr trivial) (allcons (.inl ⟨rfl, tagS false _⟩) allnil)) (res := fun r => Bv r.1) ?_
    refine xR [] [0, 1] [6, 760, 761, 762] [.ref 6 0, slS false words] [some (.box [.arr 760, .arr 761, .arr 762]), some (tAChannel f.Channels), some (tARows false f.Strokes), some (tANote f.Notes)] [] trivial ?_
    refine x_seq ?_
    refine x_block ?_
    refine x_seq ?_
    by_cases h1 : (at_ words 0) = (⟨#[99, 104, 97, 110, 110, 101, 108]⟩ : ByteArray)
    ·have hC : at_ words 0 = wC := h1
     have hc5 := ow_C hw hC
     have hfs := fs_C (f := f) hC
     refine x_r [(3, .dec true), (7, .dec true)] [0, 1, 16] [6, 760, 761, 762] [.ref 6 0, slS false words, Bv true] [some (.box [.arr 760, .arr 761, .arr 762]), some (tAChannel f.Channels), some (tARows false f.Strokes), some (tANote f.Notes)] [(0 : Int) ≤ 0 ∧ 0 < (words.length : Int), (at_ words 0) = (⟨#[99, 104, 97, 110, 110, 101, 108]⟩ : ByteArray), (words.length : Int) = 5] ⟨⟨(by omega), (by omega)⟩, h1, (by have q_ := hc5.1; omega), trivial⟩ ?_
     refine xe_then ?_
     refine x_true rfl ?_
     refine xR [(3, .call [(true, .any)] true (.tup [I (dcV (at_ words 3)), Bv true]))] [0, 1, 5] [6, 760, 761, 762] [.ref 6 0, slS false words, I (dcV (at_ words 3))] [some (.box [.arr 760, .arr 761, .arr 762]), some (tAChannel f.Channels), some (tARows false f.Strokes), some (tANote f.Notes)] [(0 : Int) ≤ 3 ∧ 3 < (words.length : Int), Con Tryz.prog 66 [Sv (at_ words 3)] true (.tup [I (dcV (at_ words 3)), Bv true]) ∧ True] ⟨⟨(by first | omega | (have q_ := hc5.1; omega)), (by first | omega | (have q_ := hc5.1; omega))⟩, ⟨(readDec_ok (at_ words 3) hc5.2.1), trivial⟩, trivial⟩ ?_
     refine xR [(3, .call [(true, .any)] true (.tup [I (dcV (at_ words 4)), Bv true]))] [0, 1, 5, 7] [6, 760, 761, 762] [.ref 6 0, slS false words, I (dcV (at_ words 3)), I (dcV (at_ words 4))] [some (.box [.arr 760, .arr 761, .arr 762]), some (tAChannel f.Channels), some (tARows false f.Strokes), some (tANote f.Notes)] [(0 : Int) ≤ 4 ∧ 4 < (words.length : Int), Con Tryz.prog 66 [Sv (at_ words 4)] true (.tup [I (dcV (at_ words 4)), Bv true]) ∧ True] ⟨⟨(by first | omega | (have q_ := hc5.1; omega)), (by first | omega | (have q_ := hc5.1; omega))⟩, ⟨(readDec_ok (at_ words 4) hc5.2.2), trivial⟩, trivial⟩ ?_
     refine x_r [(14, .new 54), (15, .new 55)] [] [6, 55, 761, 762] [] [some (.box [.arr 55, .arr 761, .arr 762]), some (.arr 4 (f.Channels.length + 1) (catF f.Channels.length (fChannel f.Channels) (litF [Sv (at_ words 1), Sv (at_ words 2), I (dcV (at_ words 3)), I (dcV (at_ words 4))] 4))), some (tARows false f.Strokes), some (tANote f.Notes)] [(0 : Int) ≤ 1 ∧ 1 < (words.length : Int), (0 : Int) ≤ 2 ∧ 2 < (words.length : Int), (f.Channels.length + 1) * 48 ≤ 140737488355328] ⟨⟨(by omega), (by omega)⟩, ⟨(by omega), (by omega)⟩, (by omega), trivial⟩ ?_
     refine xe_block 0 ?_
     refine xe_then ?_
     refine xR [] [4] [6, 55, 761, 762] [Bv true] [some (.box [.arr 55, .arr 761, .arr 762]), some (.arr 4 (f.Channels.length + 1) (catF f.Channels.length (fChannel f.Channels) (litF [Sv (at_ words 1), Sv (at_ words 2), I (dcV (at_ words 3)), I (dcV (at_ words 4))] 4))), some (tARows false f.Strokes), some (tANote f.Notes)] [] trivial ?_
     refine x_ret ?_
     refine xe_weak [(770, 55), (771, 761), (772, 762)] (T := [(4, Bv true)]) (O := [(6, .box [.arr 770, .arr 771, .arr 772]), (770, tAChannel (f.Channels ++ [(Channel.mk (at_ words 1) (at_ words 2) (dcV (at_ words 3)) (dcV (at_ words 4)))])), (771, tARows false f.Strokes), (772, tANote f.Notes)]) rfl (⟨.inl rfl, trivial⟩) (⟨.inl rfl, .inr ⟨rfl, (by first | rfl | (simp; done) | (simp; omega) | omega), fun i_ hi_ => .inl (cat_snoc (enc := cChannel) (xs := f.Channels) rfl i_ hi_)⟩, .inl rfl, .inl rfl, trivial⟩) ?_
     refine xe_end (true, (File.mk (f.Channels ++ [(Channel.mk (at_ words 1) (at_ words 2) (dcV (at_ words 3)) (dcV (at_ words 4)))]) f.Strokes f.Notes)) (show (true = true) ∧ ((File.mk (f.Channels ++ [(Channel.mk (at_ words 1) (at_ words 2) (dcV (at_ words 3)) (dcV (at_ words 4)))]) f.Strokes f.Notes) = flStep f words) ∧ (True) from ⟨(by rfl), (by first | (rw [hfs]; done) | (rw [hfs, ← hfv]; done)), trivial⟩) (⟨.inl rfl, .inl rfl, .inl rfl, .inl rfl, trivial⟩) (Bv true) (by kernel_rfl) (.inl rfl) (fun _ => rfl) (fun _ => trivial)
    have hnC : ¬ at_ words 0 = wC := h1
    refine x_r [(3, .dec false)] [0, 1, 16] [6, 760, 761, 762] [.ref 6 0, slS false words, Bv false] [some (.box [.arr 760, .arr 761, .arr 762]), some (tAChannel f.Channels), some (tARows false f.Strokes), some (tANote f.Notes)] [(0 : Int) ≤ 0 ∧ 0 < (words.length : Int), ¬ ((at_ words 0) = (⟨#[99, 104, 97, 110, 110, 101, 108]⟩ : ByteArray))] ⟨⟨(by omega), (by omega)⟩, h1, trivial⟩ ?_
    refine xe_then ?_
    refine x_false rfl ?_
    refine x_seq ?_
    by_cases h2 : (at_ words 0) = (⟨#[115, 116, 114, 111, 107, 101]⟩ : ByteArray)
    ·have hS : at_ words 0 = wS := h2
     have hsp := ow_S hw hS
     have hsl := hsp.1
     have hfs := fs_S (f := f) hnC hS
     refine x_r [(3, .dec true)] [0, 1, 58] [6, 760, 761, 762] [.ref 6 0, slS false words, Bv true] [some (.box [.arr 760, .arr 761, .arr 762]), some (tAChannel f.Channels), some (tARows false f.Strokes), some (tANote f.Notes)] [(0 : Int) ≤ 0 ∧ 0 < (words.length : Int), (at_ words 0) = (⟨#[115, 116, 114, 111, 107, 101]⟩ : ByteArray)] ⟨⟨(by omega), (by omega)⟩, h2, trivial⟩ ?_
     refine xe_then ?_
     refine x_true rfl ?_
     refine xR [(0, .new 9)] [0, 1, 9] [6, 9, 760, 761, 762] [.ref 6 0, slS false words, .ref 9 0] [some (.box [.arr 760, .arr 761, .arr 762]), some (.box [nilA]), some (tAChannel f.Channels), some (tARows false f.Strokes), some (tANote f.Notes)] [] trivial ?_
     refine x_seq ?_
     refine xR [] [0, 9, 64, 65, 66] [6, 9, 760, 761, 762] [.ref 6 0, .ref 9 0, .sl false 1 ((words.length : Int).toNat - 1) (cutF 1 (fS words)), I (((words.length : Int).toNat - 1 : Nat) : Int), I 0] [some (.box [.arr 760, .arr 761, .arr 762]), some (.box [nilA]), some (tAChannel f.Channels), some (tARows false f.Strokes), some (tANote f.Notes)] [(0 : Int) ≤ 1 ∧ (1 : Int) ≤ (words.length : Int) ∧ (words.length : Int) ≤ (words.length : Int)] ⟨⟨(by omega), (by omega), (by omega)⟩, trivial⟩ ?_
     refine x_block ?_
     refine x_nilC 9 0 790 1 (fun _ => []) rfl (by kernel_rfl) ?_
     refine x_weak [] (T := [(0, .ref 6 0), (9, .ref 9 0), (64, .sl false 1 ((words.length : Int).toNat - 1) (cutF 1 (fS words))), (65, I (((words.length : Int).toNat - 1 : Nat) : Int)), (66, I 0)]) (O := [(6, .box [.arr 760, .arr 761, .arr 762]), (9, .box [.arr 790]), (760, tAChannel f.Channels), (761, tARows false f.Strokes), (762, tANote f.Notes), (790, .arr 1 (([] : List (List Int)).length) (fLI true ([] : List (List Int))))]) rfl (⟨.inl rfl, .inl rfl, .inl rfl, .inl rfl, .inl rfl, trivial⟩) (⟨.inl rfl, .inl rfl, .inl rfl, .inl rfl, .inl rfl, .inr ⟨rfl, (by first | rfl | (simp; done) | (simp; omega) | omega), fun i_ hi_ => absurd hi_ (Nat.not_lt_zero _)⟩, trivial⟩) ?_
     refine x_loop (X := Int × (List (List Int))) (fun x => mkS [(0, .ref 6 0), (9, .ref 9 0), (64, .sl false 1 ((words.length : Int).toNat - 1) (cutF 1 (fS words))), (65, I (((words.length : Int).toNat - 1 : Nat) : Int)), (66, I x.1)] [(6, .box [.arr 760, .arr 761, .arr 762]), (9, .box [.arr 790]), (760, tAChannel f.Channels), (761, tARows false f.Strokes), (762, tANote f.Notes), (790, .arr 1 x.2.length (fLI true x.2))]) (fun x => (0 ≤ x.1 ∧ x.1 ≤ ((words.length - 1 : Nat) : Int)) ∧ ((x.2.length : Int) = x.1) ∧ (x.2 = ((words.drop 1).take x.1.toNat).map dcs) ∧ True) (fun x => (((words.length - 1 : Nat) : Int) - x.1).toNat) (0, ([] : List (List Int))) rfl (show (0 ≤ (0 : Int) ∧ (0 : Int) ≤ ((words.length - 1 : Nat) : Int)) ∧ ((([] : List (List Int)).length : Int) = (0 : Int)) ∧ (([] : List (List Int)) = ((words.drop 1).take (0 : Int).toNat).map dcs) ∧ True from ⟨(by omega), (by rfl), (by rfl), trivial⟩) (fun x hI => ?_)
     obtain ⟨t66, vs⟩ := x
     obtain ⟨hk0, hvl, hvs, _⟩ : (0 ≤ t66 ∧ t66 ≤ ((words.length - 1 : Nat) : Int)) ∧ ((vs.length : Int) = t66) ∧ (vs = ((words.drop 1).take t66.toNat).map dcs) ∧ True := hI
     show XW _ _ _ _ (mkS [(0, .ref 6 0), (9, .ref 9 0), (64, .sl false 1 ((words.length : Int).toNat - 1) (cutF 1 (fS words))), (65, I (((words.length : Int).toNat - 1 : Nat) : Int)), (66, I t66)] [(6, .box [.arr 760, .arr 761, .arr 762]), (9, .box [.arr 790]), (760, tAChannel f.Channels), (761, tARows false f.Strokes), (762, tANote f.Notes), (790, .arr 1 vs.length (fLI true vs))]) _ _
     refine x_seq ?_
     by_cases h3 : t66 < (((words.length : Int).toNat - 1 : Nat) : Int)
     ·have hk : 1 + t66.toNat < words.length := by omega
      have hpc := hsp.2 t66.toNat hk
      have hpz := hpc.1
      have hkk : (t66 + 1).toNat = t66.toNat + 1 := by omega
      refine x_r [(0, .dec true)] [0, 9, 64, 65, 66, 67] [6, 9, 760, 761, 762, 790] [.ref 6 0, .ref 9 0, .sl false 1 ((words.length : Int).toNat - 1) (cutF 1 (fS words)), I (((words.length : Int).toNat - 1 : Nat) : Int), I t66, Bv true] [some (.box [.arr 760, .arr 761, .arr 762]), some (.box [.arr 790]), some (tAChannel f.Channels), some (tARows false f.Strokes), some (tANote f.Notes), some (.arr 1 vs.length (fLI true vs))] [t66 < (((words.length : Int).toNat - 1 : Nat) : Int)] ⟨h3, trivial⟩ ?_
      refine xe_then ?_
      refine x_seq ?_
      refine x_true rfl ?_
      refine x_skip ?_
      refine xe_then ?_
      refine x_seq ?_
      refine x_block ?_
      refine xR [] [0, 9, 11, 64, 65, 66] [6, 9, 760, 761, 762, 790] [.ref 6 0, .ref 9 0, Sv (at_ words (1 + t66.toNat)), .sl false 1 ((words.length : Int).toNat - 1) (cutF 1 (fS words)), I (((words.length : Int).toNat - 1 : Nat) : Int), I t66] [some (.box [.arr 760, .arr 761, .arr 762]), some (.box [.arr 790]), some (tAChannel f.Channels), some (tARows false f.Strokes), some (tANote f.Notes), some (.arr 1 vs.length (fLI true vs))] [(0 : Int) ≤ t66 ∧ t66 < (((words.length : Int).toNat - 1 : Nat) : Int)] ⟨⟨(by omega), (by omega)⟩, trivial⟩ ?_
      refine x_weak [] (T := [(0, .ref 6 0), (9, .ref 9 0), (11, Sv (at_ words (1 + t66.toNat))), (64, .sl false 1 ((words.length : Int).toNat - 1) (cutF 1 (fS words))), (65, I (((words.length : Int).toNat - 1 : Nat) : Int)), (66, I t66)]) (O := [(6, .box [.arr 760, .arr 761, .arr 762]), (9, .box [.arr 790]), (760, tAChannel f.Channels), (761, tARows false f.Strokes), (762, tANote f.Notes), (790, .oar [] 1 vs.length (fLI true vs))]) rfl (⟨.inl rfl, .inl rfl, .inl rfl, .inl rfl, .inl rfl, .inl rfl, trivial⟩) (⟨.inl rfl, .inl rfl, .inl rfl, .inl rfl, .inl rfl, .inr ⟨rfl, rfl, fun i hi => rfl⟩, trivial⟩) ?_
      obtain ⟨v_1, hx1_0, hc1⟩ := numbersOf_ok (at_ words (1 + t66.toNat)) (by omega) hpc.2
      have hnm := hx1_0
      refine x_r [(3, .call [(true, .any)] true (slI true v_1)), (4, .new 74), (5, .new 75)] [0, 9, 64, 65, 66] [6, 9, 75, 760, 761, 762] [.ref 6 0, .ref 9 0, .sl false 1 ((words.length : Int).toNat - 1) (cutF 1 (fS words)), I (((words.length : Int).toNat - 1 : Nat) : Int), I t66] [some (.box [.arr 760, .arr 761, .arr 762]), some (.box [.arr 75]), some (.oar [] 1 (vs.length + 1) (catF vs.length (fLI true vs) (litF [slI true v_1] 1))), some (tAChannel f.Channels), some (tARows false f.Strokes), some (tANote f.Notes)] [Con Tryz.prog 98 [Sv (at_ words (1 + t66.toNat))] true (slI true v_1) ∧ True, (vs.length + 1) * 24 ≤ 140737488355328] ⟨⟨hc1, trivial⟩, (by omega), trivial⟩ ?_
      refine xe_block 2 ?_
      refine xe_then ?_
      refine x_r [] [0, 9, 64, 65, 66] [6, 9, 75, 760, 761, 762] [.ref 6 0, .ref 9 0, .sl false 1 ((words.length : Int).toNat - 1) (cutF 1 (fS words)), I (((words.length : Int).toNat - 1 : Nat) : Int), I (t66 + 1)] [some (.box [.arr 760, .arr 761, .arr 762]), some (.box [.arr 75]), some (.oar [] 1 (vs.length + 1) (catF vs.length (fLI true vs) (litF [slI true v_1] 1))), some (tAChannel f.Channels), some (tARows false f.Strokes), some (tANote f.Notes)] [inR .i64 (t66 + 1)] ⟨(inR_i64 (by omega) (by omega)), trivial⟩ ?_
      refine xe_weak [(790, 75)] (T := [(0, .ref 6 0), (9, .ref 9 0), (64, .sl false 1 ((words.length : Int).toNat - 1) (cutF 1 (fS words))), (65, I (((words.length : Int).toNat - 1 : Nat) : Int)), (66, I (t66 + 1))]) (O := [(6, .box [.arr 760, .arr 761, .arr 762]), (9, .box [.arr 790]), (760, tAChannel f.Channels), (761, tARows false f.Strokes), (762, tANote f.Notes), (790, .arr 1 ((vs ++ [v_1]).length) (fLI true (vs ++ [v_1])))]) rfl (⟨.inl rfl, .inl rfl, .inl rfl, .inl rfl, .inl rfl, trivial⟩) (⟨.inl rfl, .inl rfl, .inl rfl, .inl rfl, .inl rfl, .inr ⟨rfl, (by simp), oaddLI vs v_1 ⟨⟨(fun _ => rfl), rfl, rfl, fun i _ => .inl rfl⟩, rfl⟩⟩, trivial⟩) (xe_again ((t66 + 1), (vs ++ [v_1])) rfl (show (0 ≤ (t66 + 1) ∧ (t66 + 1) ≤ ((words.length - 1 : Nat) : Int)) ∧ (((vs ++ [v_1]).length : Int) = (t66 + 1)) ∧ ((vs ++ [v_1]) = ((words.drop 1).take (t66 + 1).toNat).map dcs) ∧ True from ⟨(by omega), (by simp; omega), (by rw [hvs, hnm, hkk, List.take_succ_eq_append_getElem (by simp; omega), List.map_append, ← at_dropW, at_eq (by simp; omega)]; rfl), trivial⟩) (by first | (show ((((words.length - 1 : Nat) : Int) - (t66 + 1)).toNat : Nat) < (((words.length - 1 : Nat) : Int) - t66).toNat; omega) | (dsimp only; omega)))
     have hfv : vs = (words.drop 1).map dcs := by rw [hvs, List.take_of_length_le (by simp; omega)]
     refine x_r [(0, .dec false)] [0, 9, 64, 65, 66, 67] [6, 9, 760, 761, 762, 790] [.ref 6 0, .ref 9 0, .sl false 1 ((words.length : Int).toNat - 1) (cutF 1 (fS words)), I (((words.length : Int).toNat - 1 : Nat) : Int), I t66, Bv false] [some (.box [.arr 760, .arr 761, .arr 762]), some (.box [.arr 790]), some (tAChannel f.Channels), some (tARows false f.Strokes), some (tANote f.Notes), some (.arr 1 vs.length (fLI true vs))] [¬ (t66 < (((words.length : Int).toNat - 1 : Nat) : Int))] ⟨h3, trivial⟩ ?_
     refine xe_then ?_
     refine x_seq ?_
     refine x_false rfl ?_
     refine x_exit ?_
     refine xe_exit_then ?_
     refine xe_loop_exit ?_
     refine xe_exit_same ?_
     refine xe_then ?_
     refine x_weak [] (T := [(0, .ref 6 0), (9, .ref 9 0), (64, .sl false 1 ((words.length : Int).toNat - 1) (cutF 1 (fS words))), (65, I (((words.length : Int).toNat - 1 : Nat) : Int)), (66, I t66), (67, Bv false)]) (O := [(6, .box [.arr 760, .arr 761, .arr 762]), (9, .box [.arr 790]), (760, tAChannel f.Channels), (761, .oar [] 1 f.Strokes.length (fRows false f.Strokes)), (762, tANote f.Notes), (790, .arr 1 vs.length (fLI true vs))]) rfl (⟨.inl rfl, .inl rfl, .inl rfl, .inl rfl, .inl rfl, .inl rfl, trivial⟩) (⟨.inl rfl, .inl rfl, .inl rfl, .inr ⟨rfl, rfl, fun i hi => rfl⟩, .inl rfl, .inl rfl, trivial⟩) ?_
     refine x_r [(6, .new 84), (7, .new 85)] [] [6, 85, 760, 762, 790] [] [some (.box [.arr 760, .arr 85, .arr 762]), some (.oar [790] 1 (f.Strokes.length + 1) (catF f.Strokes.length (fRows false f.Strokes) (litF [.arr 790] 1))), some (tAChannel f.Channels), some (tANote f.Notes), some (.arr 1 vs.length (fLI true vs))] [(f.Strokes.length + 1) * 24 ≤ 140737488355328] ⟨(by omega), trivial⟩ ?_
     refine xe_block 0 ?_
     refine xe_then ?_
     refine xR [] [4] [6, 85, 760, 762, 790] [Bv true] [some (.box [.arr 760, .arr 85, .arr 762]), some (.oar [790] 1 (f.Strokes.length + 1) (catF f.Strokes.length (fRows false f.Strokes) (litF [.arr 790] 1))), some (tAChannel f.Channels), some (tANote f.Notes), some (.arr 1 vs.length (fLI true vs))] [] trivial ?_
     refine x_ret ?_
     refine xe_weak [(770, 760), (771, 85), (772, 762)] (T := [(4, Bv true)]) (O := [(6, .box [.arr 770, .arr 771, .arr 772]), (770, tAChannel f.Channels), (771, tARows false (f.Strokes ++ [(Rows.mk vs)])), (772, tANote f.Notes)]) rfl (⟨.inl rfl, trivial⟩) (⟨.inl rfl, .inl rfl, .inr ⟨rfl, (by simp), oaddnRows f.Strokes (Rows.mk vs) ⟨⟨(fun h => by cases h), rfl, rfl, fun i _ => .inr ⟨idsLI _ _, leLI _ _ _⟩⟩, rfl⟩⟩, .inl rfl, trivial⟩) ?_
     refine xe_end (true, (File.mk f.Channels (f.Strokes ++ [(Rows.mk vs)]) f.Notes)) (show (true = true) ∧ ((File.mk f.Channels (f.Strokes ++ [(Rows.mk vs)]) f.Notes) = flStep f words) ∧ (True) from ⟨(by rfl), (by first | (rw [hfs]; done) | (rw [hfs, ← hfv]; done)), trivial⟩) (⟨.inl rfl, .inl rfl, .inl rfl, .inl rfl, trivial⟩) (Bv true) (by kernel_rfl) (.inl rfl) (fun _ => rfl) (fun _ => trivial)
    have hnS : ¬ at_ words 0 = wS := h2
    have hN := ow_N hw hnC hnS
    have hn4 := hN.2.1
    have hfs := fs_N (f := f) hnC hnS
    refine x_r [(3, .dec false)] [0, 1, 58] [6, 760, 761, 762] [.ref 6 0, slS false words, Bv false] [some (.box [.arr 760, .arr 761, .arr 762]), some (tAChannel f.Channels), some (tARows false f.Strokes), some (tANote f.Notes)] [(0 : Int) ≤ 0 ∧ 0 < (words.length : Int), ¬ ((at_ words 0) = (⟨#[115, 116, 114, 111, 107, 101]⟩ : ByteArray))] ⟨⟨(by omega), (by omega)⟩, h2, trivial⟩ ?_
    refine xe_then ?_
    refine x_false rfl ?_
    refine xR [(3, .dec true), (7, .dec true)] [0, 1, 88] [6, 760, 761, 762] [.ref 6 0, slS false words, Bv true] [some (.box [.arr 760, .arr 761, .arr 762]), some (tAChannel f.Channels), some (tARows false f.Strokes), some (tANote f.Notes)] [(0 : Int) ≤ 0 ∧ 0 < (words.length : Int), (at_ words 0) = (⟨#[110, 111, 116, 101]⟩ : ByteArray), (words.length : Int) = 4] ⟨⟨(by omega), (by omega)⟩, hN.1, (by omega), trivial⟩ ?_
    refine x_true rfl ?_
    refine xR [(3, .call [(true, .any)] true (.tup [I (dcV (at_ words 1)), Bv true]))] [0, 1, 12] [6, 760, 761, 762] [.ref 6 0, slS false words, I (dcV (at_ words 1))] [some (.box [.arr 760, .arr 761, .arr 762]), some (tAChannel f.Channels), some (tARows false f.Strokes), some (tANote f.Notes)] [(0 : Int) ≤ 1 ∧ 1 < (words.length : Int), Con Tryz.prog 66 [Sv (at_ words 1)] true (.tup [I (dcV (at_ words 1)), Bv true]) ∧ True] ⟨⟨(by omega), (by omega)⟩, ⟨(readDec_ok (at_ words 1) hN.2.2.1), trivial⟩, trivial⟩ ?_
    refine xR [(3, .call [(true, .any)] true (.tup [I (dcV (at_ words 2)), Bv true]))] [0, 1, 12, 14] [6, 760, 761, 762] [.ref 6 0, slS false words, I (dcV (at_ words 1)), I (dcV (at_ words 2))] [some (.box [.arr 760, .arr 761, .arr 762]), some (tAChannel f.Channels), some (tARows false f.Strokes), some (tANote f.Notes)] [(0 : Int) ≤ 2 ∧ 2 < (words.length : Int), Con Tryz.prog 66 [Sv (at_ words 2)] true (.tup [I (dcV (at_ words 2)), Bv true]) ∧ True] ⟨⟨(by omega), (by omega)⟩, ⟨(readDec_ok (at_ words 2) hN.2.2.2), trivial⟩, trivial⟩ ?_
    refine x_r [(11, .new 123), (12, .new 124)] [] [6, 124, 760, 761] [] [some (.box [.arr 760, .arr 761, .arr 124]), some (.arr 3 (f.Notes.length + 1) (catF f.Notes.length (fNote f.Notes) (litF [I (dcV (at_ words 1)), I (dcV (at_ words 2)), Sv (at_ words 3)] 3))), some (tAChannel f.Channels), some (tARows false f.Strokes)] [(0 : Int) ≤ 3 ∧ 3 < (words.length : Int), (f.Notes.length + 1) * 32 ≤ 140737488355328] ⟨⟨(by first | omega | (have q_ := hc5.1; omega)), (by first | omega | (have q_ := hc5.1; omega))⟩, (by omega), trivial⟩ ?_
    refine xe_block 0 ?_
    refine xe_then ?_
    refine xR [] [4] [6, 124, 760, 761] [Bv true] [some (.box [.arr 760, .arr 761, .arr 124]), some (.arr 3 (f.Notes.length + 1) (catF f.Notes.length (fNote f.Notes) (litF [I (dcV (at_ words 1)), I (dcV (at_ words 2)), Sv (at_ words 3)] 3))), some (tAChannel f.Channels), some (tARows false f.Strokes)] [] trivial ?_
    refine x_ret ?_
    refine xe_weak [(770, 760), (771, 761), (772, 124)] (T := [(4, Bv true)]) (O := [(6, .box [.arr 770, .arr 771, .arr 772]), (770, tAChannel f.Channels), (771, tARows false f.Strokes), (772, tANote (f.Notes ++ [(Note.mk (dcV (at_ words 1)) (dcV (at_ words 2)) (at_ words 3))]))]) rfl (⟨.inl rfl, trivial⟩) (⟨.inl rfl, .inl rfl, .inl rfl, .inr ⟨rfl, (by first | rfl | (simp; done) | (simp; omega) | omega), fun i_ hi_ => .inl (cat_snoc (enc := cNote) (xs := f.Notes) rfl i_ hi_)⟩, trivial⟩) ?_
    refine xe_end (true, (File.mk f.Channels f.Strokes (f.Notes ++ [(Note.mk (dcV (at_ words 1)) (dcV (at_ words 2)) (at_ words 3))]))) (show (true = true) ∧ ((File.mk f.Channels f.Strokes (f.Notes ++ [(Note.mk (dcV (at_ words 1)) (dcV (at_ words 2)) (at_ words 3))])) = flStep f words) ∧ (True) from ⟨(by rfl), (by first | (rw [hfs]; done) | (rw [hfs, ← hfv]; done)), trivial⟩) (⟨.inl rfl, .inl rfl, .inl rfl, .inl rfl, trivial⟩) (Bv true) (by kernel_rfl) (.inl rfl) (fun _ => rfl) (fun _ => trivial)
  obtain ⟨⟨v, f'⟩, ⟨hh0, hh1, _⟩, hc⟩ := hh
  exact ⟨v, f', hh0, hh1, hc⟩
theorem ReadFile_ok (s : ByteArray) (ok : ∃ fl, okFil fl ∧ s = filTx fl) : ∃ (v : File) (c : Bool), (∀ fl, okFil fl → s = filTx fl → v = fl) ∧ (c = true) ∧ Con Tryz.prog 14 [Sv s] false (.tup [agFile v, Bv c]) := by
  obtain ⟨fl, hok, hsi⟩ := ok
  have huq : ∀ f2, okFil f2 → s = filTx f2 → fl = f2 := fun f2 h2 q2 => fil_inj hok h2 (hsi.symm.trans q2)
  have hls : linB s = filLns fl := by rw [hsi]; exact (fil_lin hok).1
  have hlo : linOk s := by rw [hsi]; exact (fil_lin hok).2
  have hh : ∃ r : File × Bool, ((∀ fl, okFil fl → s = filTx fl → r.1 = fl) ∧ (r.2 = true) ∧ (True)) ∧ CallOK Tryz.prog 14 [Sv s] (lookO []) false (.tup [agFile r.1, Bv r.2]) (lookO []) := by
    refine fn_okX (Φ := fun r : File × Bool => (∀ fl, okFil fl → s = filTx fl → r.1 = fl) ∧ (r.2 = true) ∧ (True)) [] (fun r => []) (fn := Tryz.f14) (nt := 40) Tryz.func14 rfl rfl (args := [Sv s]) rfl (allcons (.inl ⟨rfl, trivial⟩) allnil) (res := fun r => .tup [agFile r.1, Bv r.2]) ?_
    refine xR [(0, .new 2)] [0, 2] [2] [Sv s, .ref 2 0] [some (.box [nilA, nilA, nilA])] [] trivial ?_
    refine x_seq ?_
    obtain ⟨ls_1, k_1, hx1_0, hx1_1, hc1⟩ := linesOf_ok s hlo
    have hlv : ls_1 = filLns fl := by rw [hx1_0, hls]
    have hlk := hx1_1
    have hll : ls_1.length = filN fl := by rw [hlv, filLns_len]
    have hl34 : filN fl ≤ 34 := by have q_ := hok.1; unfold filN; omega
    refine x_r [(1, .call [(true, .any)] true (.tup [slS true ls_1, Bv k_1]))] [0, 2, 4, 5] [2] [Sv s, .ref 2 0, slS true ls_1, Bv k_1] [some (.box [nilA, nilA, nilA])] [Con Tryz.prog 41 [Sv s] true (.tup [slS true ls_1, Bv k_1]) ∧ True] ⟨⟨hc1, trivial⟩, trivial⟩ ?_
    refine xe_then ?_
    refine x_seq ?_
    refine x_seq ?_
    rcases Bool.eq_false_or_eq_true k_1 with h1 | h1
    ·subst h1
     refine x_r [] [0, 2, 4, 15] [2] [Sv s, .ref 2 0, slS true ls_1, Bv false] [some (.box [nilA, nilA, nilA])] [] trivial ?_
     refine xe_then ?_
     refine x_false rfl ?_
     refine x_skip ?_
     refine xe_then ?_
     refine xR [(0, .new 6)] [0, 2, 4, 6] [2, 6] [Sv s, .ref 2 0, slS true ls_1, .ref 6 0] [some (.box [nilA, nilA, nilA]), some (.box [nilA, nilA, nilA])] [] trivial ?_
     refine x_seq ?_
     refine xR [] [0, 2, 6, 17, 18, 19] [2, 6] [Sv s, .ref 2 0, .ref 6 0, slS true ls_1, I (ls_1.length : Int), I 0] [some (.box [nilA, nilA, nilA]), some (.box [nilA, nilA, nilA])] [] trivial ?_
     refine x_block ?_
     refine x_nilC 6 0 760 4 (fun _ => []) rfl (by kernel_rfl) ?_
     refine x_nilC 6 1 761 1 (fun _ => []) rfl (by kernel_rfl) ?_
     refine x_nilC 6 2 762 3 (fun _ => []) rfl (by kernel_rfl) ?_
     refine x_weak [] (T := [(0, Sv s), (2, .ref 2 0), (6, .ref 6 0), (17, slS true ls_1), (18, I (ls_1.length : Int)), (19, I 0)]) (O := [(2, .box [nilA, nilA, nilA]), (6, .box [.arr 760, .arr 761, .arr 762]), (760, tAChannel ([] : List Channel)), (761, tARows false ([] : List Rows)), (762, tANote ([] : List Note))]) rfl (⟨.inl rfl, .inl rfl, .inl rfl, .inl rfl, .inl rfl, .inl rfl, trivial⟩) (⟨.inl rfl, .inl rfl, .inr ⟨rfl, (by first | rfl | (simp; done) | (simp; omega) | omega), fun i_ hi_ => absurd hi_ (Nat.not_lt_zero _)⟩, .inr ⟨rfl, (by first | rfl | (simp; done) | (simp; omega) | omega), fun i_ hi_ => absurd hi_ (Nat.not_lt_zero _)⟩, .inr ⟨rfl, (by first | rfl | (simp; done) | (simp; omega) | omega), fun i_ hi_ => absurd hi_ (Nat.not_lt_zero _)⟩, trivial⟩) ?_
     refine x_loop (X := Int × (List Channel) × (List Rows) × (List Note)) (fun x => mkS [(0, Sv s), (2, .ref 2 0), (6, .ref 6 0), (17, slS true ls_1), (18, I (ls_1.length : Int)), (19, I x.1)] [(2, .box [nilA, nilA, nilA]), (6, .box [.arr 760, .arr 761, .arr 762]), (760, tAChannel x.2.1), (761, tARows false x.2.2.1), (762, tANote x.2.2.2)]) (fun x => (0 ≤ x.1 ∧ x.1 ≤ (ls_1.length : Int)) ∧ ((x.2.1.length : Int) ≤ x.1 ∧ (x.2.2.1.length : Int) ≤ x.1 ∧ (x.2.2.2.length : Int) ≤ x.1) ∧ (File.mk x.2.1 x.2.2.1 x.2.2.2 = flK ls_1 x.1.toNat) ∧ True) (fun x => ((ls_1.length : Int) - x.1).toNat) (0, ([] : List Channel), ([] : List Rows), ([] : List Note)) rfl (show (0 ≤ (0 : Int) ∧ (0 : Int) ≤ (ls_1.length : Int)) ∧ ((([] : List Channel).length : Int) ≤ (0 : Int) ∧ (([] : List Rows).length : Int) ≤ (0 : Int) ∧ (([] : List Note).length : Int) ≤ (0 : Int)) ∧ (File.mk ([] : List Channel) ([] : List Rows) ([] : List Note) = flK ls_1 (0 : Int).toNat) ∧ True from ⟨(by omega), (by simp), (by rfl), trivial⟩) (fun x hI => ?_)
     obtain ⟨k, cs, ss, ns⟩ := x
     obtain ⟨hi0, htl, hst_, _⟩ : (0 ≤ k ∧ k ≤ (ls_1.length : Int)) ∧ ((cs.length : Int) ≤ k ∧ (ss.length : Int) ≤ k ∧ (ns.length : Int) ≤ k) ∧ (File.mk cs ss ns = flK ls_1 k.toNat) ∧ True := hI
     show XW _ _ _ _ (mkS [(0, Sv s), (2, .ref 2 0), (6, .ref 6 0), (17, slS true ls_1), (18, I (ls_1.length : Int)), (19, I k)] [(2, .box [nilA, nilA, nilA]), (6, .box [.arr 760, .arr 761, .arr 762]), (760, tAChannel cs), (761, tARows false ss), (762, tANote ns)]) _ _
     refine x_seq ?_
     by_cases h2 : k < (ls_1.length : Int)
     ·have hi : k.toNat < ls_1.length := by omega
      have hlz : (at_ ls_1 k.toNat).size ≤ 7700 := by rw [hlv]; exact filLns_size hok _ (at_mem (by rw [← hlv]; exact hi))
      have hwk : okWs (splB ⟨#[32]⟩ (at_ ls_1 k.toNat)) := by rw [hlv]; exact fl_ws hok _ (at_mem (by rw [← hlv]; exact hi))
      refine x_r [(0, .dec true)] [0, 2, 6, 17, 18, 19, 20] [2, 6, 760, 761, 762] [Sv s, .ref 2 0, .ref 6 0, slS true ls_1, I (ls_1.length : Int), I k, Bv true] [some (.box [nilA, nilA, nilA]), some (.box [.arr 760, .arr 761, .arr 762]), some (tAChannel cs), some (tARows false ss), some (tANote ns)] [k < (ls_1.length : Int)] ⟨h2, trivial⟩ ?_
      refine xe_then ?_
      refine x_seq ?_
      refine x_true rfl ?_
      refine x_skip ?_
      refine xe_then ?_
      refine x_seq ?_
      refine x_block ?_
      refine xR [] [0, 2, 6, 8, 17, 18, 19] [2, 6, 760, 761, 762] [Sv s, .ref 2 0, .ref 6 0, Sv (at_ ls_1 k.toNat), slS true ls_1, I (ls_1.length : Int), I k] [some (.box [nilA, nilA, nilA]), some (.box [.arr 760, .arr 761, .arr 762]), some (tAChannel cs), some (tARows false ss), some (tANote ns)] [(0 : Int) ≤ k ∧ k < (ls_1.length : Int)] ⟨⟨(by omega), (by omega)⟩, trivial⟩ ?_
      refine x_seq ?_
      obtain ⟨v_2, f'_2, hx2_0, hx2_1, hc2⟩ := readFileLine_ok (File.mk cs ss ns) (splB ⟨#[32]⟩ (at_ ls_1 k.toNat)) hwk (by first | omega | (simp only; omega))
      have hrv := hx2_0
      have hrf := hx2_1
      have hfl := fs_len (File.mk cs ss ns) (splB ⟨#[32]⟩ (at_ ls_1 k.toNat))
      rcases Bool.eq_false_or_eq_true v_2 with h3 | h3
      ·subst h3
       refine x_r [(1, .call [(true, .any)] true (slS true (splB ⟨#[32]⟩ (at_ ls_1 k.toNat)))), (2, .lendc [(6, .box [.arr 760, .arr 761, .arr 762], .box [.arr 770, .arr 771, .arr 772])] [(760, tAChannel cs), (761, tARows false ss), (762, tANote ns)] [(770, tAChannel f'_2.Channels), (771, tARows false f'_2.Strokes), (772, tANote f'_2.Notes)] [(true, .any), (false, slS false (splB ⟨#[32]⟩ (at_ ls_1 k.toNat)))] true (Bv true))] [0, 2, 6, 17, 18, 19, 26] [2, 6, 770, 771, 772] [Sv s, .ref 2 0, .ref 6 0, slS true ls_1, I (ls_1.length : Int), I k, Bv false] [some (.box [nilA, nilA, nilA]), some (.box [.arr 770, .arr 771, .arr 772]), some (tAChannel f'_2.Channels), some (tARows false f'_2.Strokes), some (tANote f'_2.Notes)] [Con Tryz.prog 43 [Sv (at_ ls_1 k.toNat)] true (slS true (splB ⟨#[32]⟩ (at_ ls_1 k.toNat))) ∧ True, CallC Tryz.prog 42 [6] [.ref 6 0, slS false (splB ⟨#[32]⟩ (at_ ls_1 k.toNat))] (lookO [(6, .box [.arr 760, .arr 761, .arr 762]), (760, tAChannel cs), (761, tARows false ss), (762, tANote ns)]) true (Bv true) (lookO [(6, .box [.arr 770, .arr 771, .arr 772]), (770, tAChannel f'_2.Channels), (771, tARows false f'_2.Strokes), (772, tANote f'_2.Notes)]) ∧ ((false = true → true = true) ∧ 1 = 1 ∧ ((splB ⟨#[32]⟩ (at_ ls_1 k.toNat)).length) = ((splB ⟨#[32]⟩ (at_ ls_1 k.toNat)).length) ∧ ∀ i_, i_ < ((splB ⟨#[32]⟩ (at_ ls_1 k.toNat)).length) → (fS (splB ⟨#[32]⟩ (at_ ls_1 k.toNat))) i_ = (fS (splB ⟨#[32]⟩ (at_ ls_1 k.toNat))) i_ ∨ (AV.idsL ((fS (splB ⟨#[32]⟩ (at_ ls_1 k.toNat))) i_) = [] ∧ leL (fun _ => none) false ((fS (splB ⟨#[32]⟩ (at_ ls_1 k.toNat))) i_) ((fS (splB ⟨#[32]⟩ (at_ ls_1 k.toNat))) i_))) ∧ (((.box [.arr 760, .arr 761, .arr 762] : Ob) = .box [.arr 760, .arr 761, .arr 762] ∨ obLe noOb true (.box [.arr 760, .arr 761, .arr 762]) (.box [.arr 760, .arr 761, .arr 762])) ∧ taggedO false (.box [.arr 760, .arr 761, .arr 762])) ∧ (((tAChannel cs : Ob) = tAChannel cs ∨ obLe noOb true (tAChannel cs) (tAChannel cs)) ∧ taggedO false (tAChannel cs)) ∧ (((tARows false ss : Ob) = tARows false ss ∨ obLe noOb true (tARows false ss) (tARows false ss)) ∧ taggedO false (tARows false ss)) ∧ (((tANote ns : Ob) = tANote ns ∨ obLe noOb true (tANote ns) (tANote ns)) ∧ taggedO false (tANote ns)) ∧ True] ⟨⟨(wordsOf_ok (at_ ls_1 k.toNat) (by first | omega | (refine ⟨?_, trivial⟩; omega))), trivial⟩, ⟨hc2, ⟨(fun h => by cases h), rfl, rfl, fun i _ => .inl rfl⟩, ⟨.inl rfl, (by simp [taggedO, taggedL, tagged])⟩, ⟨.inl rfl, fun _ _ => tagcChannel false _⟩, ⟨.inl rfl, fun _ _ => tagcRows false _⟩, ⟨.inl rfl, fun _ _ => tagcNote false _⟩, trivial⟩, trivial⟩ ?_
       refine xe_then ?_
       refine x_false rfl ?_
       refine x_skip ?_
       refine xe_block 1 ?_
       refine xe_then ?_
       refine x_r [] [0, 2, 6, 17, 18, 19] [2, 6, 770, 771, 772] [Sv s, .ref 2 0, .ref 6 0, slS true ls_1, I (ls_1.length : Int), I (k + 1)] [some (.box [nilA, nilA, nilA]), some (.box [.arr 770, .arr 771, .arr 772]), some (tAChannel f'_2.Channels), some (tARows false f'_2.Strokes), some (tANote f'_2.Notes)] [inR .i64 (k + 1)] ⟨(inR_i64 (by omega) (by omega)), trivial⟩ ?_
       refine xe_weak [(760, 770), (761, 771), (762, 772)] (T := [(0, Sv s), (2, .ref 2 0), (6, .ref 6 0), (17, slS true ls_1), (18, I (ls_1.length : Int)), (19, I (k + 1))]) (O := [(2, .box [nilA, nilA, nilA]), (6, .box [.arr 760, .arr 761, .arr 762]), (760, tAChannel f'_2.Channels), (761, tARows false f'_2.Strokes), (762, tANote f'_2.Notes)]) rfl (⟨.inl rfl, .inl rfl, .inl rfl, .inl rfl, .inl rfl, .inl rfl, trivial⟩) (⟨.inl rfl, .inl rfl, .inl rfl, .inl rfl, .inl rfl, trivial⟩) (xe_again ((k + 1), f'_2.Channels, f'_2.Strokes, f'_2.Notes) rfl (show (0 ≤ (k + 1) ∧ (k + 1) ≤ (ls_1.length : Int)) ∧ ((f'_2.Channels.length : Int) ≤ (k + 1) ∧ (f'_2.Strokes.length : Int) ≤ (k + 1) ∧ (f'_2.Notes.length : Int) ≤ (k + 1)) ∧ (File.mk f'_2.Channels f'_2.Strokes f'_2.Notes = flK ls_1 (k + 1).toNat) ∧ True from ⟨(by omega), (by (simp only at hfl; rw [← hrf] at hfl; omega)), (by (rw [show (k + 1).toNat = k.toNat + 1 from by omega, flK, ← hst_]; exact hrf)), trivial⟩) (by first | (show (((ls_1.length : Int) - (k + 1)).toNat : Nat) < ((ls_1.length : Int) - k).toNat; omega) | (dsimp only; omega)))
      subst h3
      refine x_r [(1, .call [(true, .any)] true (slS true (splB ⟨#[32]⟩ (at_ ls_1 k.toNat)))), (2, .lendc [(6, .box [.arr 760, .arr 761, .arr 762], .box [.arr 770, .arr 771, .arr 772])] [(760, tAChannel cs), (761, tARows false ss), (762, tANote ns)] [(770, tAChannel f'_2.Channels), (771, tARows false f'_2.Strokes), (772, tANote f'_2.Notes)] [(true, .any), (false, slS false (splB ⟨#[32]⟩ (at_ ls_1 k.toNat)))] true (Bv false))] [0, 2, 6, 17, 18, 19, 26] [2, 6, 770, 771, 772] [Sv s, .ref 2 0, .ref 6 0, slS true ls_1, I (ls_1.length : Int), I k, Bv true] [some (.box [nilA, nilA, nilA]), some (.box [.arr 770, .arr 771, .arr 772]), some (tAChannel f'_2.Channels), some (tARows false f'_2.Strokes), some (tANote f'_2.Notes)] [Con Tryz.prog 43 [Sv (at_ ls_1 k.toNat)] true (slS true (splB ⟨#[32]⟩ (at_ ls_1 k.toNat))) ∧ True, CallC Tryz.prog 42 [6] [.ref 6 0, slS false (splB ⟨#[32]⟩ (at_ ls_1 k.toNat))] (lookO [(6, .box [.arr 760, .arr 761, .arr 762]), (760, tAChannel cs), (761, tARows false ss), (762, tANote ns)]) true (Bv false) (lookO [(6, .box [.arr 770, .arr 771, .arr 772]), (770, tAChannel f'_2.Channels), (771, tARows false f'_2.Strokes), (772, tANote f'_2.Notes)]) ∧ ((false = true → true = true) ∧ 1 = 1 ∧ ((splB ⟨#[32]⟩ (at_ ls_1 k.toNat)).length) = ((splB ⟨#[32]⟩ (at_ ls_1 k.toNat)).length) ∧ ∀ i_, i_ < ((splB ⟨#[32]⟩ (at_ ls_1 k.toNat)).length) → (fS (splB ⟨#[32]⟩ (at_ ls_1 k.toNat))) i_ = (fS (splB ⟨#[32]⟩ (at_ ls_1 k.toNat))) i_ ∨ (AV.idsL ((fS (splB ⟨#[32]⟩ (at_ ls_1 k.toNat))) i_) = [] ∧ leL (fun _ => none) false ((fS (splB ⟨#[32]⟩ (at_ ls_1 k.toNat))) i_) ((fS (splB ⟨#[32]⟩ (at_ ls_1 k.toNat))) i_))) ∧ (((.box [.arr 760, .arr 761, .arr 762] : Ob) = .box [.arr 760, .arr 761, .arr 762] ∨ obLe noOb true (.box [.arr 760, .arr 761, .arr 762]) (.box [.arr 760, .arr 761, .arr 762])) ∧ taggedO false (.box [.arr 760, .arr 761, .arr 762])) ∧ (((tAChannel cs : Ob) = tAChannel cs ∨ obLe noOb true (tAChannel cs) (tAChannel cs)) ∧ taggedO false (tAChannel cs)) ∧ (((tARows false ss : Ob) = tARows false ss ∨ obLe noOb true (tARows false ss) (tARows false ss)) ∧ taggedO false (tARows false ss)) ∧ (((tANote ns : Ob) = tANote ns ∨ obLe noOb true (tANote ns) (tANote ns)) ∧ taggedO false (tANote ns)) ∧ True] ⟨⟨(wordsOf_ok (at_ ls_1 k.toNat) (by first | omega | (refine ⟨?_, trivial⟩; omega))), trivial⟩, ⟨hc2, ⟨(fun h => by cases h), rfl, rfl, fun i _ => .inl rfl⟩, ⟨.inl rfl, (by simp [taggedO, taggedL, tagged])⟩, ⟨.inl rfl, fun _ _ => tagcChannel false _⟩, ⟨.inl rfl, fun _ _ => tagcRows false _⟩, ⟨.inl rfl, fun _ _ => tagcNote false _⟩, trivial⟩, trivial⟩ ?_
      refine xe_then ?_
      refine x_true rfl ?_
      refine xR [] [2, 3] [2] [.ref 2 0, Bv false] [some (.box [nilA, nilA, nilA])] [] trivial ?_
      refine x_ret ?_
      refine xe_ret_block (xe_ret_then (xe_loop_ret (xe_ret_block (xe_ret_then ?_))))
      refine xe_end ((File.mk ([] : List Channel) ([] : List Rows) ([] : List Note)), false) (show (∀ fl, okFil fl → s = filTx fl → (File.mk ([] : List Channel) ([] : List Rows) ([] : List Note)) = fl) ∧ (false = true) ∧ (True) from ⟨(by first | (exact fun m2 h2 q2 => hfin.trans (huq m2 h2 q2)) | (exact absurd hlk (by decide)) | (exact absurd hrv (by decide))), (by first | (rfl) | (exact absurd hlk (by decide)) | (exact absurd hrv (by decide))), trivial⟩) (trivial) (.tup [.agg [nilA, nilA, nilA], Bv false]) (by kernel_rfl) (.inr ⟨⟨⟨rfl, rfl⟩, ⟨⟨rfl, rfl⟩, ⟨⟨rfl, rfl⟩, rfl⟩⟩⟩, ⟨rfl, rfl⟩⟩) (fun h => by cases h) (fun h => by cases h)
     have hfin : File.mk cs ss ns = fl := by rw [hst_, hlv, show k.toNat = filN fl from by omega]; exact fk_all hok
     refine x_r [(0, .dec false)] [0, 2, 6, 17, 18, 19, 20] [2, 6, 760, 761, 762] [Sv s, .ref 2 0, .ref 6 0, slS true ls_1, I (ls_1.length : Int), I k, Bv false] [some (.box [nilA, nilA, nilA]), some (.box [.arr 760, .arr 761, .arr 762]), some (tAChannel cs), some (tARows false ss), some (tANote ns)] [¬ (k < (ls_1.length : Int))] ⟨h2, trivial⟩ ?_
     refine xe_then ?_
     refine x_seq ?_
     refine x_false rfl ?_
     refine x_exit ?_
     refine xe_exit_then ?_
     refine xe_loop_exit ?_
     refine xe_exit_same ?_
     refine xe_then ?_
     refine x_seq ?_
     refine xR [(1, .call [(false, .agg [slChannel false cs, slRows false ss, slNote false ns])] true (Bv true)), (5, .call [(false, .agg [slChannel false cs, slRows false ss, slNote false ns])] true (Sv (filTx (File.mk cs ss ns)))), (7, .dec false)] [2, 6, 37] [2, 6, 760, 761, 762] [.ref 2 0, .ref 6 0, Bv false] [some (.box [nilA, nilA, nilA]), some (.box [.arr 760, .arr 761, .arr 762]), some (tAChannel cs), some (tARows false ss), some (tANote ns)] [Con Tryz.prog 32 [.agg [slChannel false cs, slRows false ss, slNote false ns]] true (Bv true) ∧ (((false = true → true = true) ∧ 4 = 4 ∧ cs.length = cs.length ∧ ∀ i_, i_ < cs.length → (fChannel cs) i_ = (fChannel cs) i_ ∨ (AV.idsL ((fChannel cs) i_) = [] ∧ leL (fun _ => none) false ((fChannel cs) i_) ((fChannel cs) i_))) ∧ ((false = true → true = true) ∧ 1 = 1 ∧ ss.length = ss.length ∧ ∀ i_, i_ < ss.length → (fRows false ss) i_ = (fRows false ss) i_ ∨ (AV.idsL ((fRows false ss) i_) = [] ∧ leL (fun _ => none) false ((fRows false ss) i_) ((fRows false ss) i_))) ∧ ((false = true → true = true) ∧ 3 = 3 ∧ ns.length = ns.length ∧ ∀ i_, i_ < ns.length → (fNote ns) i_ = (fNote ns) i_ ∨ (AV.idsL ((fNote ns) i_) = [] ∧ leL (fun _ => none) false ((fNote ns) i_) ((fNote ns) i_))) ∧ ([] : List AV) = []) ∧ True, Con Tryz.prog 15 [.agg [slChannel false cs, slRows false ss, slNote false ns]] true (Sv (filTx (File.mk cs ss ns))) ∧ (((false = true → true = true) ∧ 4 = 4 ∧ cs.length = cs.length ∧ ∀ i_, i_ < cs.length → (fChannel cs) i_ = (fChannel cs) i_ ∨ (AV.idsL ((fChannel cs) i_) = [] ∧ leL (fun _ => none) false ((fChannel cs) i_) ((fChannel cs) i_))) ∧ ((false = true → true = true) ∧ 1 = 1 ∧ ss.length = ss.length ∧ ∀ i_, i_ < ss.length → (fRows false ss) i_ = (fRows false ss) i_ ∨ (AV.idsL ((fRows false ss) i_) = [] ∧ leL (fun _ => none) false ((fRows false ss) i_) ((fRows false ss) i_))) ∧ ((false = true → true = true) ∧ 3 = 3 ∧ ns.length = ns.length ∧ ∀ i_, i_ < ns.length → (fNote ns) i_ = (fNote ns) i_ ∨ (AV.idsL ((fNote ns) i_) = [] ∧ leL (fun _ => none) false ((fNote ns) i_) ((fNote ns) i_))) ∧ ([] : List AV) = []) ∧ True, ¬ ((filTx (File.mk cs ss ns)) ≠ s)] ⟨⟨(ValidFile_ok (File.mk cs ss ns) (by rw [hfin]; exact hok)), ⟨⟨(fun h => by cases h), rfl, rfl, fun i _ => .inl rfl⟩, ⟨⟨(fun h => by cases h), rfl, rfl, fun i _ => .inl rfl⟩, ⟨⟨(fun h => by cases h), rfl, rfl, fun i _ => .inl rfl⟩, rfl⟩⟩⟩, trivial⟩, ⟨(FileText_ok (File.mk cs ss ns) (by rw [hfin]; exact hok)), ⟨⟨(fun h => by cases h), rfl, rfl, fun i _ => .inl rfl⟩, ⟨⟨(fun h => by cases h), rfl, rfl, fun i _ => .inl rfl⟩, ⟨⟨(fun h => by cases h), rfl, rfl, fun i _ => .inl rfl⟩, rfl⟩⟩⟩, trivial⟩, (fun hq => hq (by rw [hfin]; exact hsi.symm)), trivial⟩ ?_
     refine x_false rfl ?_
     refine x_skip ?_
     refine xe_then ?_
     refine xR [] [2, 3] [2, 760, 761, 762] [.ref 2 0, Bv true] [some (.box [.arr 760, .arr 761, .arr 762]), some (tAChannel cs), some (tARows false ss), some (tANote ns)] [] trivial ?_
     refine x_ret ?_
     refine xe_end ((File.mk cs ss ns), true) (show (∀ fl, okFil fl → s = filTx fl → (File.mk cs ss ns) = fl) ∧ (true = true) ∧ (True) from ⟨(by first | (exact fun m2 h2 q2 => hfin.trans (huq m2 h2 q2)) | (exact absurd hlk (by decide)) | (exact absurd hrv (by decide))), (by first | (rfl) | (exact absurd hlk (by decide)) | (exact absurd hrv (by decide))), trivial⟩) (trivial) (.tup [.agg [.arr 760, .arr 761, .arr 762], Bv true]) (by kernel_rfl) (.inr ⟨⟨⟨(fun h => by cases h), rfl, rfl, fun i _ => .inl rfl⟩, ⟨⟨(fun h => by cases h), rfl, rfl, fun i _ => .inl rfl⟩, ⟨⟨(fun h => by cases h), rfl, rfl, fun i _ => .inl rfl⟩, rfl⟩⟩⟩, ⟨rfl, rfl⟩⟩) (fun h => by cases h) (fun h => by cases h)
    subst h1
    refine x_r [] [0, 2, 4, 15] [2] [Sv s, .ref 2 0, slS true ls_1, Bv true] [some (.box [nilA, nilA, nilA])] [] trivial ?_
    refine xe_then ?_
    refine x_true rfl ?_
    refine xR [] [2, 3] [2] [.ref 2 0, Bv false] [some (.box [nilA, nilA, nilA])] [] trivial ?_
    refine x_ret ?_
    refine xe_ret_then ?_
    refine xe_end ((File.mk ([] : List Channel) ([] : List Rows) ([] : List Note)), false) (show (∀ fl, okFil fl → s = filTx fl → (File.mk ([] : List Channel) ([] : List Rows) ([] : List Note)) = fl) ∧ (false = true) ∧ (True) from ⟨(by first | (exact fun m2 h2 q2 => hfin.trans (huq m2 h2 q2)) | (exact absurd hlk (by decide)) | (exact absurd hrv (by decide))), (by first | (rfl) | (exact absurd hlk (by decide)) | (exact absurd hrv (by decide))), trivial⟩) (trivial) (.tup [.agg [nilA, nilA, nilA], Bv false]) (by kernel_rfl) (.inr ⟨⟨⟨rfl, rfl⟩, ⟨⟨rfl, rfl⟩, ⟨⟨rfl, rfl⟩, rfl⟩⟩⟩, ⟨rfl, rfl⟩⟩) (fun h => by cases h) (fun h => by cases h)
  obtain ⟨⟨v, c⟩, ⟨hh0, hh1, _⟩, hc⟩ := hh
  exact ⟨v, c, hh0, hh1, hc⟩
theorem l00Same_ok (a : List Int) (b : List Int) : Con Tryz.prog 133 [slI false a, slI false b] true (Bv (sameL a b)) := by
  refine fn_ok (fn := Tryz.f133) (nt := 26) Tryz.func133 rfl rfl rfl rfl (by simp [taggedL, tagged, tagI]) fun B hB => ?_
  refine aw_lens (x := slI false a) 0 rfl (fun len_a => ?_)
  simp [LenOK, LenL, cI, fI, slI] at len_a
  refine aw_lens (x := slI false b) 1 rfl (fun len_b => ?_)
  simp [LenOK, LenL, cI, fI, slI] at len_b
  refine aR [] [0, 1] [] [slI false a, slI false b] [] [] hB trivial ?_
  refine aw_seq ?_
  refine aw_seq ?_
  by_cases h1 : (a.length : Int) = (b.length : Int)
  ·have hlen : a.length = b.length := by omega
   refine aw_r [(4, .dec false)] [0, 1, 10] [] [slI false a, slI false b, Bv false] [] [¬ ((a.length : Int) ≠ (b.length : Int))] hB ⟨(fun hq => hq h1), trivial⟩ ?_
   refine ae_then ?_
   refine aw_false rfl ?_
   refine aw_skip ?_
   refine ae_then ?_
   refine aw_seq ?_
   refine aR [] [0, 1, 5] [] [slI false a, slI false b, I 0] [] [] hB trivial ?_
   refine aw_block ?_
   refine aw_loop (fun gn gσ => ∃ (i : Int), gn = ((a.length : Int) - i).toNat ∧ (0 ≤ i ∧ i ≤ (a.length : Int)) ∧ (∀ j : Nat, (j : Int) < i → decide (at_ a j = at_ b j) = true) ∧ gσ = mkS [(0, slI false a), (1, slI false b), (5, I i)] []) (((a.length : Int) - 0).toNat) ⟨0, rfl, (by omega), (by intro j hj; omega), rfl⟩ (fun gn gσ hI => ?_)
   obtain ⟨i, rfl, hi0, hall0, rfl⟩ := hI
   refine aw_seq ?_
   refine aw_seq ?_
   by_cases h2 : i < (a.length : Int)
   ·have hi : i.toNat < a.length := by omega
    refine aw_r [(3, .dec true)] [0, 1, 5, 14] [] [slI false a, slI false b, I i, Bv true] [] [i < (a.length : Int)] hB ⟨h2, trivial⟩ ?_
    refine ae_then ?_
    refine aw_true rfl ?_
    refine aw_skip ?_
    refine ae_then ?_
    refine aw_seq ?_
    refine aw_block ?_
    refine aw_seq ?_
    by_cases h3 : (at_ a i.toNat) = (at_ b i.toNat)
    ·have hok : decide (at_ a i.toNat = at_ b i.toNat) = true := decide_eq_true h3
     refine aw_r [(8, .dec false)] [0, 1, 5, 25] [] [slI false a, slI false b, I i, Bv false] [] [(0 : Int) ≤ i ∧ i < (a.length : Int), (0 : Int) ≤ i ∧ i < (b.length : Int), ¬ ((at_ a i.toNat) ≠ (at_ b i.toNat))] hB ⟨⟨(by omega), (by omega)⟩, ⟨(by omega), (by omega)⟩, (fun hq => hq h3), trivial⟩ ?_
     refine ae_then ?_
     refine aw_false rfl ?_
     refine aw_skip ?_
     refine ae_block 1 ?_
     refine ae_then ?_
     refine aw_r [] [0, 1, 5] [] [slI false a, slI false b, I (i + 1)] [] [inR .i64 (i + 1)] hB ⟨(inR_i64 (by omega) (by omega)), trivial⟩ ?_
     exact ae_again _ (by omega) ⟨(i + 1), rfl, (by omega), (by intro j hj; by_cases ej : j = i.toNat; (subst ej; first | assumption | exact hok); exact hall0 j (by omega)), rfl⟩
    have hall : allN a.length (fun j => decide (at_ a j = at_ b j)) = false := allN_not hi (decide_eq_false h3)
    refine aw_r [(8, .dec true)] [0, 1, 5, 25] [] [slI false a, slI false b, I i, Bv true] [] [(0 : Int) ≤ i ∧ i < (a.length : Int), (0 : Int) ≤ i ∧ i < (b.length : Int), (at_ a i.toNat) ≠ (at_ b i.toNat)] hB ⟨⟨(by omega), (by omega)⟩, ⟨(by omega), (by omega)⟩, h3, trivial⟩ ?_
    refine ae_then ?_
    refine aw_true rfl ?_
    refine aR [] [4] [] [Bv false] [] [] hB trivial ?_
    refine aw_ret ?_
    refine ae_ret_block (ae_ret_then (ae_ret_then (ae_ret_block (ae_ret_then ?_))))
    refine ae_ret hB (Bv false) (by kernel_rfl) (.inl (by first | (simp [sameL, hlen]; done) | (unfold sameL; rw [hall]; simp [hlen]))) rfl (fun _ => trivial)
   have hall : allN a.length (fun j => decide (at_ a j = at_ b j)) = true := allN_at (fun j hj => hall0 j (by omega))
   refine aw_r [(3, .dec false)] [0, 1, 5, 14] [] [slI false a, slI false b, I i, Bv false] [] [¬ (i < (a.length : Int))] hB ⟨h2, trivial⟩ ?_
   refine ae_then ?_
   refine aw_false rfl ?_
   refine aw_exit ?_
   refine ae_exit_then ?_
   refine ae_exit_then ?_
   refine ae_exit_same ?_
   refine ae_then ?_
   refine aR [] [4] [] [Bv true] [] [] hB trivial ?_
   refine aw_ret ?_
   refine ae_ret hB (Bv true) (by kernel_rfl) (.inl (by first | (simp [sameL, hlen]; done) | (unfold sameL; rw [hall]; simp [hlen]))) rfl (fun _ => trivial)
  have hlen : ¬ a.length = b.length := by omega
  refine aw_r [(4, .dec true)] [0, 1, 10] [] [slI false a, slI false b, Bv true] [] [(a.length : Int) ≠ (b.length : Int)] hB ⟨h1, trivial⟩ ?_
  refine ae_then ?_
  refine aw_true rfl ?_
  refine aR [] [4] [] [Bv false] [] [] hB trivial ?_
  refine aw_ret ?_
  refine ae_ret_then ?_
  refine ae_ret hB (Bv false) (by kernel_rfl) (.inl (by first | (simp [sameL, hlen]; done) | (unfold sameL; rw [hall]; simp [hlen]))) rfl (fun _ => trivial)
theorem l03SameRows_ok (a : List (List Int)) (b : List (List Int)) (hab : a = b) : Con Tryz.prog 102 [slLI false a, slLI false b] true (Bv true) := by
  refine fn_ok (fn := Tryz.f102) (nt := 27) Tryz.func102 rfl rfl rfl rfl (by simp [taggedL, tagged, tagLI]) fun B hB => ?_
  refine aw_lens (x := slLI false a) 0 rfl (fun len_a => ?_)
  simp [LenOK, LenL, cI, cLI, fI, fLI, slI, slLI] at len_a
  refine aw_lens (x := slLI false b) 1 rfl (fun len_b => ?_)
  simp [LenOK, LenL, cI, cLI, fI, fLI, slI, slLI] at len_b
  refine aR [] [0, 1] [] [slLI false a, slLI false b] [] [] hB trivial ?_
  refine aw_seq ?_
  refine aR [(4, .dec false)] [0, 1, 10] [] [slLI false a, slLI false b, Bv false] [] [¬ ((a.length : Int) ≠ (b.length : Int))] hB ⟨(fun hq => hq (by rw [hab])), trivial⟩ ?_
  refine aw_false rfl ?_
  refine aw_skip ?_
  refine ae_then ?_
  refine aw_seq ?_
  refine aR [] [0, 1, 5] [] [slLI false a, slLI false b, I 0] [] [] hB trivial ?_
  refine aw_block ?_
  refine aw_loop (fun gn gσ => ∃ (i : Int), gn = ((a.length : Int) - i).toNat ∧ (0 ≤ i ∧ i ≤ (a.length : Int)) ∧ gσ = mkS [(0, slLI false a), (1, slLI false b), (5, I i)] []) (((a.length : Int) - 0).toNat) ⟨0, rfl, (by omega), rfl⟩ (fun gn gσ hI => ?_)
  obtain ⟨i, rfl, hi0, rfl⟩ := hI
  refine aw_seq ?_
  refine aw_seq ?_
  by_cases h1 : i < (a.length : Int)
  ·have hi : i.toNat < a.length := by omega
   have hi2 : i.toNat < b.length := by rw [← hab]; exact hi
   refine aw_r [(3, .dec true)] [0, 1, 5, 14] [] [slLI false a, slLI false b, I i, Bv true] [] [i < (a.length : Int)] hB ⟨h1, trivial⟩ ?_
   refine ae_then ?_
   refine aw_true rfl ?_
   refine aw_skip ?_
   refine ae_then ?_
   refine aw_seq ?_
   refine aw_block ?_
   refine aR [(8, .call [(true, .any), (true, .any)] true (Bv true))] [0, 1, 5, 26] [] [slLI false a, slLI false b, I i, Bv false] [] [(0 : Int) ≤ i ∧ i < (a.length : Int), (0 : Int) ≤ i ∧ i < (b.length : Int), Con Tryz.prog 133 [slI false (at_ a i.toNat), slI false (at_ b i.toNat)] true (Bv true) ∧ True] hB ⟨⟨(by omega), (by omega)⟩, ⟨(by omega), (by omega)⟩, ⟨(con_bool (by rw [hab]; exact sameL_refl _) (l00Same_ok (at_ a i.toNat) (at_ b i.toNat))), trivial⟩, trivial⟩ ?_
   refine aw_false rfl ?_
   refine aw_skip ?_
   refine ae_block 1 ?_
   refine ae_then ?_
   refine aw_r [] [0, 1, 5] [] [slLI false a, slLI false b, I (i + 1)] [] [inR .i64 (i + 1)] hB ⟨(inR_i64 (by omega) (by omega)), trivial⟩ ?_
   exact ae_again _ (by omega) ⟨(i + 1), rfl, (by omega), rfl⟩
  refine aw_r [(3, .dec false)] [0, 1, 5, 14] [] [slLI false a, slLI false b, I i, Bv false] [] [¬ (i < (a.length : Int))] hB ⟨h1, trivial⟩ ?_
  refine ae_then ?_
  refine aw_false rfl ?_
  refine aw_exit ?_
  refine ae_exit_then ?_
  refine ae_exit_then ?_
  refine ae_exit_same ?_
  refine ae_then ?_
  refine aR [] [4] [] [Bv true] [] [] hB trivial ?_
  refine aw_ret ?_
  refine ae_ret hB (Bv true) (by kernel_rfl) (.inl rfl) rfl (fun _ => trivial)
end Go.Proofs.YtecdjaknbiekkaaGreatDoor.Ax
