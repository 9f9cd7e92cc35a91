/- Contracts that the statement FnFiles reaches, part 2. No conditions. -/
import Derived.Test.YtecdjaknbiekkaaGreatDoorAxLFiles1
import Derived.LaidMore
import Derived.Lay
import Derived.Lib.IndexBytes
import Derived.Lib.ItoaNum
import Derived.Lib.ParseIntBCases
import Derived.Lib.SplitLaws
import Derived.OpenShut
import Derived.SevenTiedAt
import Derived.Stop.Joined
import Derived.Test.YtecdjaknbiekkaaGreatDoorAxBd
import Derived.Test.YtecdjaknbiekkaaGreatDoorAxGr
import Derived.Test.YtecdjaknbiekkaaGreatDoorAxS
import Derived.Test.YtecdjaknbiekkaaGreatDoorAxY
namespace Go.Proofs.YtecdjaknbiekkaaGreatDoor.Ax
open Go.RowKit Go.ChangeShapes Go.WideShapes
set_option linter.unusedVariables false
set_option linter.unusedSimpArgs false
theorem FileOfInk_ok (ik : Ink) (oki : okInk' ik = true) : ∃ (v : File) (c : Int), (v = filI ik) ∧ (c = 0) ∧ Con Tryz.prog 7 [.agg [slStroke false ik.Strokes]] true (.tup [agFileT v, I c]) := by
  have hil := okI_len oki
  have hh : ∃ r : File × Int, ((r.1 = filI ik) ∧ (r.2 = 0) ∧ (True)) ∧ CallOK Tryz.prog 7 [.agg [slStroke false ik.Strokes]] (lookO []) true (.tup [agFileT r.1, I r.2]) (lookO []) := by
    refine fn_okX (Φ := fun r : File × Int => (r.1 = filI ik) ∧ (r.2 = 0) ∧ (True)) [] (fun r => []) (fn := Tryz.f7) (nt := 54) Tryz.func7 rfl rfl (args := [.agg [slStroke false ik.Strokes]]) rfl (allcons (.inl ⟨rfl, by simp [tagged, taggedL, tagStroke]⟩) allnil) (res := fun r => .tup [agFileT r.1, I r.2]) ?_
    refine xR [(0, .new 1), (1, .new 2)] [1, 2] [1, 2] [.ref 1 0, .ref 2 0] [some (.box [slStroke false ik.Strokes]), some (.box [nilA, nilA, nilA])] [] trivial ?_
    refine x_seq ?_
    refine xR [(1, .call [(true, .any)] true (Bv true))] [1, 2, 12] [1, 2] [.ref 1 0, .ref 2 0, Bv false] [some (.box [slStroke false ik.Strokes]), some (.box [nilA, nilA, nilA])] [Con Tryz.prog 31 [.agg [slStroke false ik.Strokes]] true (Bv true) ∧ True] ⟨⟨(con_bool oki (ValidInk_ok ik)), trivial⟩, trivial⟩ ?_
    refine x_false rfl ?_
    refine x_skip ?_
    refine xe_then ?_
    refine xR [(3, .new 17), (5, .new 4)] [1, 2, 4] [1, 2, 4, 17] [.ref 1 0, .ref 2 0, .ref 4 0] [some (.box [slStroke false ik.Strokes]), some (.box [nilA, nilA, nilA]), some (.box [.arr 17, nilA, nilA]), some (.arr 4 3 (litF [Sv (⟨#[120]⟩ : ByteArray), Sv (⟨#[100, 111, 116]⟩ : ByteArray), I 0, I 4095, Sv (⟨#[121]⟩ : ByteArray), Sv (⟨#[100, 111, 116]⟩ : ByteArray), I 0, I 4095, Sv (⟨#[116]⟩ : ByteArray), Sv (⟨#[109, 115]⟩ : ByteArray), I 0, I 3600000] 4))] [] trivial ?_
    refine x_seq ?_
    refine xR [] [2, 4, 20, 21, 22] [2, 4, 17] [.ref 2 0, .ref 4 0, slStroke false ik.Strokes, I (ik.Strokes.length : Int), I 0] [some (.box [nilA, nilA, nilA]), some (.box [.arr 17, nilA, nilA]), some (.arr 4 3 (litF [Sv (⟨#[120]⟩ : ByteArray), Sv (⟨#[100, 111, 116]⟩ : ByteArray), I 0, I 4095, Sv (⟨#[121]⟩ : ByteArray), Sv (⟨#[100, 111, 116]⟩ : ByteArray), I 0, I 4095, Sv (⟨#[116]⟩ : ByteArray), Sv (⟨#[109, 115]⟩ : ByteArray), I 0, I 3600000] 4))] [] trivial ?_
    refine x_block ?_
    refine x_nilC 4 1 741 1 (fun _ => []) rfl (by kernel_rfl) ?_
    refine x_weak [] (T := [(2, .ref 2 0), (4, .ref 4 0), (20, slStroke false ik.Strokes), (21, I (ik.Strokes.length : Int)), (22, I 0)]) (O := [(2, .box [nilA, nilA, nilA]), (4, .box [.arr 17, .arr 741, nilA]), (17, .arr 4 3 (litF [Sv (⟨#[120]⟩ : ByteArray), Sv (⟨#[100, 111, 116]⟩ : ByteArray), I 0, I 4095, Sv (⟨#[121]⟩ : ByteArray), Sv (⟨#[100, 111, 116]⟩ : ByteArray), I 0, I 4095, Sv (⟨#[116]⟩ : ByteArray), Sv (⟨#[109, 115]⟩ : ByteArray), I 0, I 3600000] 4)), (741, tARows true ([] : List Rows))]) rfl (⟨.inl rfl, .inl rfl, .inl rfl, .inl rfl, .inl rfl, trivial⟩) (⟨.inl rfl, .inl rfl, .inl rfl, .inr ⟨rfl, (by first | rfl | (simp; done) | (simp; omega) | omega), fun i_ hi_ => absurd hi_ (Nat.not_lt_zero _)⟩, trivial⟩) ?_
    refine x_loop (X := Int × (List Rows)) (fun x => mkS [(2, .ref 2 0), (4, .ref 4 0), (20, slStroke false ik.Strokes), (21, I (ik.Strokes.length : Int)), (22, I x.1)] [(2, .box [nilA, nilA, nilA]), (4, .box [.arr 17, .arr 741, nilA]), (17, .arr 4 3 (litF [Sv (⟨#[120]⟩ : ByteArray), Sv (⟨#[100, 111, 116]⟩ : ByteArray), I 0, I 4095, Sv (⟨#[121]⟩ : ByteArray), Sv (⟨#[100, 111, 116]⟩ : ByteArray), I 0, I 4095, Sv (⟨#[116]⟩ : ByteArray), Sv (⟨#[109, 115]⟩ : ByteArray), I 0, I 3600000] 4)), (741, tARows true x.2)]) (fun x => (0 ≤ x.1 ∧ x.1 ≤ (ik.Strokes.length : Int)) ∧ ((x.2.length : Int) = x.1) ∧ (x.2 = (ik.Strokes.take x.1.toNat).map rwS) ∧ True) (fun x => ((ik.Strokes.length : Int) - x.1).toNat) (0, ([] : List Rows)) rfl (show (0 ≤ (0 : Int) ∧ (0 : Int) ≤ (ik.Strokes.length : Int)) ∧ ((([] : List Rows).length : Int) = (0 : Int)) ∧ (([] : List Rows) = (ik.Strokes.take (0 : Int).toNat).map rwS) ∧ True from ⟨(by omega), (by rfl), (by rfl), trivial⟩) (fun x hI => ?_)
    obtain ⟨t22, ss⟩ := x
    obtain ⟨hi0, hsl, hss, _⟩ : (0 ≤ t22 ∧ t22 ≤ (ik.Strokes.length : Int)) ∧ ((ss.length : Int) = t22) ∧ (ss = (ik.Strokes.take t22.toNat).map rwS) ∧ True := hI
    show XW _ _ _ _ (mkS [(2, .ref 2 0), (4, .ref 4 0), (20, slStroke false ik.Strokes), (21, I (ik.Strokes.length : Int)), (22, I t22)] [(2, .box [nilA, nilA, nilA]), (4, .box [.arr 17, .arr 741, nilA]), (17, .arr 4 3 (litF [Sv (⟨#[120]⟩ : ByteArray), Sv (⟨#[100, 111, 116]⟩ : ByteArray), I 0, I 4095, Sv (⟨#[121]⟩ : ByteArray), Sv (⟨#[100, 111, 116]⟩ : ByteArray), I 0, I 4095, Sv (⟨#[116]⟩ : ByteArray), Sv (⟨#[109, 115]⟩ : ByteArray), I 0, I 3600000] 4)), (741, tARows true ss)]) _ _
    refine x_seq ?_
    by_cases h1 : t22 < (ik.Strokes.length : Int)
    ·have hi : t22.toNat < ik.Strokes.length := by omega
     have hos := okI_all oki _ hi
     have hol := okS_len hos
     have hks : (t22 + 1).toNat = t22.toNat + 1 := by omega
     refine x_r [(0, .dec true)] [2, 4, 20, 21, 22, 23] [2, 4, 17, 741] [.ref 2 0, .ref 4 0, slStroke false ik.Strokes, I (ik.Strokes.length : Int), I t22, Bv true] [some (.box [nilA, nilA, nilA]), some (.box [.arr 17, .arr 741, nilA]), some (.arr 4 3 (litF [Sv (⟨#[120]⟩ : ByteArray), Sv (⟨#[100, 111, 116]⟩ : ByteArray), I 0, I 4095, Sv (⟨#[121]⟩ : ByteArray), Sv (⟨#[100, 111, 116]⟩ : ByteArray), I 0, I 4095, Sv (⟨#[116]⟩ : ByteArray), Sv (⟨#[109, 115]⟩ : ByteArray), I 0, I 3600000] 4)), some (tARows true ss)] [t22 < (ik.Strokes.length : Int)] ⟨h1, trivial⟩ ?_
     refine xe_then ?_
     refine x_seq ?_
     refine x_true rfl ?_
     refine x_skip ?_
     refine xe_then ?_
     refine x_seq ?_
     refine x_block ?_
     refine xR [(2, .new 6)] [2, 4, 6, 20, 21, 22] [2, 4, 6, 17, 741] [.ref 2 0, .ref 4 0, .ref 6 0, slStroke false ik.Strokes, I (ik.Strokes.length : Int), I t22] [some (.box [nilA, nilA, nilA]), some (.box [.arr 17, .arr 741, nilA]), some (.box [slPoint false ((at_ ik.Strokes t22.toNat).Points)]), some (.arr 4 3 (litF [Sv (⟨#[120]⟩ : ByteArray), Sv (⟨#[100, 111, 116]⟩ : ByteArray), I 0, I 4095, Sv (⟨#[121]⟩ : ByteArray), Sv (⟨#[100, 111, 116]⟩ : ByteArray), I 0, I 4095, Sv (⟨#[116]⟩ : ByteArray), Sv (⟨#[109, 115]⟩ : ByteArray), I 0, I 3600000] 4)), some (tARows true ss)] [(0 : Int) ≤ t22 ∧ t22 < (ik.Strokes.length : Int)] ⟨⟨(by omega), (by omega)⟩, trivial⟩ ?_
     refine xR [(0, .new 7)] [2, 4, 6, 7, 20, 21, 22] [2, 4, 6, 7, 17, 741] [.ref 2 0, .ref 4 0, .ref 6 0, .ref 7 0, slStroke false ik.Strokes, I (ik.Strokes.length : Int), I t22] [some (.box [nilA, nilA, nilA]), some (.box [.arr 17, .arr 741, nilA]), some (.box [slPoint false ((at_ ik.Strokes t22.toNat).Points)]), some (.box [nilA]), some (.arr 4 3 (litF [Sv (⟨#[120]⟩ : ByteArray), Sv (⟨#[100, 111, 116]⟩ : ByteArray), I 0, I 4095, Sv (⟨#[121]⟩ : ByteArray), Sv (⟨#[100, 111, 116]⟩ : ByteArray), I 0, I 4095, Sv (⟨#[116]⟩ : ByteArray), Sv (⟨#[109, 115]⟩ : ByteArray), I 0, I 3600000] 4)), some (tARows true ss)] [] trivial ?_
     refine x_seq ?_
     refine xR [] [2, 4, 7, 20, 21, 22, 27, 28, 29] [2, 4, 7, 17, 741] [.ref 2 0, .ref 4 0, .ref 7 0, slStroke false ik.Strokes, I (ik.Strokes.length : Int), I t22, slPoint false ((at_ ik.Strokes t22.toNat).Points), I ((((at_ ik.Strokes t22.toNat).Points).length) : Int), I 0] [some (.box [nilA, nilA, nilA]), some (.box [.arr 17, .arr 741, nilA]), some (.box [nilA]), some (.arr 4 3 (litF [Sv (⟨#[120]⟩ : ByteArray), Sv (⟨#[100, 111, 116]⟩ : ByteArray), I 0, I 4095, Sv (⟨#[121]⟩ : ByteArray), Sv (⟨#[100, 111, 116]⟩ : ByteArray), I 0, I 4095, Sv (⟨#[116]⟩ : ByteArray), Sv (⟨#[109, 115]⟩ : ByteArray), I 0, I 3600000] 4)), some (tARows true ss)] [] trivial ?_
     refine x_block ?_
     refine x_nilC 7 0 770 1 (fun _ => []) rfl (by kernel_rfl) ?_
     refine x_weak [] (T := [(2, .ref 2 0), (4, .ref 4 0), (7, .ref 7 0), (20, slStroke false ik.Strokes), (21, I (ik.Strokes.length : Int)), (22, I t22), (27, slPoint false ((at_ ik.Strokes t22.toNat).Points)), (28, I ((((at_ ik.Strokes t22.toNat).Points).length) : Int)), (29, I 0)]) (O := [(2, .box [nilA, nilA, nilA]), (4, .box [.arr 17, .arr 741, nilA]), (7, .box [.arr 770]), (17, .arr 4 3 (litF [Sv (⟨#[120]⟩ : ByteArray), Sv (⟨#[100, 111, 116]⟩ : ByteArray), I 0, I 4095, Sv (⟨#[121]⟩ : ByteArray), Sv (⟨#[100, 111, 116]⟩ : ByteArray), I 0, I 4095, Sv (⟨#[116]⟩ : ByteArray), Sv (⟨#[109, 115]⟩ : ByteArray), I 0, I 3600000] 4)), (741, tARows true ss), (770, .arr 1 (([] : List (List Int)).length) (fLI true ([] : List (List Int))))]) rfl (⟨.inl rfl, .inl rfl, .inl rfl, .inl rfl, .inl rfl, .inl rfl, .inl rfl, .inl rfl, .inl rfl, trivial⟩) (⟨.inl rfl, .inl rfl, .inl rfl, .inl rfl, .inl rfl, .inr ⟨rfl, (by first | rfl | (simp; done) | (simp; omega) | omega), fun i_ hi_ => absurd hi_ (Nat.not_lt_zero _)⟩, trivial⟩) ?_
     refine x_loop (X := Int × (List (List Int))) (fun x => mkS [(2, .ref 2 0), (4, .ref 4 0), (7, .ref 7 0), (20, slStroke false ik.Strokes), (21, I (ik.Strokes.length : Int)), (22, I t22), (27, slPoint false ((at_ ik.Strokes t22.toNat).Points)), (28, I ((((at_ ik.Strokes t22.toNat).Points).length) : Int)), (29, I x.1)] [(2, .box [nilA, nilA, nilA]), (4, .box [.arr 17, .arr 741, nilA]), (7, .box [.arr 770]), (17, .arr 4 3 (litF [Sv (⟨#[120]⟩ : ByteArray), Sv (⟨#[100, 111, 116]⟩ : ByteArray), I 0, I 4095, Sv (⟨#[121]⟩ : ByteArray), Sv (⟨#[100, 111, 116]⟩ : ByteArray), I 0, I 4095, Sv (⟨#[116]⟩ : ByteArray), Sv (⟨#[109, 115]⟩ : ByteArray), I 0, I 3600000] 4)), (741, tARows true ss), (770, .arr 1 x.2.length (fLI true x.2))]) (fun x => (0 ≤ x.1 ∧ x.1 ≤ ((at_ ik.Strokes t22.toNat).Points.length : Int)) ∧ ((x.2.length : Int) = x.1) ∧ (x.2 = ((at_ ik.Strokes t22.toNat).Points.take x.1.toNat).map rwP) ∧ True) (fun x => (((at_ ik.Strokes t22.toNat).Points.length : Int) - x.1).toNat) (0, ([] : List (List Int))) rfl (show (0 ≤ (0 : Int) ∧ (0 : Int) ≤ ((at_ ik.Strokes t22.toNat).Points.length : Int)) ∧ ((([] : List (List Int)).length : Int) = (0 : Int)) ∧ (([] : List (List Int)) = ((at_ ik.Strokes t22.toNat).Points.take (0 : Int).toNat).map rwP) ∧ True from ⟨(by omega), (by rfl), (by rfl), trivial⟩) (fun x hI => ?_)
     obtain ⟨t29, vs⟩ := x
     obtain ⟨hk0, hvl, hvs, _⟩ : (0 ≤ t29 ∧ t29 ≤ ((at_ ik.Strokes t22.toNat).Points.length : Int)) ∧ ((vs.length : Int) = t29) ∧ (vs = ((at_ ik.Strokes t22.toNat).Points.take t29.toNat).map rwP) ∧ True := hI
     show XW _ _ _ _ (mkS [(2, .ref 2 0), (4, .ref 4 0), (7, .ref 7 0), (20, slStroke false ik.Strokes), (21, I (ik.Strokes.length : Int)), (22, I t22), (27, slPoint false ((at_ ik.Strokes t22.toNat).Points)), (28, I ((((at_ ik.Strokes t22.toNat).Points).length) : Int)), (29, I t29)] [(2, .box [nilA, nilA, nilA]), (4, .box [.arr 17, .arr 741, nilA]), (7, .box [.arr 770]), (17, .arr 4 3 (litF [Sv (⟨#[120]⟩ : ByteArray), Sv (⟨#[100, 111, 116]⟩ : ByteArray), I 0, I 4095, Sv (⟨#[121]⟩ : ByteArray), Sv (⟨#[100, 111, 116]⟩ : ByteArray), I 0, I 4095, Sv (⟨#[116]⟩ : ByteArray), Sv (⟨#[109, 115]⟩ : ByteArray), I 0, I 3600000] 4)), (741, tARows true ss), (770, .arr 1 vs.length (fLI true vs))]) _ _
     refine x_seq ?_
     by_cases h2 : t29 < ((((at_ ik.Strokes t22.toNat).Points).length) : Int)
     ·have hk : t29.toNat < (at_ ik.Strokes t22.toNat).Points.length := by omega
      have hkk : (t29 + 1).toNat = t29.toNat + 1 := by omega
      refine x_r [(0, .dec true)] [2, 4, 7, 20, 21, 22, 27, 28, 29, 30] [2, 4, 7, 17, 741, 770] [.ref 2 0, .ref 4 0, .ref 7 0, slStroke false ik.Strokes, I (ik.Strokes.length : Int), I t22, slPoint false ((at_ ik.Strokes t22.toNat).Points), I ((((at_ ik.Strokes t22.toNat).Points).length) : Int), I t29, Bv true] [some (.box [nilA, nilA, nilA]), some (.box [.arr 17, .arr 741, nilA]), some (.box [.arr 770]), some (.arr 4 3 (litF [Sv (⟨#[120]⟩ : ByteArray), Sv (⟨#[100, 111, 116]⟩ : ByteArray), I 0, I 4095, Sv (⟨#[121]⟩ : ByteArray), Sv (⟨#[100, 111, 116]⟩ : ByteArray), I 0, I 4095, Sv (⟨#[116]⟩ : ByteArray), Sv (⟨#[109, 115]⟩ : ByteArray), I 0, I 3600000] 4)), some (tARows true ss), some (.arr 1 vs.length (fLI true vs))] [t29 < ((((at_ ik.Strokes t22.toNat).Points).length) : Int)] ⟨h2, trivial⟩ ?_
      refine xe_then ?_
      refine x_seq ?_
      refine x_true rfl ?_
      refine x_skip ?_
      refine xe_then ?_
      refine x_seq ?_
      refine x_block ?_
      refine xR [(2, .new 9)] [2, 4, 7, 9, 20, 21, 22, 27, 28, 29] [2, 4, 7, 9, 17, 741, 770] [.ref 2 0, .ref 4 0, .ref 7 0, .ref 9 0, slStroke false ik.Strokes, I (ik.Strokes.length : Int), I t22, slPoint false ((at_ ik.Strokes t22.toNat).Points), I ((((at_ ik.Strokes t22.toNat).Points).length) : Int), I t29] [some (.box [nilA, nilA, nilA]), some (.box [.arr 17, .arr 741, nilA]), some (.box [.arr 770]), some (bxPoint (at_ ((at_ ik.Strokes t22.toNat).Points) t29.toNat)), some (.arr 4 3 (litF [Sv (⟨#[120]⟩ : ByteArray), Sv (⟨#[100, 111, 116]⟩ : ByteArray), I 0, I 4095, Sv (⟨#[121]⟩ : ByteArray), Sv (⟨#[100, 111, 116]⟩ : ByteArray), I 0, I 4095, Sv (⟨#[116]⟩ : ByteArray), Sv (⟨#[109, 115]⟩ : ByteArray), I 0, I 3600000] 4)), some (tARows true ss), some (.arr 1 vs.length (fLI true vs))] [(0 : Int) ≤ t29 ∧ t29 < ((((at_ ik.Strokes t22.toNat).Points).length) : Int)] ⟨⟨(by omega), (by omega)⟩, trivial⟩ ?_
      refine x_weak [] (T := [(2, .ref 2 0), (4, .ref 4 0), (7, .ref 7 0), (9, .ref 9 0), (20, slStroke false ik.Strokes), (21, I (ik.Strokes.length : Int)), (22, I t22), (27, slPoint false ((at_ ik.Strokes t22.toNat).Points)), (28, I ((((at_ ik.Strokes t22.toNat).Points).length) : Int)), (29, I t29)]) (O := [(2, .box [nilA, nilA, nilA]), (4, .box [.arr 17, .arr 741, nilA]), (7, .box [.arr 770]), (9, bxPoint (at_ ((at_ ik.Strokes t22.toNat).Points) t29.toNat)), (17, .arr 4 3 (litF [Sv (⟨#[120]⟩ : ByteArray), Sv (⟨#[100, 111, 116]⟩ : ByteArray), I 0, I 4095, Sv (⟨#[121]⟩ : ByteArray), Sv (⟨#[100, 111, 116]⟩ : ByteArray), I 0, I 4095, Sv (⟨#[116]⟩ : ByteArray), Sv (⟨#[109, 115]⟩ : ByteArray), I 0, I 3600000] 4)), (741, tARows true ss), (770, .oar [] 1 vs.length (fLI true vs))]) rfl (⟨.inl rfl, .inl rfl, .inl rfl, .inl rfl, .inl rfl, .inl rfl, .inl rfl, .inl rfl, .inl rfl, .inl rfl, trivial⟩) (⟨.inl rfl, .inl rfl, .inl rfl, .inl rfl, .inl rfl, .inl rfl, .inr ⟨rfl, rfl, fun i hi => rfl⟩, trivial⟩) ?_
      refine x_r [(8, .new 41), (9, .new 42), (10, .new 43)] [2, 4, 7, 20, 21, 22, 27, 28, 29] [2, 4, 7, 17, 41, 43, 741] [.ref 2 0, .ref 4 0, .ref 7 0, slStroke false ik.Strokes, I (ik.Strokes.length : Int), I t22, slPoint false ((at_ ik.Strokes t22.toNat).Points), I ((((at_ ik.Strokes t22.toNat).Points).length) : Int), I t29] [some (.box [nilA, nilA, nilA]), some (.box [.arr 17, .arr 741, nilA]), some (.box [.arr 43]), some (.arr 4 3 (litF [Sv (⟨#[120]⟩ : ByteArray), Sv (⟨#[100, 111, 116]⟩ : ByteArray), I 0, I 4095, Sv (⟨#[121]⟩ : ByteArray), Sv (⟨#[100, 111, 116]⟩ : ByteArray), I 0, I 4095, Sv (⟨#[116]⟩ : ByteArray), Sv (⟨#[109, 115]⟩ : ByteArray), I 0, I 3600000] 4)), some (.arr 1 3 (litF [I ((at_ ((at_ ik.Strokes t22.toNat).Points) t29.toNat).X), I ((at_ ((at_ ik.Strokes t22.toNat).Points) t29.toNat).Y), I ((at_ ((at_ ik.Strokes t22.toNat).Points) t29.toNat).T)] 1)), some (.oar [41] 1 (vs.length + 1) (catF vs.length (fLI true vs) (litF [.arr 41] 1))), some (tARows true ss)] [(vs.length + 1) * 24 ≤ 140737488355328] ⟨(by omega), trivial⟩ ?_
      refine xe_block 3 ?_
      refine xe_then ?_
      refine x_r [] [2, 4, 7, 20, 21, 22, 27, 28, 29] [2, 4, 7, 17, 41, 43, 741] [.ref 2 0, .ref 4 0, .ref 7 0, slStroke false ik.Strokes, I (ik.Strokes.length : Int), I t22, slPoint false ((at_ ik.Strokes t22.toNat).Points), I ((((at_ ik.Strokes t22.toNat).Points).length) : Int), I (t29 + 1)] [some (.box [nilA, nilA, nilA]), some (.box [.arr 17, .arr 741, nilA]), some (.box [.arr 43]), some (.arr 4 3 (litF [Sv (⟨#[120]⟩ : ByteArray), Sv (⟨#[100, 111, 116]⟩ : ByteArray), I 0, I 4095, Sv (⟨#[121]⟩ : ByteArray), Sv (⟨#[100, 111, 116]⟩ : ByteArray), I 0, I 4095, Sv (⟨#[116]⟩ : ByteArray), Sv (⟨#[109, 115]⟩ : ByteArray), I 0, I 3600000] 4)), some (.arr 1 3 (litF [I ((at_ ((at_ ik.Strokes t22.toNat).Points) t29.toNat).X), I ((at_ ((at_ ik.Strokes t22.toNat).Points) t29.toNat).Y), I ((at_ ((at_ ik.Strokes t22.toNat).Points) t29.toNat).T)] 1)), some (.oar [41] 1 (vs.length + 1) (catF vs.length (fLI true vs) (litF [.arr 41] 1))), some (tARows true ss)] [inR .i64 (t29 + 1)] ⟨(inR_i64 (by omega) (by omega)), trivial⟩ ?_
      refine xe_weak [(770, 43)] (T := [(2, .ref 2 0), (4, .ref 4 0), (7, .ref 7 0), (20, slStroke false ik.Strokes), (21, I (ik.Strokes.length : Int)), (22, I t22), (27, slPoint false ((at_ ik.Strokes t22.toNat).Points)), (28, I ((((at_ ik.Strokes t22.toNat).Points).length) : Int)), (29, I (t29 + 1))]) (O := [(2, .box [nilA, nilA, nilA]), (4, .box [.arr 17, .arr 741, nilA]), (7, .box [.arr 770]), (17, .arr 4 3 (litF [Sv (⟨#[120]⟩ : ByteArray), Sv (⟨#[100, 111, 116]⟩ : ByteArray), I 0, I 4095, Sv (⟨#[121]⟩ : ByteArray), Sv (⟨#[100, 111, 116]⟩ : ByteArray), I 0, I 4095, Sv (⟨#[116]⟩ : ByteArray), Sv (⟨#[109, 115]⟩ : ByteArray), I 0, I 3600000] 4)), (741, tARows true ss), (770, .arr 1 ((vs ++ [[(at_ ((at_ ik.Strokes t22.toNat).Points) t29.toNat).X, (at_ ((at_ ik.Strokes t22.toNat).Points) t29.toNat).Y, (at_ ((at_ ik.Strokes t22.toNat).Points) t29.toNat).T]]).length) (fLI true (vs ++ [[(at_ ((at_ ik.Strokes t22.toNat).Points) t29.toNat).X, (at_ ((at_ ik.Strokes t22.toNat).Points) t29.toNat).Y, (at_ ((at_ ik.Strokes t22.toNat).Points) t29.toNat).T]])))]) rfl (⟨.inl rfl, .inl rfl, .inl rfl, .inl rfl, .inl rfl, .inl rfl, .inl rfl, .inl rfl, .inl rfl, trivial⟩) (⟨.inl rfl, .inl rfl, .inl rfl, .inl rfl, .inl rfl, .inr ⟨rfl, (by simp), oaddLI vs ([(at_ ((at_ ik.Strokes t22.toNat).Points) t29.toNat).X, (at_ ((at_ ik.Strokes t22.toNat).Points) t29.toNat).Y, (at_ ((at_ ik.Strokes t22.toNat).Points) t29.toNat).T]) ⟨⟨(fun _ => rfl), rfl, (by first | rfl | (simp; done) | (simp; omega) | omega), fun i_ hi_ => .inl (match i_, hi_ with | 0, _ => rfl | 1, _ => rfl | 2, _ => rfl | (i + 3), h => absurd h (by simp))⟩, rfl⟩⟩, trivial⟩) (xe_again ((t29 + 1), (vs ++ [[(at_ ((at_ ik.Strokes t22.toNat).Points) t29.toNat).X, (at_ ((at_ ik.Strokes t22.toNat).Points) t29.toNat).Y, (at_ ((at_ ik.Strokes t22.toNat).Points) t29.toNat).T]])) rfl (show (0 ≤ (t29 + 1) ∧ (t29 + 1) ≤ ((at_ ik.Strokes t22.toNat).Points.length : Int)) ∧ (((vs ++ [[(at_ ((at_ ik.Strokes t22.toNat).Points) t29.toNat).X, (at_ ((at_ ik.Strokes t22.toNat).Points) t29.toNat).Y, (at_ ((at_ ik.Strokes t22.toNat).Points) t29.toNat).T]]).length : Int) = (t29 + 1)) ∧ ((vs ++ [[(at_ ((at_ ik.Strokes t22.toNat).Points) t29.toNat).X, (at_ ((at_ ik.Strokes t22.toNat).Points) t29.toNat).Y, (at_ ((at_ ik.Strokes t22.toNat).Points) t29.toNat).T]]) = ((at_ ik.Strokes t22.toNat).Points.take (t29 + 1).toNat).map rwP) ∧ True from ⟨(by omega), (by simp; omega), (by rw [hvs, hkk, List.take_succ_eq_append_getElem hk, List.map_append, at_eq hk]; rfl), trivial⟩) (by first | (show ((((at_ ik.Strokes t22.toNat).Points.length : Int) - (t29 + 1)).toNat : Nat) < (((at_ ik.Strokes t22.toNat).Points.length : Int) - t29).toNat; omega) | (dsimp only; omega)))
     have hfr : vs = (at_ ik.Strokes t22.toNat).Points.map rwP := by rw [hvs, List.take_of_length_le (by omega)]
     refine x_r [(0, .dec false)] [2, 4, 7, 20, 21, 22, 27, 28, 29, 30] [2, 4, 7, 17, 741, 770] [.ref 2 0, .ref 4 0, .ref 7 0, slStroke false ik.Strokes, I (ik.Strokes.length : Int), I t22, slPoint false ((at_ ik.Strokes t22.toNat).Points), I ((((at_ ik.Strokes t22.toNat).Points).length) : Int), I t29, Bv false] [some (.box [nilA, nilA, nilA]), some (.box [.arr 17, .arr 741, nilA]), some (.box [.arr 770]), some (.arr 4 3 (litF [Sv (⟨#[120]⟩ : ByteArray), Sv (⟨#[100, 111, 116]⟩ : ByteArray), I 0, I 4095, Sv (⟨#[121]⟩ : ByteArray), Sv (⟨#[100, 111, 116]⟩ : ByteArray), I 0, I 4095, Sv (⟨#[116]⟩ : ByteArray), Sv (⟨#[109, 115]⟩ : ByteArray), I 0, I 3600000] 4)), some (tARows true ss), some (.arr 1 vs.length (fLI true vs))] [¬ (t29 < ((((at_ ik.Strokes t22.toNat).Points).length) : Int))] ⟨h2, trivial⟩ ?_
     refine xe_then ?_
     refine x_seq ?_
     refine x_false rfl ?_
     refine x_exit ?_
     refine xe_exit_then ?_
     refine xe_loop_exit ?_
     refine xe_exit_same ?_
     refine xe_then ?_
     refine x_weak [] (T := [(2, .ref 2 0), (4, .ref 4 0), (7, .ref 7 0), (20, slStroke false ik.Strokes), (21, I (ik.Strokes.length : Int)), (22, I t22), (27, slPoint false ((at_ ik.Strokes t22.toNat).Points)), (28, I ((((at_ ik.Strokes t22.toNat).Points).length) : Int)), (29, I t29), (30, Bv false)]) (O := [(2, .box [nilA, nilA, nilA]), (4, .box [.arr 17, .arr 741, nilA]), (7, .box [.arr 770]), (17, .arr 4 3 (litF [Sv (⟨#[120]⟩ : ByteArray), Sv (⟨#[100, 111, 116]⟩ : ByteArray), I 0, I 4095, Sv (⟨#[121]⟩ : ByteArray), Sv (⟨#[100, 111, 116]⟩ : ByteArray), I 0, I 4095, Sv (⟨#[116]⟩ : ByteArray), Sv (⟨#[109, 115]⟩ : ByteArray), I 0, I 3600000] 4)), (741, .oar [] 1 ss.length (fRows true ss)), (770, .arr 1 vs.length (fLI true vs))]) rfl (⟨.inl rfl, .inl rfl, .inl rfl, .inl rfl, .inl rfl, .inl rfl, .inl rfl, .inl rfl, .inl rfl, .inl rfl, trivial⟩) (⟨.inl rfl, .inl rfl, .inl rfl, .inl rfl, .inr ⟨rfl, rfl, fun i hi => rfl⟩, .inl rfl, trivial⟩) ?_
     refine x_r [(3, .new 49), (4, .new 50)] [2, 4, 20, 21, 22] [2, 4, 17, 50, 770] [.ref 2 0, .ref 4 0, slStroke false ik.Strokes, I (ik.Strokes.length : Int), I t22] [some (.box [nilA, nilA, nilA]), some (.box [.arr 17, .arr 50, nilA]), some (.arr 4 3 (litF [Sv (⟨#[120]⟩ : ByteArray), Sv (⟨#[100, 111, 116]⟩ : ByteArray), I 0, I 4095, Sv (⟨#[121]⟩ : ByteArray), Sv (⟨#[100, 111, 116]⟩ : ByteArray), I 0, I 4095, Sv (⟨#[116]⟩ : ByteArray), Sv (⟨#[109, 115]⟩ : ByteArray), I 0, I 3600000] 4)), some (.oar [770] 1 (ss.length + 1) (catF ss.length (fRows true ss) (litF [.arr 770] 1))), some (.arr 1 vs.length (fLI true vs))] [(ss.length + 1) * 24 ≤ 140737488355328] ⟨(by omega), trivial⟩ ?_
     refine xe_block 1 ?_
     refine xe_then ?_
     refine x_r [] [2, 4, 20, 21, 22] [2, 4, 17, 50, 770] [.ref 2 0, .ref 4 0, slStroke false ik.Strokes, I (ik.Strokes.length : Int), I (t22 + 1)] [some (.box [nilA, nilA, nilA]), some (.box [.arr 17, .arr 50, nilA]), some (.arr 4 3 (litF [Sv (⟨#[120]⟩ : ByteArray), Sv (⟨#[100, 111, 116]⟩ : ByteArray), I 0, I 4095, Sv (⟨#[121]⟩ : ByteArray), Sv (⟨#[100, 111, 116]⟩ : ByteArray), I 0, I 4095, Sv (⟨#[116]⟩ : ByteArray), Sv (⟨#[109, 115]⟩ : ByteArray), I 0, I 3600000] 4)), some (.oar [770] 1 (ss.length + 1) (catF ss.length (fRows true ss) (litF [.arr 770] 1))), some (.arr 1 vs.length (fLI true vs))] [inR .i64 (t22 + 1)] ⟨(inR_i64 (by omega) (by omega)), trivial⟩ ?_
     refine xe_weak [(741, 50)] (T := [(2, .ref 2 0), (4, .ref 4 0), (20, slStroke false ik.Strokes), (21, I (ik.Strokes.length : Int)), (22, I (t22 + 1))]) (O := [(2, .box [nilA, nilA, nilA]), (4, .box [.arr 17, .arr 741, nilA]), (17, .arr 4 3 (litF [Sv (⟨#[120]⟩ : ByteArray), Sv (⟨#[100, 111, 116]⟩ : ByteArray), I 0, I 4095, Sv (⟨#[121]⟩ : ByteArray), Sv (⟨#[100, 111, 116]⟩ : ByteArray), I 0, I 4095, Sv (⟨#[116]⟩ : ByteArray), Sv (⟨#[109, 115]⟩ : ByteArray), I 0, I 3600000] 4)), (741, tARows true (ss ++ [(Rows.mk vs)]))]) rfl (⟨.inl rfl, .inl rfl, .inl rfl, .inl rfl, .inl rfl, trivial⟩) (⟨.inl rfl, .inl rfl, .inl rfl, .inr ⟨rfl, (by simp), oaddRows ss (Rows.mk vs) ⟨⟨(fun _ => rfl), rfl, rfl, fun i _ => .inl rfl⟩, rfl⟩⟩, trivial⟩) (xe_again ((t22 + 1), (ss ++ [(Rows.mk vs)])) rfl (show (0 ≤ (t22 + 1) ∧ (t22 + 1) ≤ (ik.Strokes.length : Int)) ∧ (((ss ++ [(Rows.mk vs)]).length : Int) = (t22 + 1)) ∧ ((ss ++ [(Rows.mk vs)]) = (ik.Strokes.take (t22 + 1).toNat).map rwS) ∧ True from ⟨(by omega), (by simp; omega), (by rw [hss, hks, hfr, List.take_succ_eq_append_getElem hi, List.map_append, at_eq hi]; rfl), trivial⟩) (by first | (show (((ik.Strokes.length : Int) - (t22 + 1)).toNat : Nat) < ((ik.Strokes.length : Int) - t22).toNat; omega) | (dsimp only; omega)))
    have hfin : ss = ik.Strokes.map rwS := by rw [hss, List.take_of_length_le (by omega)]
    refine x_r [(0, .dec false)] [2, 4, 20, 21, 22, 23] [2, 4, 17, 741] [.ref 2 0, .ref 4 0, slStroke false ik.Strokes, I (ik.Strokes.length : Int), I t22, Bv false] [some (.box [nilA, nilA, nilA]), some (.box [.arr 17, .arr 741, nilA]), some (.arr 4 3 (litF [Sv (⟨#[120]⟩ : ByteArray), Sv (⟨#[100, 111, 116]⟩ : ByteArray), I 0, I 4095, Sv (⟨#[121]⟩ : ByteArray), Sv (⟨#[100, 111, 116]⟩ : ByteArray), I 0, I 4095, Sv (⟨#[116]⟩ : ByteArray), Sv (⟨#[109, 115]⟩ : ByteArray), I 0, I 3600000] 4)), some (tARows true ss)] [¬ (t22 < (ik.Strokes.length : Int))] ⟨h1, trivial⟩ ?_
    refine xe_then ?_
    refine x_seq ?_
    refine x_false rfl ?_
    refine x_exit ?_
    refine xe_exit_then ?_
    refine xe_loop_exit ?_
    refine xe_exit_same ?_
    refine xe_then ?_
    refine xR [] [2, 3] [2, 17, 741] [.ref 2 0, I 0] [some (.box [.arr 17, .arr 741, nilA]), some (.arr 4 3 (litF [Sv (⟨#[120]⟩ : ByteArray), Sv (⟨#[100, 111, 116]⟩ : ByteArray), I 0, I 4095, Sv (⟨#[121]⟩ : ByteArray), Sv (⟨#[100, 111, 116]⟩ : ByteArray), I 0, I 4095, Sv (⟨#[116]⟩ : ByteArray), Sv (⟨#[109, 115]⟩ : ByteArray), I 0, I 3600000] 4)), some (tARows true ss)] [] trivial ?_
    refine x_ret ?_
    refine xe_end ((File.mk ([(Channel.mk (⟨#[120]⟩ : ByteArray) (⟨#[100, 111, 116]⟩ : ByteArray) 0 4095), (Channel.mk (⟨#[121]⟩ : ByteArray) (⟨#[100, 111, 116]⟩ : ByteArray) 0 4095), (Channel.mk (⟨#[116]⟩ : ByteArray) (⟨#[109, 115]⟩ : ByteArray) 0 3600000)]) ss ([] : List Note)), 0) (show ((File.mk ([(Channel.mk (⟨#[120]⟩ : ByteArray) (⟨#[100, 111, 116]⟩ : ByteArray) 0 4095), (Channel.mk (⟨#[121]⟩ : ByteArray) (⟨#[100, 111, 116]⟩ : ByteArray) 0 4095), (Channel.mk (⟨#[116]⟩ : ByteArray) (⟨#[109, 115]⟩ : ByteArray) 0 3600000)]) ss ([] : List Note)) = filI ik) ∧ (0 = 0) ∧ (True) from ⟨(by first | (rw [hfin]; rfl) | rfl), (by first | (rw [hfin]; rfl) | rfl), trivial⟩) (trivial) (.tup [.agg [.arr 17, .arr 741, nilA], I 0]) (by kernel_rfl) (.inr ⟨⟨⟨(fun _ => rfl), rfl, (by first | rfl | (simp; done) | (simp; omega) | omega), fun i_ hi_ => .inl (match i_, hi_ with | 0, _ => rfl | 1, _ => rfl | 2, _ => rfl | (i + 3), h => absurd h (by simp))⟩, ⟨⟨(fun _ => rfl), rfl, rfl, fun i _ => .inl rfl⟩, ⟨⟨rfl, rfl⟩, rfl⟩⟩⟩, ⟨rfl, rfl⟩⟩) (fun _ => rfl) (fun _ => (by simp [tagged, taggedL, tagChannel, tagNote, tagRows]))
  obtain ⟨⟨v, c⟩, ⟨hh0, hh1, _⟩, hc⟩ := hh
  exact ⟨v, c, hh0, hh1, hc⟩
theorem isLetter_ok (c : Int) : Con Tryz.prog 113 [.val (.int .u8 c)] true (Bv (inB c 97 122)) := by
  refine fn_ok (fn := Tryz.f113) (nt := 9) Tryz.func113 rfl rfl rfl rfl (by simp [taggedL, tagged]) fun B hB => ?_
  refine aR [] [0] [] [.val (.int .u8 c)] [] [] hB trivial ?_
  refine aw_seq ?_
  by_cases h1 : 97 ≤ c
  ·refine aw_r [(1, .dec true)] [2] [] [Bv (decide (c ≤ 122))] [] [97 ≤ c] hB ⟨h1, trivial⟩ ?_
   refine ae_then ?_
   refine aw_ret ?_
   refine ae_ret hB (Bv (decide (c ≤ 122))) (by kernel_rfl) (.inl (by first | rfl | (refine congrArg Bv ?_; simp [inB, *]; done) | (refine congrArg Bv ?_; simp [inB, *]; omega) | (refine congrArg Bv ?_; simp_all [inB]; done) | (refine congrArg Bv ?_; simp_all [inB]; omega))) rfl (fun _ => trivial)
  refine aw_r [(1, .dec false)] [2] [] [Bv false] [] [¬ (97 ≤ c)] hB ⟨h1, trivial⟩ ?_
  refine ae_then ?_
  refine aw_ret ?_
  refine ae_ret hB (Bv false) (by kernel_rfl) (.inl (by first | rfl | (refine congrArg Bv ?_; simp [inB, *]; done) | (refine congrArg Bv ?_; simp [inB, *]; omega) | (refine congrArg Bv ?_; simp_all [inB]; done) | (refine congrArg Bv ?_; simp_all [inB]; omega))) rfl (fun _ => trivial)
theorem IsName_ok (s : ByteArray) (hn : okName s) : Con Tryz.prog 81 [Sv s] true (Bv true) := by
  have hz := hn.1
  refine fn_ok (fn := Tryz.f81) (nt := 43) Tryz.func81 rfl rfl rfl rfl (by simp [taggedL, tagged]) fun B hB => ?_
  refine aR [] [0] [] [Sv s] [] [] hB trivial ?_
  refine aw_seq ?_
  refine aw_seq ?_
  by_cases h1 : (s.size : Int) < 1
  ·refine aw_r [(2, .dec true)] [0, 18] [] [Sv s, Bv true] [] [(s.size : Int) < 1] hB ⟨h1, trivial⟩ ?_
   refine ae_then ?_
   refine aw_true rfl ?_
   refine aR [] [2] [] [Bv false] [] [] hB trivial ?_
   refine aw_ret ?_
   refine ae_ret_then ?_
   refine ae_ret hB (Bv false) (by kernel_rfl) (.inl (by first | rfl | (exfalso; omega) | (exfalso; rcases hel2 with q | q | q <;> (simp_all; done)) | (exfalso; rcases hel with q | q | q <;> first | omega | (simp_all; done) | (simp_all; omega)) | (refine congrArg Bv ?_; simp [*]; done))) rfl (fun _ => trivial)
  by_cases h2 : 12 < (s.size : Int)
  ·refine aw_r [(2, .dec false), (6, .dec true)] [0, 18] [] [Sv s, Bv true] [] [¬ ((s.size : Int) < 1), 12 < (s.size : Int)] hB ⟨h1, h2, trivial⟩ ?_
   refine ae_then ?_
   refine aw_true rfl ?_
   refine aR [] [2] [] [Bv false] [] [] hB trivial ?_
   refine aw_ret ?_
   refine ae_ret_then ?_
   refine ae_ret hB (Bv false) (by kernel_rfl) (.inl (by first | rfl | (exfalso; omega) | (exfalso; rcases hel2 with q | q | q <;> (simp_all; done)) | (exfalso; rcases hel with q | q | q <;> first | omega | (simp_all; done) | (simp_all; omega)) | (refine congrArg Bv ?_; simp [*]; done))) rfl (fun _ => trivial)
  refine aw_r [(2, .dec false), (6, .dec false), (11, .call [(true, .any)] true (Bv true))] [0, 18] [] [Sv s, Bv false] [] [¬ ((s.size : Int) < 1), ¬ (12 < (s.size : Int)), (0 : Int) ≤ 0 ∧ 0 < (s.size : Int), Con Tryz.prog 113 [.val (.int .u8 (bAt s 0))] true (Bv true) ∧ True] hB ⟨h1, h2, ⟨(by omega), (by omega)⟩, ⟨(con_bool hn.2.1 (isLetter_ok (bAt s 0))), trivial⟩, trivial⟩ ?_
  refine ae_then ?_
  refine aw_false rfl ?_
  refine aw_skip ?_
  refine ae_then ?_
  refine aw_seq ?_
  refine aR [] [20, 21, 22] [] [.sl true 1 s.size (byteF s), I (s.size : Int), I 0] [] [s.size ≤ 140737488355328] hB ⟨(by omega), trivial⟩ ?_
  refine aw_block ?_
  refine aw_loop (fun gn gσ => ∃ (t22 : Int), gn = ((s.size : Int) - t22).toNat ∧ (0 ≤ t22 ∧ t22 ≤ (s.size : Int)) ∧ gσ = mkS [(20, .sl true 1 s.size (byteF s)), (21, I (s.size : Int)), (22, I t22)] []) (((s.size : Int) - 0).toNat) ⟨0, rfl, (by omega), rfl⟩ (fun gn gσ hI => ?_)
  obtain ⟨t22, rfl, hi0, rfl⟩ := hI
  refine aw_seq ?_
  by_cases h3 : t22 < (s.size : Int)
  ·have hi : t22.toNat < s.size := by omega
   have hel := chr_or (hn.2.2 _ hi)
   have hel2 := chr_or2 (hn.2.2 _ hi)
   refine aw_r [(0, .dec true)] [20, 21, 22, 23] [] [.sl true 1 s.size (byteF s), I (s.size : Int), I t22, Bv true] [] [t22 < (s.size : Int)] hB ⟨h3, trivial⟩ ?_
   refine ae_then ?_
   refine aw_seq ?_
   refine aw_true rfl ?_
   refine aw_skip ?_
   refine ae_then ?_
   refine aw_seq ?_
   refine aw_block ?_
   refine aR [] [4, 20, 21, 22] [] [.val (.int .u8 (bAt s t22.toNat)), .sl true 1 s.size (byteF s), I (s.size : Int), I t22] [] [(0 : Int) ≤ t22 ∧ t22 < (s.size : Int)] hB ⟨⟨(by omega), (by omega)⟩, trivial⟩ ?_
   refine aw_seq ?_
   rcases Bool.eq_false_or_eq_true (inB (bAt s t22.toNat) 97 122) with h4 | h4
   ·refine aw_r [(1, .call [(true, .any)] true (Bv true))] [20, 21, 22, 41] [] [.sl true 1 s.size (byteF s), I (s.size : Int), I t22, Bv false] [] [Con Tryz.prog 113 [.val (.int .u8 (bAt s t22.toNat))] true (Bv true) ∧ True] hB ⟨⟨(con_bool h4 (isLetter_ok (bAt s t22.toNat))), trivial⟩, trivial⟩ ?_
    refine ae_then ?_
    refine aw_false rfl ?_
    refine aw_skip ?_
    refine ae_block 1 ?_
    refine ae_then ?_
    refine aw_r [] [20, 21, 22] [] [.sl true 1 s.size (byteF s), I (s.size : Int), I (t22 + 1)] [] [inR .i64 (t22 + 1)] hB ⟨(inR_i64 (by omega) (by omega)), trivial⟩ ?_
    exact ae_again _ (by omega) ⟨(t22 + 1), rfl, (by omega), rfl⟩
   by_cases h5 : 48 ≤ (bAt s t22.toNat)
   ·by_cases h6 : (bAt s t22.toNat) ≤ 57
    ·refine aw_r [(1, .call [(true, .any)] true (Bv false)), (5, .dec true), (8, .dec true)] [20, 21, 22, 41] [] [.sl true 1 s.size (byteF s), I (s.size : Int), I t22, Bv false] [] [Con Tryz.prog 113 [.val (.int .u8 (bAt s t22.toNat))] true (Bv false) ∧ True, 48 ≤ (bAt s t22.toNat), (bAt s t22.toNat) ≤ 57] hB ⟨⟨(con_bool h4 (isLetter_ok (bAt s t22.toNat))), trivial⟩, h5, h6, trivial⟩ ?_
     refine ae_then ?_
     refine aw_false rfl ?_
     refine aw_skip ?_
     refine ae_block 1 ?_
     refine ae_then ?_
     refine aw_r [] [20, 21, 22] [] [.sl true 1 s.size (byteF s), I (s.size : Int), I (t22 + 1)] [] [inR .i64 (t22 + 1)] hB ⟨(inR_i64 (by omega) (by omega)), trivial⟩ ?_
     exact ae_again _ (by omega) ⟨(t22 + 1), rfl, (by omega), rfl⟩
    by_cases h7 : (bAt s t22.toNat) = 45
    ·refine aw_r [(1, .call [(true, .any)] true (Bv false)), (5, .dec true), (8, .dec false), (14, .dec false)] [20, 21, 22, 41] [] [.sl true 1 s.size (byteF s), I (s.size : Int), I t22, Bv false] [] [Con Tryz.prog 113 [.val (.int .u8 (bAt s t22.toNat))] true (Bv false) ∧ True, 48 ≤ (bAt s t22.toNat), ¬ ((bAt s t22.toNat) ≤ 57), ¬ ((bAt s t22.toNat) ≠ 45)] hB ⟨⟨(con_bool h4 (isLetter_ok (bAt s t22.toNat))), trivial⟩, h5, h6, (fun hq => hq h7), trivial⟩ ?_
     refine ae_then ?_
     refine aw_false rfl ?_
     refine aw_skip ?_
     refine ae_block 1 ?_
     refine ae_then ?_
     refine aw_r [] [20, 21, 22] [] [.sl true 1 s.size (byteF s), I (s.size : Int), I (t22 + 1)] [] [inR .i64 (t22 + 1)] hB ⟨(inR_i64 (by omega) (by omega)), trivial⟩ ?_
     exact ae_again _ (by omega) ⟨(t22 + 1), rfl, (by omega), rfl⟩
    refine aw_r [(1, .call [(true, .any)] true (Bv false)), (5, .dec true), (8, .dec false), (14, .dec true)] [20, 21, 22, 41] [] [.sl true 1 s.size (byteF s), I (s.size : Int), I t22, Bv true] [] [Con Tryz.prog 113 [.val (.int .u8 (bAt s t22.toNat))] true (Bv false) ∧ True, 48 ≤ (bAt s t22.toNat), ¬ ((bAt s t22.toNat) ≤ 57), (bAt s t22.toNat) ≠ 45] hB ⟨⟨(con_bool h4 (isLetter_ok (bAt s t22.toNat))), trivial⟩, h5, h6, h7, trivial⟩ ?_
    refine ae_then ?_
    refine aw_true rfl ?_
    refine aR [] [2] [] [Bv false] [] [] hB trivial ?_
    refine aw_ret ?_
    refine ae_ret_block (ae_ret_then (ae_ret_then (ae_ret_block (ae_ret_then ?_))))
    refine ae_ret hB (Bv false) (by kernel_rfl) (.inl (by first | rfl | (exfalso; omega) | (exfalso; rcases hel2 with q | q | q <;> (simp_all; done)) | (exfalso; rcases hel with q | q | q <;> first | omega | (simp_all; done) | (simp_all; omega)) | (refine congrArg Bv ?_; simp [*]; done))) rfl (fun _ => trivial)
   by_cases h8 : (bAt s t22.toNat) = 45
   ·refine aw_r [(1, .call [(true, .any)] true (Bv false)), (5, .dec false), (14, .dec false)] [20, 21, 22, 41] [] [.sl true 1 s.size (byteF s), I (s.size : Int), I t22, Bv false] [] [Con Tryz.prog 113 [.val (.int .u8 (bAt s t22.toNat))] true (Bv false) ∧ True, ¬ (48 ≤ (bAt s t22.toNat)), ¬ ((bAt s t22.toNat) ≠ 45)] hB ⟨⟨(con_bool h4 (isLetter_ok (bAt s t22.toNat))), trivial⟩, h5, (fun hq => hq h8), trivial⟩ ?_
    refine ae_then ?_
    refine aw_false rfl ?_
    refine aw_skip ?_
    refine ae_block 1 ?_
    refine ae_then ?_
    refine aw_r [] [20, 21, 22] [] [.sl true 1 s.size (byteF s), I (s.size : Int), I (t22 + 1)] [] [inR .i64 (t22 + 1)] hB ⟨(inR_i64 (by omega) (by omega)), trivial⟩ ?_
    exact ae_again _ (by omega) ⟨(t22 + 1), rfl, (by omega), rfl⟩
   refine aw_r [(1, .call [(true, .any)] true (Bv false)), (5, .dec false), (14, .dec true)] [20, 21, 22, 41] [] [.sl true 1 s.size (byteF s), I (s.size : Int), I t22, Bv true] [] [Con Tryz.prog 113 [.val (.int .u8 (bAt s t22.toNat))] true (Bv false) ∧ True, ¬ (48 ≤ (bAt s t22.toNat)), (bAt s t22.toNat) ≠ 45] hB ⟨⟨(con_bool h4 (isLetter_ok (bAt s t22.toNat))), trivial⟩, h5, h8, trivial⟩ ?_
   refine ae_then ?_
   refine aw_true rfl ?_
   refine aR [] [2] [] [Bv false] [] [] hB trivial ?_
   refine aw_ret ?_
   refine ae_ret_block (ae_ret_then (ae_ret_then (ae_ret_block (ae_ret_then ?_))))
   refine ae_ret hB (Bv false) (by kernel_rfl) (.inl (by first | rfl | (exfalso; omega) | (exfalso; rcases hel2 with q | q | q <;> (simp_all; done)) | (exfalso; rcases hel with q | q | q <;> first | omega | (simp_all; done) | (simp_all; omega)) | (refine congrArg Bv ?_; simp [*]; done))) rfl (fun _ => trivial)
  refine aw_r [(0, .dec false)] [20, 21, 22, 23] [] [.sl true 1 s.size (byteF s), I (s.size : Int), I t22, Bv false] [] [¬ (t22 < (s.size : Int))] hB ⟨h3, trivial⟩ ?_
  refine ae_then ?_
  refine aw_seq ?_
  refine aw_false rfl ?_
  refine aw_exit ?_
  refine ae_exit_then ?_
  refine ae_exit_then ?_
  refine ae_exit_same ?_
  refine ae_then ?_
  refine aR [] [2] [] [Bv true] [] [] hB trivial ?_
  refine aw_ret ?_
  refine ae_ret hB (Bv true) (by kernel_rfl) (.inl rfl) rfl (fun _ => trivial)
theorem validChannel_ok (c : Channel) (hc : okChan c) : Con Tryz.prog 78 [agChannel c] true (Bv true) := by
  have hb := hc.2.2
  refine fn_ok (fn := Tryz.f78) (nt := 28) Tryz.func78 rfl rfl rfl rfl (by simp [taggedL, tagged]) fun B hB => ?_
  refine aR [(0, .new 1)] [1] [1] [.ref 1 0] [some (bxChannel c)] [] hB trivial ?_
  refine aR [(2, .call [(true, .any)] true (Bv true)), (6, .call [(true, .any)] true (Bv true)), (11, .call [(true, .any), (true, .any), (true, .any)] true (Bv true)), (16, .call [(true, .any), (true, .any), (true, .any)] true (Bv true))] [2] [] [Bv (decide (c.Low < c.High))] [] [Con Tryz.prog 81 [Sv c.Name] true (Bv true) ∧ True, Con Tryz.prog 81 [Sv c.Unit] true (Bv true) ∧ True, Con Tryz.prog 117 [I c.Low, I (-1000000000), I 1000000000] true (Bv true) ∧ True, Con Tryz.prog 117 [I c.High, I (-1000000000), I 1000000000] true (Bv true) ∧ True] hB ⟨⟨(IsName_ok c.Name hc.1), trivial⟩, ⟨(IsName_ok c.Unit hc.2.1), trivial⟩, ⟨(con_bool (inB_iff.2 (by omega)) (within_ok c.Low (-1000000000) 1000000000)), trivial⟩, ⟨(con_bool (inB_iff.2 (by omega)) (within_ok c.High (-1000000000) 1000000000)), trivial⟩, trivial⟩ ?_
  refine aw_ret ?_
  refine ae_ret hB (Bv (decide (c.Low < c.High))) (by kernel_rfl) (.inl (by first | rfl | (refine congrArg Bv ?_; exact decide_eq_true (by omega)))) rfl (fun _ => trivial)
theorem indexOfChannel1_ok (c : Channel) (name : ByteArray) : Con Tryz.prog 83 [agChannel c, .ptr false [Sv name]] true (Bv (decide (c.Name = name))) := by
  refine fn_ok (fn := Tryz.f83) (nt := 8) Tryz.func83 rfl rfl rfl rfl (by simp [taggedL, tagged]) fun B hB => ?_
  refine aR [(0, .new 2)] [1, 2] [2] [.ptr false [Sv name], .ref 2 0] [some (bxChannel c)] [] hB trivial ?_
  refine aR [] [3] [] [Bv (decide (c.Name = name))] [] [] hB trivial ?_
  refine aw_ret ?_
  refine ae_ret hB (Bv (decide (c.Name = name))) (by kernel_rfl) (.inl rfl) rfl (fun _ => trivial)
theorem idxChan_ok (s : List Channel) (name : ByteArray) : Con Tryz.prog 82 [slChannel false s, .fn 83 [.ptr false [Sv name]]] true (I (firstN s.length (fun j => decide ((at_ s j).Name = name)))) := by
  refine fn_ok (fn := Tryz.f82) (nt := 19) Tryz.func82 rfl rfl rfl rfl (by simp [taggedL, tagged, tagChannel]) fun B hB => ?_
  refine aw_lens (x := slChannel false s) 0 rfl (fun len_s => ?_)
  simp [LenOK, LenL, cChannel, fChannel, slChannel] at len_s
  refine aR [] [0, 1] [] [slChannel false s, .fn 83 [.ptr false [Sv name]]] [] [] hB trivial ?_
  refine aw_seq ?_
  refine aR [] [0, 1, 7, 8] [] [slChannel false s, .fn 83 [.ptr false [Sv name]], I (s.length : Int), I 0] [] [] hB trivial ?_
  refine aw_block ?_
  refine aw_loop (fun gn gσ => ∃ (t8 : Int), gn = ((s.length : Int) - t8).toNat ∧ (0 ≤ t8 ∧ t8 ≤ (s.length : Int)) ∧ (∀ j : Nat, (j : Int) < t8 → decide ((at_ s j).Name = name) = false) ∧ gσ = mkS [(0, slChannel false s), (1, .fn 83 [.ptr false [Sv name]]), (7, I (s.length : Int)), (8, I t8)] []) (((s.length : Int) - 0).toNat) ⟨0, rfl, (by omega), (by intro j hj; omega), rfl⟩ (fun gn gσ hI => ?_)
  obtain ⟨t8, rfl, hi0, hall0, rfl⟩ := hI
  refine aw_seq ?_
  by_cases h1 : t8 < (s.length : Int)
  ·have hi : t8.toNat < s.length := by omega
   refine aw_r [(0, .dec true)] [0, 1, 7, 8, 9] [] [slChannel false s, .fn 83 [.ptr false [Sv name]], I (s.length : Int), I t8, Bv true] [] [t8 < (s.length : Int)] hB ⟨h1, trivial⟩ ?_
   refine ae_then ?_
   refine aw_seq ?_
   refine aw_true rfl ?_
   refine aw_skip ?_
   refine ae_then ?_
   refine aw_seq ?_
   refine aw_block ?_
   refine aR [] [0, 1, 5, 7, 8] [] [slChannel false s, .fn 83 [.ptr false [Sv name]], I t8, I (s.length : Int), I t8] [] [] hB trivial ?_
   refine aw_seq ?_
   rcases Bool.eq_false_or_eq_true (decide ((at_ s t8.toNat).Name = name)) with h2 | h2
   ·have hfin : firstN s.length (fun j => decide ((at_ s j).Name = name)) = t8.toNat := firstN_hit hi h2 (fun j hj => hall0 j (by omega))
    refine aw_r [(5, .call [(true, .any), (true, .any)] true (Bv true))] [0, 1, 5, 7, 8, 16] [] [slChannel false s, .fn 83 [.ptr false [Sv name]], I t8, I (s.length : Int), I t8, Bv true] [] [(0 : Int) ≤ t8 ∧ t8 < (s.length : Int), Con Tryz.prog 83 [agChannel (at_ s t8.toNat), .ptr false [Sv name]] true (Bv true) ∧ True] hB ⟨⟨(by omega), (by omega)⟩, ⟨(con_bool h2 (indexOfChannel1_ok (at_ s t8.toNat) name)), trivial⟩, trivial⟩ ?_
    refine ae_then ?_
    refine aw_true rfl ?_
    refine aR [] [4] [] [I t8] [] [] hB trivial ?_
    refine aw_ret ?_
    refine ae_ret_block (ae_ret_then (ae_ret_then (ae_ret_block (ae_ret_then ?_))))
    refine ae_ret hB (I t8) (by kernel_rfl) (.inl (by refine congrArg I ?_; first | (rw [hfin]; done) | (rw [hfin]; omega))) rfl (fun _ => trivial)
   refine aw_r [(5, .call [(true, .any), (true, .any)] true (Bv false))] [0, 1, 5, 7, 8, 16] [] [slChannel false s, .fn 83 [.ptr false [Sv name]], I t8, I (s.length : Int), I t8, Bv false] [] [(0 : Int) ≤ t8 ∧ t8 < (s.length : Int), Con Tryz.prog 83 [agChannel (at_ s t8.toNat), .ptr false [Sv name]] true (Bv false) ∧ True] hB ⟨⟨(by omega), (by omega)⟩, ⟨(con_bool h2 (indexOfChannel1_ok (at_ s t8.toNat) name)), trivial⟩, trivial⟩ ?_
   refine ae_then ?_
   refine aw_false rfl ?_
   refine aw_skip ?_
   refine ae_block 1 ?_
   refine ae_then ?_
   refine aw_r [] [0, 1, 7, 8] [] [slChannel false s, .fn 83 [.ptr false [Sv name]], I (s.length : Int), I (t8 + 1)] [] [inR .i64 (t8 + 1)] hB ⟨(inR_i64 (by omega) (by omega)), trivial⟩ ?_
   exact ae_again _ (by omega) ⟨(t8 + 1), rfl, (by omega), (by intro j hj; by_cases ej : j = t8.toNat; (subst ej; first | assumption | rfl); exact hall0 j (by omega)), rfl⟩
  have hfin : firstN s.length (fun j => decide ((at_ s j).Name = name)) = -1 := firstN_none (fun j hj => hall0 j (by omega))
  refine aw_r [(0, .dec false)] [0, 1, 7, 8, 9] [] [slChannel false s, .fn 83 [.ptr false [Sv name]], I (s.length : Int), I t8, Bv false] [] [¬ (t8 < (s.length : Int))] hB ⟨h1, trivial⟩ ?_
  refine ae_then ?_
  refine aw_seq ?_
  refine aw_false rfl ?_
  refine aw_exit ?_
  refine ae_exit_then ?_
  refine ae_exit_then ?_
  refine ae_exit_same ?_
  refine ae_then ?_
  refine aR [] [4] [] [I (-1)] [] [] hB trivial ?_
  refine aw_ret ?_
  refine ae_ret hB (I (-1)) (by kernel_rfl) (.inl (by refine congrArg I ?_; first | (rw [hfin]; done) | (rw [hfin]; omega))) rfl (fun _ => trivial)
theorem indexOfChannel_ok (cs : List Channel) (name : ByteArray) : Con Tryz.prog 33 [slChannel false cs, Sv name] true (I (idxC cs name)) := by
  refine fn_ok (fn := Tryz.f33) (nt := 8) Tryz.func33 rfl rfl rfl rfl (by simp [taggedL, tagged, tagChannel]) fun B hB => ?_
  refine aw_lens (x := slChannel false cs) 0 rfl (fun len_cs => ?_)
  simp [LenOK, LenL, cChannel, fChannel, slChannel] at len_cs
  refine aR [(0, .new 3)] [0, 3] [3] [slChannel false cs, .ref 3 0] [some (.box [Sv name])] [] hB trivial ?_
  refine aR [(2, .call [(true, .any), (false, .fn 83 [.ptr false [Sv name]])] true (I (firstN cs.length (fun j => decide ((at_ cs j).Name = name)))))] [4] [] [I (firstN cs.length (fun j => decide ((at_ cs j).Name = name)))] [] [Con Tryz.prog 82 [slChannel false cs, .fn 83 [.ptr false [Sv name]]] true (I (firstN cs.length (fun j => decide ((at_ cs j).Name = name)))) ∧ (83 = 83 ∧ ((false = true → true = true) ∧ AV.idsL [Sv name] = [] ∧ (valOf (Sv name) = valOf (Sv name)) ∧ ([] : List AV) = []) ∧ ([] : List AV) = []) ∧ True] hB ⟨⟨(idxChan_ok cs name), ⟨rfl, ⟨⟨(fun h => by cases h), rfl, ⟨rfl, rfl⟩⟩, rfl⟩⟩, trivial⟩, trivial⟩ ?_
  refine aw_ret ?_
  refine ae_ret hB (I (firstN cs.length (fun j => decide ((at_ cs j).Name = name)))) (by kernel_rfl) (.inl (by rfl)) rfl (fun _ => trivial)
theorem validRows_ok (r : Rows) (cs : List Channel) (hr : okRows cs r) : Con Tryz.prog 79 [.agg [slLI false r.Values], slChannel false cs] true (Bv true) := by
  have hrn := hr.1
  refine fn_ok (fn := Tryz.f79) (nt := 53) Tryz.func79 rfl rfl rfl rfl (by simp [taggedL, tagged, tagChannel, tagLI]) fun B hB => ?_
  refine aw_lens (x := .agg [slLI false r.Values]) 0 rfl (fun len_r => ?_)
  simp [LenOK, LenL, cI, cLI, fI, fLI, slI, slLI] at len_r
  refine aw_lens (x := slChannel false cs) 1 rfl (fun len_cs => ?_)
  simp [LenOK, LenL, cChannel, fChannel, slChannel] at len_cs
  refine aR [(0, .new 2)] [1, 2] [2] [slChannel false cs, .ref 2 0] [some (.box [slLI false r.Values])] [] hB trivial ?_
  refine aw_seq ?_
  refine aR [] [1, 2, 10, 11, 12] [2] [slChannel false cs, .ref 2 0, slLI false r.Values, I (r.Values.length : Int), I 0] [some (.box [slLI false r.Values])] [] hB trivial ?_
  refine aw_block ?_
  refine aw_loop (fun gn gσ => ∃ (t12 : Int), gn = ((r.Values.length : Int) - t12).toNat ∧ (0 ≤ t12 ∧ t12 ≤ (r.Values.length : Int)) ∧ gσ = mkS [(1, slChannel false cs), (2, .ref 2 0), (10, slLI false r.Values), (11, I (r.Values.length : Int)), (12, I t12)] [(2, .box [slLI false r.Values])]) (((r.Values.length : Int) - 0).toNat) ⟨0, rfl, (by omega), rfl⟩ (fun gn gσ hI => ?_)
  obtain ⟨t12, rfl, hi0, rfl⟩ := hI
  refine aw_seq ?_
  by_cases h1 : t12 < (r.Values.length : Int)
  ·have hi : t12.toNat < r.Values.length := by omega
   have hrw := hr.2 _ (at_mem hi)
   have hrl := hrw.1
   refine aw_r [(0, .dec true)] [1, 2, 10, 11, 12, 13] [2] [slChannel false cs, .ref 2 0, slLI false r.Values, I (r.Values.length : Int), I t12, Bv true] [some (.box [slLI false r.Values])] [t12 < (r.Values.length : Int)] hB ⟨h1, trivial⟩ ?_
   refine ae_then ?_
   refine aw_seq ?_
   refine aw_true rfl ?_
   refine aw_skip ?_
   refine ae_then ?_
   refine aw_seq ?_
   refine aw_block ?_
   refine aR [] [1, 2, 6, 10, 11, 12] [2] [slChannel false cs, .ref 2 0, slI false (at_ r.Values t12.toNat), slLI false r.Values, I (r.Values.length : Int), I t12] [some (.box [slLI false r.Values])] [(0 : Int) ≤ t12 ∧ t12 < (r.Values.length : Int)] hB ⟨⟨(by omega), (by omega)⟩, trivial⟩ ?_
   refine aw_seq ?_
   refine aR [(4, .dec false)] [1, 2, 6, 10, 11, 12, 20] [2] [slChannel false cs, .ref 2 0, slI false (at_ r.Values t12.toNat), slLI false r.Values, I (r.Values.length : Int), I t12, Bv false] [some (.box [slLI false r.Values])] [¬ ((((at_ r.Values t12.toNat).length) : Int) ≠ (cs.length : Int))] hB ⟨(fun hq => hq (by omega)), trivial⟩ ?_
   refine aw_false rfl ?_
   refine aw_skip ?_
   refine ae_then ?_
   refine aR [] [1, 2, 10, 11, 12, 21, 22, 23] [2] [slChannel false cs, .ref 2 0, slLI false r.Values, I (r.Values.length : Int), I t12, slI false (at_ r.Values t12.toNat), I (((at_ r.Values t12.toNat).length) : Int), I 0] [some (.box [slLI false r.Values])] [] hB trivial ?_
   refine aw_block ?_
   refine aw_loop (fun gn gσ => ∃ (t23 : Int), gn = (((at_ r.Values t12.toNat).length : Int) - t23).toNat ∧ (0 ≤ t23 ∧ t23 ≤ ((at_ r.Values t12.toNat).length : Int)) ∧ gσ = mkS [(1, slChannel false cs), (2, .ref 2 0), (10, slLI false r.Values), (11, I (r.Values.length : Int)), (12, I t12), (21, slI false (at_ r.Values t12.toNat)), (22, I (((at_ r.Values t12.toNat).length) : Int)), (23, I t23)] [(2, .box [slLI false r.Values])]) ((((at_ r.Values t12.toNat).length : Int) - 0).toNat) ⟨0, rfl, (by omega), rfl⟩ (fun gn gσ hI => ?_)
   obtain ⟨t23, rfl, hk0, rfl⟩ := hI
   refine aw_seq ?_
   by_cases h2 : t23 < (((at_ r.Values t12.toNat).length) : Int)
   ·have hk : t23.toNat < cs.length := by omega
    have hbd := hrw.2 _ hk
    refine aw_r [(0, .dec true)] [1, 2, 10, 11, 12, 21, 22, 23, 24] [2] [slChannel false cs, .ref 2 0, slLI false r.Values, I (r.Values.length : Int), I t12, slI false (at_ r.Values t12.toNat), I (((at_ r.Values t12.toNat).length) : Int), I t23, Bv true] [some (.box [slLI false r.Values])] [t23 < (((at_ r.Values t12.toNat).length) : Int)] hB ⟨h2, trivial⟩ ?_
    refine ae_then ?_
    refine aw_seq ?_
    refine aw_true rfl ?_
    refine aw_skip ?_
    refine ae_then ?_
    refine aw_seq ?_
    refine aw_block ?_
    refine aR [] [1, 2, 7, 8, 10, 11, 12, 21, 22, 23] [2] [slChannel false cs, .ref 2 0, I t23, I (at_ (at_ r.Values t12.toNat) t23.toNat), slLI false r.Values, I (r.Values.length : Int), I t12, slI false (at_ r.Values t12.toNat), I (((at_ r.Values t12.toNat).length) : Int), I t23] [some (.box [slLI false r.Values])] [(0 : Int) ≤ t23 ∧ t23 < (((at_ r.Values t12.toNat).length) : Int)] hB ⟨⟨(by omega), (by omega)⟩, trivial⟩ ?_
    refine aR [(11, .call [(true, .any), (true, .any), (true, .any)] true (Bv true))] [1, 2, 10, 11, 12, 21, 22, 23, 40] [2] [slChannel false cs, .ref 2 0, slLI false r.Values, I (r.Values.length : Int), I t12, slI false (at_ r.Values t12.toNat), I (((at_ r.Values t12.toNat).length) : Int), I t23, Bv false] [some (.box [slLI false r.Values])] [(0 : Int) ≤ t23 ∧ t23 < (cs.length : Int), (0 : Int) ≤ t23 ∧ t23 < (cs.length : Int), Con Tryz.prog 117 [I (at_ (at_ r.Values t12.toNat) t23.toNat), I ((at_ cs t23.toNat).Low), I ((at_ cs t23.toNat).High)] true (Bv true) ∧ True] hB ⟨⟨(by omega), (by omega)⟩, ⟨(by omega), (by omega)⟩, ⟨(con_bool (inB_iff.2 hbd) (within_ok (at_ (at_ r.Values t12.toNat) t23.toNat) ((at_ cs t23.toNat).Low) ((at_ cs t23.toNat).High))), trivial⟩, trivial⟩ ?_
    refine aw_false rfl ?_
    refine aw_skip ?_
    refine ae_block 3 ?_
    refine ae_then ?_
    refine aw_r [] [1, 2, 10, 11, 12, 21, 22, 23] [2] [slChannel false cs, .ref 2 0, slLI false r.Values, I (r.Values.length : Int), I t12, slI false (at_ r.Values t12.toNat), I (((at_ r.Values t12.toNat).length) : Int), I (t23 + 1)] [some (.box [slLI false r.Values])] [inR .i64 (t23 + 1)] hB ⟨(inR_i64 (by omega) (by omega)), trivial⟩ ?_
    exact ae_again _ (by omega) ⟨(t23 + 1), rfl, (by omega), rfl⟩
   refine aw_r [(0, .dec false)] [1, 2, 10, 11, 12, 21, 22, 23, 24] [2] [slChannel false cs, .ref 2 0, slLI false r.Values, I (r.Values.length : Int), I t12, slI false (at_ r.Values t12.toNat), I (((at_ r.Values t12.toNat).length) : Int), I t23, Bv false] [some (.box [slLI false r.Values])] [¬ (t23 < (((at_ r.Values t12.toNat).length) : Int))] hB ⟨h2, trivial⟩ ?_
   refine ae_then ?_
   refine aw_seq ?_
   refine aw_false rfl ?_
   refine aw_exit ?_
   refine ae_exit_then ?_
   refine ae_exit_then ?_
   refine ae_exit_same ?_
   refine ae_block 1 ?_
   refine ae_then ?_
   refine aw_r [] [1, 2, 10, 11, 12] [2] [slChannel false cs, .ref 2 0, slLI false r.Values, I (r.Values.length : Int), I (t12 + 1)] [some (.box [slLI false r.Values])] [inR .i64 (t12 + 1)] hB ⟨(inR_i64 (by omega) (by omega)), trivial⟩ ?_
   exact ae_again _ (by omega) ⟨(t12 + 1), rfl, (by omega), rfl⟩
  refine aw_r [(0, .dec false)] [1, 2, 10, 11, 12, 13] [2] [slChannel false cs, .ref 2 0, slLI false r.Values, I (r.Values.length : Int), I t12, Bv false] [some (.box [slLI false r.Values])] [¬ (t12 < (r.Values.length : Int))] hB ⟨h1, trivial⟩ ?_
  refine ae_then ?_
  refine aw_seq ?_
  refine aw_false rfl ?_
  refine aw_exit ?_
  refine ae_exit_then ?_
  refine ae_exit_then ?_
  refine ae_exit_same ?_
  refine ae_then ?_
  refine aR [(3, .dec true), (8, .dec true)] [4] [] [Bv true] [] [1 ≤ (r.Values.length : Int), (r.Values.length : Int) ≤ 60] hB ⟨(by omega), (by omega), trivial⟩ ?_
  refine aw_ret ?_
  refine ae_ret hB (Bv true) (by kernel_rfl) (.inl rfl) rfl (fun _ => trivial)
theorem noted_ok (f : File) (n : Note) (hn : 0 ≤ n.From ∧ n.From < n.To ∧ n.To ≤ (f.Strokes.length : Int)) : Con Tryz.prog 80 [agFile f, agNote n] true (Bv true) := by
  refine fn_ok (fn := Tryz.f80) (nt := 23) Tryz.func80 rfl rfl rfl rfl (by simp [taggedL, tagged, tagChannel, tagNote, tagRows]) fun B hB => ?_
  refine aw_lens (x := agFile f) 0 rfl (fun len_f => ?_)
  simp [LenOK, LenL, cChannel, cI, cLI, cNote, cRows, fChannel, fI, fLI, fNote, fRows, slChannel, slI, slLI, slNote, slRows] at len_f
  refine aR [(0, .new 2), (1, .new 3)] [2, 3] [2, 3] [.ref 2 0, .ref 3 0] [some (bxFile f), some (bxNote n)] [] hB trivial ?_
  refine aR [(2, .dec true), (8, .dec true), (16, .dec true)] [4] [] [Bv true] [] [0 ≤ n.From, n.From < n.To, n.To ≤ (f.Strokes.length : Int)] hB ⟨(by omega), (by omega), (by omega), trivial⟩ ?_
  refine aw_ret ?_
  refine ae_ret hB (Bv true) (by kernel_rfl) (.inl rfl) rfl (fun _ => trivial)
theorem ValidFile_ok (f : File) (hf : okFil f) : Con Tryz.prog 32 [agFile f] true (Bv true) := by
  have hf1 := hf.1
  refine fn_ok (fn := Tryz.f32) (nt := 83) Tryz.func32 rfl rfl rfl rfl (by simp [taggedL, tagged, tagChannel, tagNote, tagRows]) fun B hB => ?_
  refine aw_lens (x := agFile f) 0 rfl (fun len_f => ?_)
  simp [LenOK, LenL, cChannel, cI, cLI, cNote, cRows, fChannel, fI, fLI, fNote, fRows, slChannel, slI, slLI, slNote, slRows] at len_f
  refine aR [(0, .new 1)] [1] [1] [.ref 1 0] [some (bxFile f)] [] hB trivial ?_
  refine aw_seq ?_
  refine aR [(3, .dec false), (8, .dec false), (14, .dec false), (20, .dec false)] [1, 30] [1] [.ref 1 0, Bv false] [some (bxFile f)] [¬ ((f.Channels.length : Int) < 1), ¬ (6 < (f.Channels.length : Int)), ¬ (16 < (f.Strokes.length : Int)), ¬ (12 < (f.Notes.length : Int))] hB ⟨(by omega), (by omega), (by omega), (by omega), trivial⟩ ?_
  refine aw_false rfl ?_
  refine aw_skip ?_
  refine ae_then ?_
  refine aw_seq ?_
  refine aR [] [1, 32, 33, 34] [1] [.ref 1 0, slChannel false f.Channels, I (f.Channels.length : Int), I 0] [some (bxFile f)] [] hB trivial ?_
  refine aw_block ?_
  refine aw_loop (fun gn gσ => ∃ (t34 : Int), gn = ((f.Channels.length : Int) - t34).toNat ∧ (0 ≤ t34 ∧ t34 ≤ (f.Channels.length : Int)) ∧ gσ = mkS [(1, .ref 1 0), (32, slChannel false f.Channels), (33, I (f.Channels.length : Int)), (34, I t34)] [(1, bxFile f)]) (((f.Channels.length : Int) - 0).toNat) ⟨0, rfl, (by omega), rfl⟩ (fun gn gσ hI => ?_)
  obtain ⟨t34, rfl, hi0, rfl⟩ := hI
  refine aw_seq ?_
  by_cases h1 : t34 < (f.Channels.length : Int)
  ·have hi : t34.toNat < f.Channels.length := by omega
   have hch := hf.2.1 _ (at_mem hi)
   have hix := idxC_at hf.2.2.1 hi
   refine aw_r [(0, .dec true)] [1, 32, 33, 34, 35] [1] [.ref 1 0, slChannel false f.Channels, I (f.Channels.length : Int), I t34, Bv true] [some (bxFile f)] [t34 < (f.Channels.length : Int)] hB ⟨h1, trivial⟩ ?_
   refine ae_then ?_
   refine aw_seq ?_
   refine aw_true rfl ?_
   refine aw_skip ?_
   refine ae_then ?_
   refine aw_seq ?_
   refine aw_block ?_
   refine aR [(3, .new 4)] [1, 3, 4, 32, 33, 34] [1, 4] [.ref 1 0, I t34, .ref 4 0, slChannel false f.Channels, I (f.Channels.length : Int), I t34] [some (bxFile f), some (bxChannel (at_ f.Channels t34.toNat))] [(0 : Int) ≤ t34 ∧ t34 < (f.Channels.length : Int)] hB ⟨⟨(by omega), (by omega)⟩, trivial⟩ ?_
   refine aR [(1, .call [(true, .any)] true (Bv true)), (8, .call [(true, .any), (true, .any)] true (I (idxC f.Channels ((at_ f.Channels t34.toNat).Name)))), (10, .dec false)] [1, 32, 33, 34, 50] [1] [.ref 1 0, slChannel false f.Channels, I (f.Channels.length : Int), I t34, Bv false] [some (bxFile f)] [Con Tryz.prog 78 [agChannel (at_ f.Channels t34.toNat)] true (Bv true) ∧ True, Con Tryz.prog 33 [slChannel false f.Channels, Sv ((at_ f.Channels t34.toNat).Name)] true (I (idxC f.Channels ((at_ f.Channels t34.toNat).Name))) ∧ True, ¬ ((idxC f.Channels ((at_ f.Channels t34.toNat).Name)) ≠ t34)] hB ⟨⟨(validChannel_ok (at_ f.Channels t34.toNat) hch), trivial⟩, ⟨(indexOfChannel_ok f.Channels ((at_ f.Channels t34.toNat).Name)), trivial⟩, (fun hq => hq (by rw [hix]; omega)), trivial⟩ ?_
   refine aw_false rfl ?_
   refine aw_skip ?_
   refine ae_block 1 ?_
   refine ae_then ?_
   refine aw_r [] [1, 32, 33, 34] [1] [.ref 1 0, slChannel false f.Channels, I (f.Channels.length : Int), I (t34 + 1)] [some (bxFile f)] [inR .i64 (t34 + 1)] hB ⟨(inR_i64 (by omega) (by omega)), trivial⟩ ?_
   exact ae_again _ (by omega) ⟨(t34 + 1), rfl, (by omega), rfl⟩
  refine aw_r [(0, .dec false)] [1, 32, 33, 34, 35] [1] [.ref 1 0, slChannel false f.Channels, I (f.Channels.length : Int), I t34, Bv false] [some (bxFile f)] [¬ (t34 < (f.Channels.length : Int))] hB ⟨h1, trivial⟩ ?_
  refine ae_then ?_
  refine aw_seq ?_
  refine aw_false rfl ?_
  refine aw_exit ?_
  refine ae_exit_then ?_
  refine ae_exit_then ?_
  refine ae_exit_same ?_
  refine ae_then ?_
  refine aw_seq ?_
  refine aR [] [1, 53, 54, 55] [1] [.ref 1 0, slRows false f.Strokes, I (f.Strokes.length : Int), I 0] [some (bxFile f)] [] hB trivial ?_
  refine aw_block ?_
  refine aw_loop (fun gn gσ => ∃ (t55 : Int), gn = ((f.Strokes.length : Int) - t55).toNat ∧ (0 ≤ t55 ∧ t55 ≤ (f.Strokes.length : Int)) ∧ gσ = mkS [(1, .ref 1 0), (53, slRows false f.Strokes), (54, I (f.Strokes.length : Int)), (55, I t55)] [(1, bxFile f)]) (((f.Strokes.length : Int) - 0).toNat) ⟨0, rfl, (by omega), rfl⟩ (fun gn gσ hI => ?_)
  obtain ⟨t55, rfl, hi0, rfl⟩ := hI
  refine aw_seq ?_
  by_cases h2 : t55 < (f.Strokes.length : Int)
  ·have hi : t55.toNat < f.Strokes.length := by omega
   have hrs := hf.2.2.2.1 _ (at_mem hi)
   have hrn := hrs.1
   refine aw_r [(0, .dec true)] [1, 53, 54, 55, 56] [1] [.ref 1 0, slRows false f.Strokes, I (f.Strokes.length : Int), I t55, Bv true] [some (bxFile f)] [t55 < (f.Strokes.length : Int)] hB ⟨h2, trivial⟩ ?_
   refine ae_then ?_
   refine aw_seq ?_
   refine aw_true rfl ?_
   refine aw_skip ?_
   refine ae_then ?_
   refine aw_seq ?_
   refine aw_block ?_
   refine aR [(2, .new 6)] [1, 6, 53, 54, 55] [1, 6] [.ref 1 0, .ref 6 0, slRows false f.Strokes, I (f.Strokes.length : Int), I t55] [some (bxFile f), some (.box [slLI false ((at_ f.Strokes t55.toNat).Values)])] [(0 : Int) ≤ t55 ∧ t55 < (f.Strokes.length : Int)] hB ⟨⟨(by omega), (by omega)⟩, trivial⟩ ?_
   refine aR [(3, .call [(true, .any), (true, .any)] true (Bv true))] [1, 53, 54, 55, 63] [1] [.ref 1 0, slRows false f.Strokes, I (f.Strokes.length : Int), I t55, Bv false] [some (bxFile f)] [Con Tryz.prog 79 [.agg [slLI false ((at_ f.Strokes t55.toNat).Values)], slChannel false f.Channels] true (Bv true) ∧ True] hB ⟨⟨(validRows_ok (at_ f.Strokes t55.toNat) f.Channels hrs), trivial⟩, trivial⟩ ?_
   refine aw_false rfl ?_
   refine aw_skip ?_
   refine ae_block 3 ?_
   refine ae_then ?_
   refine aw_r [] [1, 53, 54, 55] [1] [.ref 1 0, slRows false f.Strokes, I (f.Strokes.length : Int), I (t55 + 1)] [some (bxFile f)] [inR .i64 (t55 + 1)] hB ⟨(inR_i64 (by omega) (by omega)), trivial⟩ ?_
   exact ae_again _ (by omega) ⟨(t55 + 1), rfl, (by omega), rfl⟩
  refine aw_r [(0, .dec false)] [1, 53, 54, 55, 56] [1] [.ref 1 0, slRows false f.Strokes, I (f.Strokes.length : Int), I t55, Bv false] [some (bxFile f)] [¬ (t55 < (f.Strokes.length : Int))] hB ⟨h2, trivial⟩ ?_
  refine ae_then ?_
  refine aw_seq ?_
  refine aw_false rfl ?_
  refine aw_exit ?_
  refine ae_exit_then ?_
  refine ae_exit_then ?_
  refine ae_exit_same ?_
  refine ae_then ?_
  refine aw_seq ?_
  refine aR [] [1, 66, 67, 68] [1] [.ref 1 0, slNote false f.Notes, I (f.Notes.length : Int), I 0] [some (bxFile f)] [] hB trivial ?_
  refine aw_block ?_
  refine aw_loop (fun gn gσ => ∃ (t68 : Int), gn = ((f.Notes.length : Int) - t68).toNat ∧ (0 ≤ t68 ∧ t68 ≤ (f.Notes.length : Int)) ∧ gσ = mkS [(1, .ref 1 0), (66, slNote false f.Notes), (67, I (f.Notes.length : Int)), (68, I t68)] [(1, bxFile f)]) (((f.Notes.length : Int) - 0).toNat) ⟨0, rfl, (by omega), rfl⟩ (fun gn gσ hI => ?_)
  obtain ⟨t68, rfl, hi0, rfl⟩ := hI
  refine aw_seq ?_
  by_cases h3 : t68 < (f.Notes.length : Int)
  ·have hi : t68.toNat < f.Notes.length := by omega
   have hnt := hf.2.2.2.2 _ (at_mem hi)
   have hnb := hnt.1
   refine aw_r [(0, .dec true)] [1, 66, 67, 68, 69] [1] [.ref 1 0, slNote false f.Notes, I (f.Notes.length : Int), I t68, Bv true] [some (bxFile f)] [t68 < (f.Notes.length : Int)] hB ⟨h3, trivial⟩ ?_
   refine ae_then ?_
   refine aw_seq ?_
   refine aw_true rfl ?_
   refine aw_skip ?_
   refine ae_then ?_
   refine aw_seq ?_
   refine aw_block ?_
   refine aR [(2, .new 8)] [1, 8, 66, 67, 68] [1, 8] [.ref 1 0, .ref 8 0, slNote false f.Notes, I (f.Notes.length : Int), I t68] [some (bxFile f), some (bxNote (at_ f.Notes t68.toNat))] [(0 : Int) ≤ t68 ∧ t68 < (f.Notes.length : Int)] hB ⟨⟨(by omega), (by omega)⟩, trivial⟩ ?_
   refine aR [(2, .call [(true, .any), (true, .any)] true (Bv true)), (7, .call [(true, .any)] true (Bv true))] [1, 66, 67, 68, 81] [1] [.ref 1 0, slNote false f.Notes, I (f.Notes.length : Int), I t68, Bv false] [some (bxFile f)] [Con Tryz.prog 80 [agFile f, agNote (at_ f.Notes t68.toNat)] true (Bv true) ∧ True, Con Tryz.prog 81 [Sv ((at_ f.Notes t68.toNat).Text)] true (Bv true) ∧ True] hB ⟨⟨(noted_ok f (at_ f.Notes t68.toNat) hnb), trivial⟩, ⟨(IsName_ok ((at_ f.Notes t68.toNat).Text) hnt.2), trivial⟩, trivial⟩ ?_
   refine aw_false rfl ?_
   refine aw_skip ?_
   refine ae_block 5 ?_
   refine ae_then ?_
   refine aw_r [] [1, 66, 67, 68] [1] [.ref 1 0, slNote false f.Notes, I (f.Notes.length : Int), I (t68 + 1)] [some (bxFile f)] [inR .i64 (t68 + 1)] hB ⟨(inR_i64 (by omega) (by omega)), trivial⟩ ?_
   exact ae_again _ (by omega) ⟨(t68 + 1), rfl, (by omega), rfl⟩
  refine aw_r [(0, .dec false)] [1, 66, 67, 68, 69] [1] [.ref 1 0, slNote false f.Notes, I (f.Notes.length : Int), I t68, Bv false] [some (bxFile f)] [¬ (t68 < (f.Notes.length : Int))] hB ⟨h3, trivial⟩ ?_
  refine ae_then ?_
  refine aw_seq ?_
  refine aw_false rfl ?_
  refine aw_exit ?_
  refine ae_exit_then ?_
  refine ae_exit_then ?_
  refine ae_exit_same ?_
  refine ae_then ?_
  refine aR [] [2] [] [Bv true] [] [] hB trivial ?_
  refine aw_ret ?_
  refine ae_ret hB (Bv true) (by kernel_rfl) (.inl rfl) rfl (fun _ => trivial)
theorem floorDiv_ok (n : Int) (d : Int) (hn : (-4611686018427387904 ≤ n ∧ n ≤ 4611686018427387904) ∧ 0 < d) : Con Tryz.prog 122 [I n, I d] true (I (n / d)) := by
  have hq := tdiv_bd n d
  have hs := down_spec n hn.2
  refine fn_ok (fn := Tryz.f122) (nt := 16) Tryz.func122 rfl rfl rfl rfl (by simp [taggedL, tagged]) fun B hB => ?_
  refine aR [] [0, 1] [] [I n, I d] [] [] hB trivial ?_
  refine aR [] [0, 1, 5] [] [I n, I d, I (Int.tdiv n d)] [] [(d : Int) ≠ 0 ∧ inR .i64 (Int.tdiv n d)] hB ⟨⟨by omega, (inR_i64 (by omega) (by omega))⟩, trivial⟩ ?_
  refine aw_seq ?_
  refine aw_seq ?_
  by_cases h1 : (Int.tmod n d) < 0
  ·refine aw_r [(3, .dec true)] [5, 12] [] [I (Int.tdiv n d), Bv true] [] [(d : Int) ≠ 0, (Int.tmod n d) < 0] hB ⟨(by omega), h1, trivial⟩ ?_
   refine ae_then ?_
   refine aw_true rfl ?_
   refine aw_r [] [5] [] [I ((Int.tdiv n d) - 1)] [] [inR .i64 ((Int.tdiv n d) - 1)] hB ⟨(inR_i64 (by omega) (by omega)), trivial⟩ ?_
   refine ae_then ?_
   refine aR [] [4] [] [I ((Int.tdiv n d) - 1)] [] [] hB trivial ?_
   refine aw_ret ?_
   refine ae_ret hB (I ((Int.tdiv n d) - 1)) (by kernel_rfl) (.inl (by refine congrArg I ?_; first | exact hs.1 (by assumption) | exact hs.2 (by assumption))) rfl (fun _ => trivial)
  refine aw_r [(3, .dec false)] [5, 12] [] [I (Int.tdiv n d), Bv false] [] [(d : Int) ≠ 0, ¬ ((Int.tmod n d) < 0)] hB ⟨(by omega), h1, trivial⟩ ?_
  refine ae_then ?_
  refine aw_false rfl ?_
  refine aw_skip ?_
  refine ae_then ?_
  refine aR [] [4] [] [I (Int.tdiv n d)] [] [] hB trivial ?_
  refine aw_ret ?_
  refine ae_ret hB (I (Int.tdiv n d)) (by kernel_rfl) (.inl (by refine congrArg I ?_; first | exact hs.1 (by assumption) | exact hs.2 (by assumption))) rfl (fun _ => trivial)
theorem nearestDiv_ok (n : Int) (d : Int) (hn : (-1000000000000000000 ≤ n ∧ n ≤ 1000000000000000000) ∧ 0 < d ∧ d ≤ 1000000000000000000) : Con Tryz.prog 84 [I n, I d] true (I (nearI n d)) := by
  have hs := near_spec n hn.2.1
  have hrb := rest_bd n hn.2.1
  have heb := ediv_bd n hn.2.1
  refine fn_ok (fn := Tryz.f84) (nt := 23) Tryz.func84 rfl rfl rfl rfl (by simp [taggedL, tagged]) fun B hB => ?_
  refine aR [] [0, 1] [] [I n, I d] [] [] hB trivial ?_
  refine aR [(2, .call [(true, .any), (true, .any)] true (I (n / d)))] [0, 1, 5] [] [I n, I d, I (n / d)] [] [Con Tryz.prog 122 [I n, I d] true (I (n / d)) ∧ True] hB ⟨⟨(floorDiv_ok n d (by omega)), trivial⟩, trivial⟩ ?_
  refine aw_seq ?_
  refine aR [] [1, 5, 6] [] [I d, I (n / d), I (n - ((n / d) * d))] [] [inR .i64 ((n / d) * d), inR .i64 (n - ((n / d) * d))] hB ⟨(inR_i64 (by omega) (by omega)), (inR_i64 (by omega) (by omega)), trivial⟩ ?_
  refine aw_seq ?_
  by_cases h1 : (d - (n - ((n / d) * d))) ≤ (n - ((n / d) * d))
  ·refine aw_r [(4, .dec true)] [5, 19] [] [I (n / d), Bv true] [] [inR .i64 (d - (n - ((n / d) * d))), (d - (n - ((n / d) * d))) ≤ (n - ((n / d) * d))] hB ⟨(inR_i64 (by omega) (by omega)), h1, trivial⟩ ?_
   refine ae_then ?_
   refine aw_true rfl ?_
   refine aw_r [] [5] [] [I ((n / d) + 1)] [] [inR .i64 ((n / d) + 1)] hB ⟨(inR_i64 (by omega) (by omega)), trivial⟩ ?_
   refine ae_then ?_
   refine aR [] [4] [] [I ((n / d) + 1)] [] [] hB trivial ?_
   refine aw_ret ?_
   refine ae_ret hB (I ((n / d) + 1)) (by kernel_rfl) (.inl (by refine congrArg I ?_; first | exact hs.1 (by assumption) | exact hs.2 (by assumption))) rfl (fun _ => trivial)
  refine aw_r [(4, .dec false)] [5, 19] [] [I (n / d), Bv false] [] [inR .i64 (d - (n - ((n / d) * d))), ¬ ((d - (n - ((n / d) * d))) ≤ (n - ((n / d) * d)))] hB ⟨(inR_i64 (by omega) (by omega)), h1, trivial⟩ ?_
  refine ae_then ?_
  refine aw_false rfl ?_
  refine aw_skip ?_
  refine ae_then ?_
  refine aR [] [4] [] [I (n / d)] [] [] hB trivial ?_
  refine aw_ret ?_
  refine ae_ret hB (I (n / d)) (by kernel_rfl) (.inl (by refine congrArg I ?_; first | exact hs.1 (by assumption) | exact hs.2 (by assumption))) rfl (fun _ => trivial)
theorem coordOf_ok (v : Int) (c : Channel) (hc : c.Low = 0 ∧ c.High = 4095) (hv : 0 ≤ v ∧ v ≤ 4095) : Con Tryz.prog 34 [I v, agChannel c] true (I v) := by
  refine fn_ok (fn := Tryz.f34) (nt := 16) Tryz.func34 rfl rfl rfl rfl (by simp [taggedL, tagged]) fun B hB => ?_
  refine aR [(0, .new 3)] [0, 3] [3] [I v, .ref 3 0] [some (bxChannel c)] [] hB trivial ?_
  refine aR [(10, .call [(true, .any), (true, .any)] true (I (nearI ((v - c.Low) * 4095) (c.High - c.Low))))] [4] [] [I (nearI ((v - c.Low) * 4095) (c.High - c.Low))] [] [inR .i64 (v - c.Low), inR .i64 ((v - c.Low) * 4095), inR .i64 (c.High - c.Low), Con Tryz.prog 84 [I ((v - c.Low) * 4095), I (c.High - c.Low)] true (I (nearI ((v - c.Low) * 4095) (c.High - c.Low))) ∧ True] hB ⟨(inR_i64 (by omega) (by omega)), (inR_i64 (by omega) (by omega)), (inR_i64 (by omega) (by omega)), ⟨(nearestDiv_ok ((v - c.Low) * 4095) (c.High - c.Low) (by omega)), trivial⟩, trivial⟩ ?_
  refine aw_ret ?_
  refine ae_ret hB (I (nearI ((v - c.Low) * 4095) (c.High - c.Low))) (by kernel_rfl) (.inl (by refine congrArg I ?_; rw [hc.1, hc.2]; unfold nearI; omega)) rfl (fun _ => trivial)
theorem ltStroke (ob : Nat → Option Ob) (fv fr : Bool) (x : Stroke) : leL ob fv (cStroke true x) (cStroke fr x) := And.intro (And.intro (fun _ => rfl) (And.intro rfl (And.intro rfl (fun i _ => .inl rfl)))) (rfl)
theorem oaddStroke {ob : Nat → Option Ob} {fr : Bool} (xs : List Stroke) (x : Stroke) {g : Nat → List AV} (h : leL ob true (g 0) (cStroke fr x)) : ∀ i, i < (xs ++ [x]).length → AV.idsL (fStroke fr (xs ++ [x]) i) = [] ∧ leL ob true (catF xs.length (fStroke true xs) g i) (fStroke fr (xs ++ [x]) i) := by
  intro i hi
  by_cases hl : i < xs.length
  · rw [catF_lt hl]
    have e : fStroke fr (xs ++ [x]) i = cStroke fr (at_ xs i) := by show cStroke fr (at_ _ _) = _; rw [at_left hl]
    rw [e]; exact ⟨rfl, ltStroke _ _ _ _⟩
  · have e : i = xs.length := by simp at hi; omega
    subst e
    rw [catF_ge (Nat.le_refl _), Nat.sub_self]
    have e : fStroke fr (xs ++ [x]) xs.length = cStroke fr x := by show cStroke fr (at_ _ _) = _; rw [at_right (Nat.le_refl _)]; simp [at_]
    rw [e]; exact ⟨rfl, h⟩
theorem InkOfFile_ok (f : File) (ok : ∃ ik, okInk' ik = true ∧ f = filI ik) : ∃ (v : Ink) (c : Int), (∀ ik, okInk' ik = true → f = filI ik → v = ik) ∧ (c = 0) ∧ Con Tryz.prog 8 [agFile f] true (.tup [.agg [slStroke true v.Strokes], I c]) := by
  obtain ⟨ik, oki, hfi⟩ := ok
  have huq : ∀ ik2, okInk' ik2 = true → f = filI ik2 → ik = ik2 := fun ik2 _ h2 => filI_inj (hfi.symm.trans h2)
  have hfo : okFil f := by rw [hfi]; exact filI_ok oki
  have hil := okI_len oki
  have hst : f.Strokes = ik.Strokes.map rwS := by rw [hfi]; rfl
  have hch : f.Channels = chX := by rw [hfi]; rfl
  have hcl : f.Channels.length = 3 := by rw [hch]; rfl
  have hsl : f.Strokes.length = ik.Strokes.length := by rw [hst]; simp
  have hI0 : idxC f.Channels ⟨#[120]⟩ = 0 := by rw [hch]; decide
  have hI1 : idxC f.Channels ⟨#[121]⟩ = 1 := by rw [hch]; decide
  have hI2 : idxC f.Channels ⟨#[116]⟩ = 2 := by rw [hch]; decide
  have hh : ∃ r : Ink × Int, ((∀ ik, okInk' ik = true → f = filI ik → r.1 = ik) ∧ (r.2 = 0) ∧ (True)) ∧ CallOK Tryz.prog 8 [agFile f] (lookO []) true (.tup [.agg [slStroke true r.1.Strokes], I r.2]) (lookO []) := by
    refine fn_okX (Φ := fun r : Ink × Int => (∀ ik, okInk' ik = true → f = filI ik → r.1 = ik) ∧ (r.2 = 0) ∧ (True)) [] (fun r => []) (fn := Tryz.f8) (nt := 110) Tryz.func8 rfl rfl (args := [agFile f]) rfl (allcons (.inl ⟨rfl, by simp [tagged, taggedL, tagChannel, tagNote, tagRows]⟩) allnil) (res := fun r => .tup [.agg [slStroke true r.1.Strokes], I r.2]) ?_
    refine xR [(0, .new 1), (1, .new 2)] [1, 2] [1, 2] [.ref 1 0, .ref 2 0] [some (bxFile f), some (.box [nilA])] [] trivial ?_
    refine x_seq ?_
    refine xR [(1, .call [(true, .any)] true (Bv true))] [1, 2, 16] [1, 2] [.ref 1 0, .ref 2 0, Bv false] [some (bxFile f), some (.box [nilA])] [Con Tryz.prog 32 [agFile f] true (Bv true) ∧ True] ⟨⟨(ValidFile_ok f hfo), trivial⟩, trivial⟩ ?_
    refine x_false rfl ?_
    refine x_skip ?_
    refine xe_then ?_
    refine xR [(2, .call [(true, .any), (true, .any)] true (I (idxC f.Channels (⟨#[120]⟩ : ByteArray)))), (5, .call [(true, .any), (true, .any)] true (I (idxC f.Channels (⟨#[121]⟩ : ByteArray)))), (8, .call [(true, .any), (true, .any)] true (I (idxC f.Channels (⟨#[116]⟩ : ByteArray))))] [1, 2, 4, 5, 6] [1, 2] [.ref 1 0, .ref 2 0, I (idxC f.Channels (⟨#[120]⟩ : ByteArray)), I (idxC f.Channels (⟨#[121]⟩ : ByteArray)), I (idxC f.Channels (⟨#[116]⟩ : ByteArray))] [some (bxFile f), some (.box [nilA])] [Con Tryz.prog 33 [slChannel false f.Channels, Sv (⟨#[120]⟩ : ByteArray)] true (I (idxC f.Channels (⟨#[120]⟩ : ByteArray))) ∧ True, Con Tryz.prog 33 [slChannel false f.Channels, Sv (⟨#[121]⟩ : ByteArray)] true (I (idxC f.Channels (⟨#[121]⟩ : ByteArray))) ∧ True, Con Tryz.prog 33 [slChannel false f.Channels, Sv (⟨#[116]⟩ : ByteArray)] true (I (idxC f.Channels (⟨#[116]⟩ : ByteArray))) ∧ True] ⟨⟨(indexOfChannel_ok f.Channels (⟨#[120]⟩ : ByteArray)), trivial⟩, ⟨(indexOfChannel_ok f.Channels (⟨#[121]⟩ : ByteArray)), trivial⟩, ⟨(indexOfChannel_ok f.Channels (⟨#[116]⟩ : ByteArray)), trivial⟩, trivial⟩ ?_
    refine x_seq ?_
    refine xR [(1, .dec false), (4, .dec false), (8, .dec false)] [1, 2, 4, 5, 6, 36] [1, 2] [.ref 1 0, .ref 2 0, I (idxC f.Channels (⟨#[120]⟩ : ByteArray)), I (idxC f.Channels (⟨#[121]⟩ : ByteArray)), I (idxC f.Channels (⟨#[116]⟩ : ByteArray)), Bv false] [some (bxFile f), some (.box [nilA])] [¬ ((idxC f.Channels (⟨#[120]⟩ : ByteArray)) < 0), ¬ ((idxC f.Channels (⟨#[121]⟩ : ByteArray)) < 0), ¬ ((idxC f.Channels (⟨#[116]⟩ : ByteArray)) < 0)] ⟨(by omega), (by omega), (by omega), trivial⟩ ?_
    refine x_false rfl ?_
    refine x_skip ?_
    refine xe_then ?_
    refine xR [] [1, 2, 4, 5, 6, 7] [1, 2] [.ref 1 0, .ref 2 0, I (idxC f.Channels (⟨#[120]⟩ : ByteArray)), I (idxC f.Channels (⟨#[121]⟩ : ByteArray)), I (idxC f.Channels (⟨#[116]⟩ : ByteArray)), I 1] [some (bxFile f), some (.box [nilA])] [] trivial ?_
    refine x_seq ?_
    refine xR [] [1, 2, 4, 5, 6, 7, 43] [1, 2] [.ref 1 0, .ref 2 0, I (idxC f.Channels (⟨#[120]⟩ : ByteArray)), I (idxC f.Channels (⟨#[121]⟩ : ByteArray)), I (idxC f.Channels (⟨#[116]⟩ : ByteArray)), I 1, Sv ((at_ f.Channels ((idxC f.Channels (⟨#[116]⟩ : ByteArray)).toNat)).Unit)] [some (bxFile f), some (.box [nilA])] [(0 : Int) ≤ (idxC f.Channels (⟨#[116]⟩ : ByteArray)) ∧ (idxC f.Channels (⟨#[116]⟩ : ByteArray)) < (f.Channels.length : Int)] ⟨⟨(by omega), (by omega)⟩, trivial⟩ ?_
    refine x_block ?_
    refine xR [(0, .dec true)] [1, 2, 4, 5, 6, 7, 43, 45] [1, 2] [.ref 1 0, .ref 2 0, I (idxC f.Channels (⟨#[120]⟩ : ByteArray)), I (idxC f.Channels (⟨#[121]⟩ : ByteArray)), I (idxC f.Channels (⟨#[116]⟩ : ByteArray)), I 1, Sv ((at_ f.Channels ((idxC f.Channels (⟨#[116]⟩ : ByteArray)).toNat)).Unit), Bv true] [some (bxFile f), some (.box [nilA])] [((at_ f.Channels ((idxC f.Channels (⟨#[116]⟩ : ByteArray)).toNat)).Unit) = (⟨#[109, 115]⟩ : ByteArray)] ⟨(by rw [hI2, hch]; rfl), trivial⟩ ?_
    refine x_true rfl ?_
    refine x_skip ?_
    refine xe_block 0 ?_
    refine xe_then ?_
    refine xR [(0, .new 8)] [1, 2, 4, 5, 6, 7, 8] [1, 2, 8] [.ref 1 0, .ref 2 0, I (idxC f.Channels (⟨#[120]⟩ : ByteArray)), I (idxC f.Channels (⟨#[121]⟩ : ByteArray)), I (idxC f.Channels (⟨#[116]⟩ : ByteArray)), I 1, .ref 8 0] [some (bxFile f), some (.box [nilA]), some (.box [nilA])] [] trivial ?_
    refine x_seq ?_
    refine xR [] [1, 2, 4, 5, 6, 7, 8, 52, 53, 54] [1, 2, 8] [.ref 1 0, .ref 2 0, I (idxC f.Channels (⟨#[120]⟩ : ByteArray)), I (idxC f.Channels (⟨#[121]⟩ : ByteArray)), I (idxC f.Channels (⟨#[116]⟩ : ByteArray)), I 1, .ref 8 0, slRows false f.Strokes, I (f.Strokes.length : Int), I 0] [some (bxFile f), some (.box [nilA]), some (.box [nilA])] [] trivial ?_
    refine x_block ?_
    refine x_nilC 8 0 780 1 (fun _ => []) rfl (by kernel_rfl) ?_
    refine x_weak [] (T := [(1, .ref 1 0), (2, .ref 2 0), (4, I (idxC f.Channels (⟨#[120]⟩ : ByteArray))), (5, I (idxC f.Channels (⟨#[121]⟩ : ByteArray))), (6, I (idxC f.Channels (⟨#[116]⟩ : ByteArray))), (7, I 1), (8, .ref 8 0), (52, slRows false f.Strokes), (53, I (f.Strokes.length : Int)), (54, I 0)]) (O := [(1, bxFile f), (2, .box [nilA]), (8, .box [.arr 780]), (780, tAStroke true ([] : List Stroke))]) rfl (⟨.inl rfl, .inl rfl, .inl rfl, .inl rfl, .inl rfl, .inl rfl, .inl rfl, .inl rfl, .inl rfl, .inl rfl, trivial⟩) (⟨.inl rfl, .inl rfl, .inl rfl, .inr ⟨rfl, (by first | rfl | (simp; done) | (simp; omega) | omega), fun i_ hi_ => absurd hi_ (Nat.not_lt_zero _)⟩, trivial⟩) ?_
    refine x_loop (X := Int × (List Stroke)) (fun x => mkS [(1, .ref 1 0), (2, .ref 2 0), (4, I (idxC f.Channels (⟨#[120]⟩ : ByteArray))), (5, I (idxC f.Channels (⟨#[121]⟩ : ByteArray))), (6, I (idxC f.Channels (⟨#[116]⟩ : ByteArray))), (7, I 1), (8, .ref 8 0), (52, slRows false f.Strokes), (53, I (f.Strokes.length : Int)), (54, I x.1)] [(1, bxFile f), (2, .box [nilA]), (8, .box [.arr 780]), (780, tAStroke true x.2)]) (fun x => (0 ≤ x.1 ∧ x.1 ≤ (ik.Strokes.length : Int)) ∧ ((x.2.length : Int) = x.1) ∧ (x.2 = ik.Strokes.take x.1.toNat) ∧ True) (fun x => ((ik.Strokes.length : Int) - x.1).toNat) (0, ([] : List Stroke)) rfl (show (0 ≤ (0 : Int) ∧ (0 : Int) ≤ (ik.Strokes.length : Int)) ∧ ((([] : List Stroke).length : Int) = (0 : Int)) ∧ (([] : List Stroke) = ik.Strokes.take (0 : Int).toNat) ∧ True from ⟨(by omega), (by rfl), (by rfl), trivial⟩) (fun x hI => ?_)
    obtain ⟨t54, ss⟩ := x
    obtain ⟨hi0, hssl, hss, _⟩ : (0 ≤ t54 ∧ t54 ≤ (ik.Strokes.length : Int)) ∧ ((ss.length : Int) = t54) ∧ (ss = ik.Strokes.take t54.toNat) ∧ True := hI
    show XW _ _ _ _ (mkS [(1, .ref 1 0), (2, .ref 2 0), (4, I (idxC f.Channels (⟨#[120]⟩ : ByteArray))), (5, I (idxC f.Channels (⟨#[121]⟩ : ByteArray))), (6, I (idxC f.Channels (⟨#[116]⟩ : ByteArray))), (7, I 1), (8, .ref 8 0), (52, slRows false f.Strokes), (53, I (f.Strokes.length : Int)), (54, I t54)] [(1, bxFile f), (2, .box [nilA]), (8, .box [.arr 780]), (780, tAStroke true ss)]) _ _
    refine x_seq ?_
    by_cases h1 : t54 < (f.Strokes.length : Int)
    ·have hi : t54.toNat < ik.Strokes.length := by omega
     have hos := okI_all oki _ hi
     have hol := okS_len hos
     have hks : (t54 + 1).toNat = t54.toNat + 1 := by omega
     have hfs : at_ f.Strokes t54.toNat = rwS (at_ ik.Strokes t54.toNat) := by rw [hst, at_mp hi]
     have hvl : (at_ f.Strokes t54.toNat).Values.length = (at_ ik.Strokes t54.toNat).Points.length := by rw [hfs]; simp [rwS]
     refine x_r [(0, .dec true)] [1, 2, 4, 5, 6, 7, 8, 52, 53, 54, 55] [1, 2, 8, 780] [.ref 1 0, .ref 2 0, I (idxC f.Channels (⟨#[120]⟩ : ByteArray)), I (idxC f.Channels (⟨#[121]⟩ : ByteArray)), I (idxC f.Channels (⟨#[116]⟩ : ByteArray)), I 1, .ref 8 0, slRows false f.Strokes, I (f.Strokes.length : Int), I t54, Bv true] [some (bxFile f), some (.box [nilA]), some (.box [.arr 780]), some (tAStroke true ss)] [t54 < (f.Strokes.length : Int)] ⟨h1, trivial⟩ ?_
     refine xe_then ?_
     refine x_seq ?_
     refine x_true rfl ?_
     refine x_skip ?_
     refine xe_then ?_
     refine x_seq ?_
     refine x_block ?_
     refine xR [(2, .new 10)] [1, 2, 4, 5, 6, 7, 8, 10, 52, 53, 54] [1, 2, 8, 10, 780] [.ref 1 0, .ref 2 0, I (idxC f.Channels (⟨#[120]⟩ : ByteArray)), I (idxC f.Channels (⟨#[121]⟩ : ByteArray)), I (idxC f.Channels (⟨#[116]⟩ : ByteArray)), I 1, .ref 8 0, .ref 10 0, slRows false f.Strokes, I (f.Strokes.length : Int), I t54] [some (bxFile f), some (.box [nilA]), some (.box [.arr 780]), some (.box [slLI false ((at_ f.Strokes t54.toNat).Values)]), some (tAStroke true ss)] [(0 : Int) ≤ t54 ∧ t54 < (f.Strokes.length : Int)] ⟨⟨(by omega), (by omega)⟩, trivial⟩ ?_
     refine xR [(0, .new 11)] [1, 2, 4, 5, 6, 7, 8, 10, 11, 52, 53, 54] [1, 2, 8, 10, 11, 780] [.ref 1 0, .ref 2 0, I (idxC f.Channels (⟨#[120]⟩ : ByteArray)), I (idxC f.Channels (⟨#[121]⟩ : ByteArray)), I (idxC f.Channels (⟨#[116]⟩ : ByteArray)), I 1, .ref 8 0, .ref 10 0, .ref 11 0, slRows false f.Strokes, I (f.Strokes.length : Int), I t54] [some (bxFile f), some (.box [nilA]), some (.box [.arr 780]), some (.box [slLI false ((at_ f.Strokes t54.toNat).Values)]), some (.box [nilA]), some (tAStroke true ss)] [] trivial ?_
     refine x_seq ?_
     refine xR [] [1, 2, 4, 5, 6, 7, 8, 11, 52, 53, 54, 59, 60, 61] [1, 2, 8, 11, 780] [.ref 1 0, .ref 2 0, I (idxC f.Channels (⟨#[120]⟩ : ByteArray)), I (idxC f.Channels (⟨#[121]⟩ : ByteArray)), I (idxC f.Channels (⟨#[116]⟩ : ByteArray)), I 1, .ref 8 0, .ref 11 0, slRows false f.Strokes, I (f.Strokes.length : Int), I t54, slLI false ((at_ f.Strokes t54.toNat).Values), I ((((at_ f.Strokes t54.toNat).Values).length) : Int), I 0] [some (bxFile f), some (.box [nilA]), some (.box [.arr 780]), some (.box [nilA]), some (tAStroke true ss)] [] trivial ?_
     refine x_block ?_
     refine x_nilC 11 0 810 3 (fun _ => []) rfl (by kernel_rfl) ?_
     refine x_weak [] (T := [(1, .ref 1 0), (2, .ref 2 0), (4, I (idxC f.Channels (⟨#[120]⟩ : ByteArray))), (5, I (idxC f.Channels (⟨#[121]⟩ : ByteArray))), (6, I (idxC f.Channels (⟨#[116]⟩ : ByteArray))), (7, I 1), (8, .ref 8 0), (11, .ref 11 0), (52, slRows false f.Strokes), (53, I (f.Strokes.length : Int)), (54, I t54), (59, slLI false ((at_ f.Strokes t54.toNat).Values)), (60, I ((((at_ f.Strokes t54.toNat).Values).length) : Int)), (61, I 0)]) (O := [(1, bxFile f), (2, .box [nilA]), (8, .box [.arr 780]), (11, .box [.arr 810]), (780, tAStroke true ss), (810, tAPoint ([] : List Point))]) rfl (⟨.inl rfl, .inl rfl, .inl rfl, .inl rfl, .inl rfl, .inl rfl, .inl rfl, .inl rfl, .inl rfl, .inl rfl, .inl rfl, .inl rfl, .inl rfl, .inl rfl, trivial⟩) (⟨.inl rfl, .inl rfl, .inl rfl, .inl rfl, .inl rfl, .inr ⟨rfl, (by first | rfl | (simp; done) | (simp; omega) | omega), fun i_ hi_ => absurd hi_ (Nat.not_lt_zero _)⟩, trivial⟩) ?_
     refine x_loop (X := Int × (List Point)) (fun x => mkS [(1, .ref 1 0), (2, .ref 2 0), (4, I (idxC f.Channels (⟨#[120]⟩ : ByteArray))), (5, I (idxC f.Channels (⟨#[121]⟩ : ByteArray))), (6, I (idxC f.Channels (⟨#[116]⟩ : ByteArray))), (7, I 1), (8, .ref 8 0), (11, .ref 11 0), (52, slRows false f.Strokes), (53, I (f.Strokes.length : Int)), (54, I t54), (59, slLI false ((at_ f.Strokes t54.toNat).Values)), (60, I ((((at_ f.Strokes t54.toNat).Values).length) : Int)), (61, I x.1)] [(1, bxFile f), (2, .box [nilA]), (8, .box [.arr 780]), (11, .box [.arr 810]), (780, tAStroke true ss), (810, tAPoint x.2)]) (fun x => (0 ≤ x.1 ∧ x.1 ≤ ((at_ ik.Strokes t54.toNat).Points.length : Int)) ∧ ((x.2.length : Int) = x.1) ∧ (x.2 = (at_ ik.Strokes t54.toNat).Points.take x.1.toNat) ∧ True) (fun x => (((at_ ik.Strokes t54.toNat).Points.length : Int) - x.1).toNat) (0, ([] : List Point)) rfl (show (0 ≤ (0 : Int) ∧ (0 : Int) ≤ ((at_ ik.Strokes t54.toNat).Points.length : Int)) ∧ ((([] : List Point).length : Int) = (0 : Int)) ∧ (([] : List Point) = (at_ ik.Strokes t54.toNat).Points.take (0 : Int).toNat) ∧ True from ⟨(by omega), (by rfl), (by rfl), trivial⟩) (fun x hI => ?_)
     obtain ⟨t61, ps⟩ := x
     obtain ⟨hk0, hpl, hps, _⟩ : (0 ≤ t61 ∧ t61 ≤ ((at_ ik.Strokes t54.toNat).Points.length : Int)) ∧ ((ps.length : Int) = t61) ∧ (ps = (at_ ik.Strokes t54.toNat).Points.take t61.toNat) ∧ True := hI
     show XW _ _ _ _ (mkS [(1, .ref 1 0), (2, .ref 2 0), (4, I (idxC f.Channels (⟨#[120]⟩ : ByteArray))), (5, I (idxC f.Channels (⟨#[121]⟩ : ByteArray))), (6, I (idxC f.Channels (⟨#[116]⟩ : ByteArray))), (7, I 1), (8, .ref 8 0), (11, .ref 11 0), (52, slRows false f.Strokes), (53, I (f.Strokes.length : Int)), (54, I t54), (59, slLI false ((at_ f.Strokes t54.toNat).Values)), (60, I ((((at_ f.Strokes t54.toNat).Values).length) : Int)), (61, I t61)] [(1, bxFile f), (2, .box [nilA]), (8, .box [.arr 780]), (11, .box [.arr 810]), (780, tAStroke true ss), (810, tAPoint ps)]) _ _
     refine x_seq ?_
     by_cases h2 : t61 < ((((at_ f.Strokes t54.toNat).Values).length) : Int)
     ·have hk : t61.toNat < (at_ ik.Strokes t54.toNat).Points.length := by omega
      have hkk : (t61 + 1).toNat = t61.toNat + 1 := by omega
      have hrow : (at_ (at_ f.Strokes t54.toNat).Values t61.toNat) = rwP (at_ (at_ ik.Strokes t54.toNat).Points t61.toNat) := by rw [hfs]; show at_ ((at_ ik.Strokes t54.toNat).Points.map rwP) _ = _; rw [at_mp hk]
      have hrl : (at_ (at_ f.Strokes t54.toNat).Values t61.toNat).length = 3 := by rw [hrow]; rfl
      have hx0 : at_ (at_ (at_ f.Strokes t54.toNat).Values t61.toNat) (idxC f.Channels ⟨#[120]⟩).toNat = (at_ (at_ ik.Strokes t54.toNat).Points t61.toNat).X := by rw [hI0, hrow]; rfl
      have hx1 : at_ (at_ (at_ f.Strokes t54.toNat).Values t61.toNat) (idxC f.Channels ⟨#[121]⟩).toNat = (at_ (at_ ik.Strokes t54.toNat).Points t61.toNat).Y := by rw [hI1, hrow]; rfl
      have hx2 : at_ (at_ (at_ f.Strokes t54.toNat).Values t61.toNat) (idxC f.Channels ⟨#[116]⟩).toNat = (at_ (at_ ik.Strokes t54.toNat).Points t61.toNat).T := by rw [hI2, hrow]; rfl
      have hpb := okP_iff.1 (okS_at hos hk)
      refine x_r [(0, .dec true)] [1, 2, 4, 5, 6, 7, 8, 11, 52, 53, 54, 59, 60, 61, 62] [1, 2, 8, 11, 780, 810] [.ref 1 0, .ref 2 0, I (idxC f.Channels (⟨#[120]⟩ : ByteArray)), I (idxC f.Channels (⟨#[121]⟩ : ByteArray)), I (idxC f.Channels (⟨#[116]⟩ : ByteArray)), I 1, .ref 8 0, .ref 11 0, slRows false f.Strokes, I (f.Strokes.length : Int), I t54, slLI false ((at_ f.Strokes t54.toNat).Values), I ((((at_ f.Strokes t54.toNat).Values).length) : Int), I t61, Bv true] [some (bxFile f), some (.box [nilA]), some (.box [.arr 780]), some (.box [.arr 810]), some (tAStroke true ss), some (tAPoint ps)] [t61 < ((((at_ f.Strokes t54.toNat).Values).length) : Int)] ⟨h2, trivial⟩ ?_
      refine xe_then ?_
      refine x_seq ?_
      refine x_true rfl ?_
      refine x_skip ?_
      refine xe_then ?_
      refine x_seq ?_
      refine x_block ?_
      refine xR [] [1, 2, 4, 5, 6, 7, 8, 11, 13, 52, 53, 54, 59, 60, 61] [1, 2, 8, 11, 780, 810] [.ref 1 0, .ref 2 0, I (idxC f.Channels (⟨#[120]⟩ : ByteArray)), I (idxC f.Channels (⟨#[121]⟩ : ByteArray)), I (idxC f.Channels (⟨#[116]⟩ : ByteArray)), I 1, .ref 8 0, .ref 11 0, slI false (at_ ((at_ f.Strokes t54.toNat).Values) t61.toNat), slRows false f.Strokes, I (f.Strokes.length : Int), I t54, slLI false ((at_ f.Strokes t54.toNat).Values), I ((((at_ f.Strokes t54.toNat).Values).length) : Int), I t61] [some (bxFile f), some (.box [nilA]), some (.box [.arr 780]), some (.box [.arr 810]), some (tAStroke true ss), some (tAPoint ps)] [(0 : Int) ≤ t61 ∧ t61 < ((((at_ f.Strokes t54.toNat).Values).length) : Int)] ⟨⟨(by omega), (by omega)⟩, trivial⟩ ?_
      refine x_r [(11, .call [(true, .any), (true, .any)] true (I (at_ (at_ ((at_ f.Strokes t54.toNat).Values) t61.toNat) ((idxC f.Channels (⟨#[120]⟩ : ByteArray)).toNat)))), (21, .call [(true, .any), (true, .any)] true (I (at_ (at_ ((at_ f.Strokes t54.toNat).Values) t61.toNat) ((idxC f.Channels (⟨#[121]⟩ : ByteArray)).toNat)))), (29, .new 94), (30, .new 95)] [1, 2, 4, 5, 6, 7, 8, 11, 52, 53, 54, 59, 60, 61] [1, 2, 8, 11, 95, 780] [.ref 1 0, .ref 2 0, I (idxC f.Channels (⟨#[120]⟩ : ByteArray)), I (idxC f.Channels (⟨#[121]⟩ : ByteArray)), I (idxC f.Channels (⟨#[116]⟩ : ByteArray)), I 1, .ref 8 0, .ref 11 0, slRows false f.Strokes, I (f.Strokes.length : Int), I t54, slLI false ((at_ f.Strokes t54.toNat).Values), I ((((at_ f.Strokes t54.toNat).Values).length) : Int), I t61] [some (bxFile f), some (.box [nilA]), some (.box [.arr 780]), some (.box [.arr 95]), some (.arr 3 (ps.length + 1) (catF ps.length (fPoint ps) (litF [I (at_ (at_ ((at_ f.Strokes t54.toNat).Values) t61.toNat) ((idxC f.Channels (⟨#[120]⟩ : ByteArray)).toNat)), I (at_ (at_ ((at_ f.Strokes t54.toNat).Values) t61.toNat) ((idxC f.Channels (⟨#[121]⟩ : ByteArray)).toNat)), I ((at_ (at_ ((at_ f.Strokes t54.toNat).Values) t61.toNat) ((idxC f.Channels (⟨#[116]⟩ : ByteArray)).toNat)) * 1)] 3))), some (tAStroke true ss)] [(0 : Int) ≤ (idxC f.Channels (⟨#[120]⟩ : ByteArray)) ∧ (idxC f.Channels (⟨#[120]⟩ : ByteArray)) < (((at_ ((at_ f.Strokes t54.toNat).Values) t61.toNat).length) : Int), (0 : Int) ≤ (idxC f.Channels (⟨#[120]⟩ : ByteArray)) ∧ (idxC f.Channels (⟨#[120]⟩ : ByteArray)) < (f.Channels.length : Int), Con Tryz.prog 34 [I (at_ (at_ ((at_ f.Strokes t54.toNat).Values) t61.toNat) ((idxC f.Channels (⟨#[120]⟩ : ByteArray)).toNat)), agChannel (at_ f.Channels ((idxC f.Channels (⟨#[120]⟩ : ByteArray)).toNat))] true (I (at_ (at_ ((at_ f.Strokes t54.toNat).Values) t61.toNat) ((idxC f.Channels (⟨#[120]⟩ : ByteArray)).toNat))) ∧ True, (0 : Int) ≤ (idxC f.Channels (⟨#[121]⟩ : ByteArray)) ∧ (idxC f.Channels (⟨#[121]⟩ : ByteArray)) < (((at_ ((at_ f.Strokes t54.toNat).Values) t61.toNat).length) : Int), (0 : Int) ≤ (idxC f.Channels (⟨#[121]⟩ : ByteArray)) ∧ (idxC f.Channels (⟨#[121]⟩ : ByteArray)) < (f.Channels.length : Int), Con Tryz.prog 34 [I (at_ (at_ ((at_ f.Strokes t54.toNat).Values) t61.toNat) ((idxC f.Channels (⟨#[121]⟩ : ByteArray)).toNat)), agChannel (at_ f.Channels ((idxC f.Channels (⟨#[121]⟩ : ByteArray)).toNat))] true (I (at_ (at_ ((at_ f.Strokes t54.toNat).Values) t61.toNat) ((idxC f.Channels (⟨#[121]⟩ : ByteArray)).toNat))) ∧ True, (0 : Int) ≤ (idxC f.Channels (⟨#[116]⟩ : ByteArray)) ∧ (idxC f.Channels (⟨#[116]⟩ : ByteArray)) < (((at_ ((at_ f.Strokes t54.toNat).Values) t61.toNat).length) : Int), inR .i64 ((at_ (at_ ((at_ f.Strokes t54.toNat).Values) t61.toNat) ((idxC f.Channels (⟨#[116]⟩ : ByteArray)).toNat)) * 1), (ps.length + 1) * 24 ≤ 140737488355328] ⟨⟨(by omega), (by omega)⟩, ⟨(by omega), (by omega)⟩, ⟨(coordOf_ok (at_ (at_ ((at_ f.Strokes t54.toNat).Values) t61.toNat) ((idxC f.Channels (⟨#[120]⟩ : ByteArray)).toNat)) (at_ f.Channels ((idxC f.Channels (⟨#[120]⟩ : ByteArray)).toNat)) (by rw [hI0, hch]; exact ⟨rfl, rfl⟩) (by rw [hx0]; omega)), trivial⟩, ⟨(by omega), (by omega)⟩, ⟨(by omega), (by omega)⟩, ⟨(coordOf_ok (at_ (at_ ((at_ f.Strokes t54.toNat).Values) t61.toNat) ((idxC f.Channels (⟨#[121]⟩ : ByteArray)).toNat)) (at_ f.Channels ((idxC f.Channels (⟨#[121]⟩ : ByteArray)).toNat)) (by rw [hI1, hch]; exact ⟨rfl, rfl⟩) (by rw [hx1]; omega)), trivial⟩, ⟨(by omega), (by omega)⟩, (inR_i64 (by omega) (by omega)), (by omega), trivial⟩ ?_
      refine xe_block 4 ?_
      refine xe_then ?_
      refine x_r [] [1, 2, 4, 5, 6, 7, 8, 11, 52, 53, 54, 59, 60, 61] [1, 2, 8, 11, 95, 780] [.ref 1 0, .ref 2 0, I (idxC f.Channels (⟨#[120]⟩ : ByteArray)), I (idxC f.Channels (⟨#[121]⟩ : ByteArray)), I (idxC f.Channels (⟨#[116]⟩ : ByteArray)), I 1, .ref 8 0, .ref 11 0, slRows false f.Strokes, I (f.Strokes.length : Int), I t54, slLI false ((at_ f.Strokes t54.toNat).Values), I ((((at_ f.Strokes t54.toNat).Values).length) : Int), I (t61 + 1)] [some (bxFile f), some (.box [nilA]), some (.box [.arr 780]), some (.box [.arr 95]), some (.arr 3 (ps.length + 1) (catF ps.length (fPoint ps) (litF [I (at_ (at_ ((at_ f.Strokes t54.toNat).Values) t61.toNat) ((idxC f.Channels (⟨#[120]⟩ : ByteArray)).toNat)), I (at_ (at_ ((at_ f.Strokes t54.toNat).Values) t61.toNat) ((idxC f.Channels (⟨#[121]⟩ : ByteArray)).toNat)), I ((at_ (at_ ((at_ f.Strokes t54.toNat).Values) t61.toNat) ((idxC f.Channels (⟨#[116]⟩ : ByteArray)).toNat)) * 1)] 3))), some (tAStroke true ss)] [inR .i64 (t61 + 1)] ⟨(inR_i64 (by omega) (by omega)), trivial⟩ ?_
      refine xe_weak [(810, 95)] (T := [(1, .ref 1 0), (2, .ref 2 0), (4, I (idxC f.Channels (⟨#[120]⟩ : ByteArray))), (5, I (idxC f.Channels (⟨#[121]⟩ : ByteArray))), (6, I (idxC f.Channels (⟨#[116]⟩ : ByteArray))), (7, I 1), (8, .ref 8 0), (11, .ref 11 0), (52, slRows false f.Strokes), (53, I (f.Strokes.length : Int)), (54, I t54), (59, slLI false ((at_ f.Strokes t54.toNat).Values)), (60, I ((((at_ f.Strokes t54.toNat).Values).length) : Int)), (61, I (t61 + 1))]) (O := [(1, bxFile f), (2, .box [nilA]), (8, .box [.arr 780]), (11, .box [.arr 810]), (780, tAStroke true ss), (810, tAPoint (ps ++ [(Point.mk (at_ (at_ ((at_ f.Strokes t54.toNat).Values) t61.toNat) ((idxC f.Channels (⟨#[120]⟩ : ByteArray)).toNat)) (at_ (at_ ((at_ f.Strokes t54.toNat).Values) t61.toNat) ((idxC f.Channels (⟨#[121]⟩ : ByteArray)).toNat)) ((at_ (at_ ((at_ f.Strokes t54.toNat).Values) t61.toNat) ((idxC f.Channels (⟨#[116]⟩ : ByteArray)).toNat)) * 1))]))]) rfl (⟨.inl rfl, .inl rfl, .inl rfl, .inl rfl, .inl rfl, .inl rfl, .inl rfl, .inl rfl, .inl rfl, .inl rfl, .inl rfl, .inl rfl, .inl rfl, .inl rfl, trivial⟩) (⟨.inl rfl, .inl rfl, .inl rfl, .inl rfl, .inl rfl, .inr ⟨rfl, (by first | rfl | (simp; done) | (simp; omega) | omega), fun i_ hi_ => .inl (cat_snoc (enc := cPoint) (xs := ps) rfl i_ hi_)⟩, trivial⟩) (xe_again ((t61 + 1), (ps ++ [(Point.mk (at_ (at_ ((at_ f.Strokes t54.toNat).Values) t61.toNat) ((idxC f.Channels (⟨#[120]⟩ : ByteArray)).toNat)) (at_ (at_ ((at_ f.Strokes t54.toNat).Values) t61.toNat) ((idxC f.Channels (⟨#[121]⟩ : ByteArray)).toNat)) ((at_ (at_ ((at_ f.Strokes t54.toNat).Values) t61.toNat) ((idxC f.Channels (⟨#[116]⟩ : ByteArray)).toNat)) * 1))])) rfl (show (0 ≤ (t61 + 1) ∧ (t61 + 1) ≤ ((at_ ik.Strokes t54.toNat).Points.length : Int)) ∧ (((ps ++ [(Point.mk (at_ (at_ ((at_ f.Strokes t54.toNat).Values) t61.toNat) ((idxC f.Channels (⟨#[120]⟩ : ByteArray)).toNat)) (at_ (at_ ((at_ f.Strokes t54.toNat).Values) t61.toNat) ((idxC f.Channels (⟨#[121]⟩ : ByteArray)).toNat)) ((at_ (at_ ((at_ f.Strokes t54.toNat).Values) t61.toNat) ((idxC f.Channels (⟨#[116]⟩ : ByteArray)).toNat)) * 1))]).length : Int) = (t61 + 1)) ∧ ((ps ++ [(Point.mk (at_ (at_ ((at_ f.Strokes t54.toNat).Values) t61.toNat) ((idxC f.Channels (⟨#[120]⟩ : ByteArray)).toNat)) (at_ (at_ ((at_ f.Strokes t54.toNat).Values) t61.toNat) ((idxC f.Channels (⟨#[121]⟩ : ByteArray)).toNat)) ((at_ (at_ ((at_ f.Strokes t54.toNat).Values) t61.toNat) ((idxC f.Channels (⟨#[116]⟩ : ByteArray)).toNat)) * 1))]) = (at_ ik.Strokes t54.toNat).Points.take (t61 + 1).toNat) ∧ True from ⟨(by omega), (by simp; omega), (by rw [hps, hkk, hx0, hx1, hx2, Int.mul_one, List.take_succ_eq_append_getElem hk, at_eq hk]), trivial⟩) (by first | (show ((((at_ ik.Strokes t54.toNat).Points.length : Int) - (t61 + 1)).toNat : Nat) < (((at_ ik.Strokes t54.toNat).Points.length : Int) - t61).toNat; omega) | (dsimp only; omega)))
     have hfr : Stroke.mk ps = at_ ik.Strokes t54.toNat := by rw [hps, List.take_of_length_le (by omega)]
     refine x_r [(0, .dec false)] [1, 2, 4, 5, 6, 7, 8, 11, 52, 53, 54, 59, 60, 61, 62] [1, 2, 8, 11, 780, 810] [.ref 1 0, .ref 2 0, I (idxC f.Channels (⟨#[120]⟩ : ByteArray)), I (idxC f.Channels (⟨#[121]⟩ : ByteArray)), I (idxC f.Channels (⟨#[116]⟩ : ByteArray)), I 1, .ref 8 0, .ref 11 0, slRows false f.Strokes, I (f.Strokes.length : Int), I t54, slLI false ((at_ f.Strokes t54.toNat).Values), I ((((at_ f.Strokes t54.toNat).Values).length) : Int), I t61, Bv false] [some (bxFile f), some (.box [nilA]), some (.box [.arr 780]), some (.box [.arr 810]), some (tAStroke true ss), some (tAPoint ps)] [¬ (t61 < ((((at_ f.Strokes t54.toNat).Values).length) : Int))] ⟨h2, trivial⟩ ?_
     refine xe_then ?_
     refine x_seq ?_
     refine x_false rfl ?_
     refine x_exit ?_
     refine xe_exit_then ?_
     refine xe_loop_exit ?_
     refine xe_exit_same ?_
     refine xe_then ?_
     refine x_weak [] (T := [(1, .ref 1 0), (2, .ref 2 0), (4, I (idxC f.Channels (⟨#[120]⟩ : ByteArray))), (5, I (idxC f.Channels (⟨#[121]⟩ : ByteArray))), (6, I (idxC f.Channels (⟨#[116]⟩ : ByteArray))), (7, I 1), (8, .ref 8 0), (11, .ref 11 0), (52, slRows false f.Strokes), (53, I (f.Strokes.length : Int)), (54, I t54), (59, slLI false ((at_ f.Strokes t54.toNat).Values)), (60, I ((((at_ f.Strokes t54.toNat).Values).length) : Int)), (61, I t61), (62, Bv false)]) (O := [(1, bxFile f), (2, .box [nilA]), (8, .box [.arr 780]), (11, .box [.arr 810]), (780, .oar [] 1 ss.length (fStroke true ss)), (810, tAPoint ps)]) rfl (⟨.inl rfl, .inl rfl, .inl rfl, .inl rfl, .inl rfl, .inl rfl, .inl rfl, .inl rfl, .inl rfl, .inl rfl, .inl rfl, .inl rfl, .inl rfl, .inl rfl, .inl rfl, trivial⟩) (⟨.inl rfl, .inl rfl, .inl rfl, .inl rfl, .inr ⟨rfl, rfl, fun i hi => rfl⟩, .inl rfl, trivial⟩) ?_
     refine x_r [(3, .new 101), (4, .new 102)] [1, 2, 4, 5, 6, 7, 8, 52, 53, 54] [1, 2, 8, 102, 810] [.ref 1 0, .ref 2 0, I (idxC f.Channels (⟨#[120]⟩ : ByteArray)), I (idxC f.Channels (⟨#[121]⟩ : ByteArray)), I (idxC f.Channels (⟨#[116]⟩ : ByteArray)), I 1, .ref 8 0, slRows false f.Strokes, I (f.Strokes.length : Int), I t54] [some (bxFile f), some (.box [nilA]), some (.box [.arr 102]), some (.oar [810] 1 (ss.length + 1) (catF ss.length (fStroke true ss) (litF [.arr 810] 1))), some (tAPoint ps)] [(ss.length + 1) * 24 ≤ 140737488355328] ⟨(by omega), trivial⟩ ?_
     refine xe_block 2 ?_
     refine xe_then ?_
     refine x_r [] [1, 2, 4, 5, 6, 7, 8, 52, 53, 54] [1, 2, 8, 102, 810] [.ref 1 0, .ref 2 0, I (idxC f.Channels (⟨#[120]⟩ : ByteArray)), I (idxC f.Channels (⟨#[121]⟩ : ByteArray)), I (idxC f.Channels (⟨#[116]⟩ : ByteArray)), I 1, .ref 8 0, slRows false f.Strokes, I (f.Strokes.length : Int), I (t54 + 1)] [some (bxFile f), some (.box [nilA]), some (.box [.arr 102]), some (.oar [810] 1 (ss.length + 1) (catF ss.length (fStroke true ss) (litF [.arr 810] 1))), some (tAPoint ps)] [inR .i64 (t54 + 1)] ⟨(inR_i64 (by omega) (by omega)), trivial⟩ ?_
     refine xe_weak [(780, 102)] (T := [(1, .ref 1 0), (2, .ref 2 0), (4, I (idxC f.Channels (⟨#[120]⟩ : ByteArray))), (5, I (idxC f.Channels (⟨#[121]⟩ : ByteArray))), (6, I (idxC f.Channels (⟨#[116]⟩ : ByteArray))), (7, I 1), (8, .ref 8 0), (52, slRows false f.Strokes), (53, I (f.Strokes.length : Int)), (54, I (t54 + 1))]) (O := [(1, bxFile f), (2, .box [nilA]), (8, .box [.arr 780]), (780, tAStroke true (ss ++ [(Stroke.mk ps)]))]) rfl (⟨.inl rfl, .inl rfl, .inl rfl, .inl rfl, .inl rfl, .inl rfl, .inl rfl, .inl rfl, .inl rfl, .inl rfl, trivial⟩) (⟨.inl rfl, .inl rfl, .inl rfl, .inr ⟨rfl, (by simp), oaddStroke ss (Stroke.mk ps) ⟨⟨(fun _ => rfl), rfl, rfl, fun i _ => .inl rfl⟩, rfl⟩⟩, trivial⟩) (xe_again ((t54 + 1), (ss ++ [(Stroke.mk ps)])) rfl (show (0 ≤ (t54 + 1) ∧ (t54 + 1) ≤ (ik.Strokes.length : Int)) ∧ (((ss ++ [(Stroke.mk ps)]).length : Int) = (t54 + 1)) ∧ ((ss ++ [(Stroke.mk ps)]) = ik.Strokes.take (t54 + 1).toNat) ∧ True from ⟨(by omega), (by simp; omega), (by rw [hss, hks, hfr, List.take_succ_eq_append_getElem hi, at_eq hi]), trivial⟩) (by first | (show (((ik.Strokes.length : Int) - (t54 + 1)).toNat : Nat) < ((ik.Strokes.length : Int) - t54).toNat; omega) | (dsimp only; omega)))
    have hfin : Ink.mk ss = ik := by rw [hss, List.take_of_length_le (by omega)]
    refine x_r [(0, .dec false)] [1, 2, 4, 5, 6, 7, 8, 52, 53, 54, 55] [1, 2, 8, 780] [.ref 1 0, .ref 2 0, I (idxC f.Channels (⟨#[120]⟩ : ByteArray)), I (idxC f.Channels (⟨#[121]⟩ : ByteArray)), I (idxC f.Channels (⟨#[116]⟩ : ByteArray)), I 1, .ref 8 0, slRows false f.Strokes, I (f.Strokes.length : Int), I t54, Bv false] [some (bxFile f), some (.box [nilA]), some (.box [.arr 780]), some (tAStroke true ss)] [¬ (t54 < (f.Strokes.length : Int))] ⟨h1, trivial⟩ ?_
    refine xe_then ?_
    refine x_seq ?_
    refine x_false rfl ?_
    refine x_exit ?_
    refine xe_exit_then ?_
    refine xe_loop_exit ?_
    refine xe_exit_same ?_
    refine xe_then ?_
    refine x_seq ?_
    refine xR [(1, .call [(false, .agg [slStroke false ss])] true (Bv true))] [2, 8, 107] [2, 8, 780] [.ref 2 0, .ref 8 0, Bv false] [some (.box [nilA]), some (.box [.arr 780]), some (tAStroke true ss)] [Con Tryz.prog 31 [.agg [slStroke false ss]] true (Bv true) ∧ (((false = true → true = true) ∧ 1 = 1 ∧ ss.length = ss.length ∧ ∀ i_, i_ < ss.length → (fStroke true ss) i_ = (fStroke false ss) i_ ∨ (AV.idsL ((fStroke false ss) i_) = [] ∧ leL (fun _ => none) false ((fStroke true ss) i_) ((fStroke false ss) i_))) ∧ ([] : List AV) = []) ∧ True] ⟨⟨(con_bool (by rw [hfin]; exact oki) (ValidInk_ok (Ink.mk ss))), ⟨⟨(fun h => by cases h), rfl, rfl, fun i _ => .inr ⟨idsStroke _ _, leStroke _ _ _⟩⟩, rfl⟩, trivial⟩, trivial⟩ ?_
    refine x_false rfl ?_
    refine x_skip ?_
    refine xe_then ?_
    refine xR [] [2, 3] [2, 780] [.ref 2 0, I 0] [some (.box [.arr 780]), some (tAStroke true ss)] [] trivial ?_
    refine x_ret ?_
    refine xe_end ((Ink.mk ss), 0) (show (∀ ik, okInk' ik = true → f = filI ik → (Ink.mk ss) = ik) ∧ (0 = 0) ∧ (True) from ⟨(by exact fun ik2 h1 h2 => hfin.trans (huq ik2 h1 h2)), (by rfl), trivial⟩) (trivial) (.tup [.agg [.arr 780], I 0]) (by kernel_rfl) (.inr ⟨⟨⟨(fun _ => rfl), rfl, rfl, fun i _ => .inl rfl⟩, rfl⟩, ⟨rfl, rfl⟩⟩) (fun _ => rfl) (fun _ => (by simp [tagged, taggedL, tagStroke]))
  obtain ⟨⟨v, c⟩, ⟨hh0, hh1, _⟩, hc⟩ := hh
  exact ⟨v, c, hh0, hh1, hc⟩
theorem ChannelNamed_ok (f : File) (name : ByteArray) (hf : okFil f) (hi : 0 ≤ idxC f.Channels name ∧ idxC f.Channels name ≤ 1000) : Con Tryz.prog 35 [agFile f, Sv name] true (.tup [I (idxC f.Channels name), I 0]) := by
  refine fn_ok (fn := Tryz.f35) (nt := 17) Tryz.func35 rfl rfl rfl rfl (by simp [taggedL, tagged, tagChannel, tagNote, tagRows]) fun B hB => ?_
  refine aw_lens (x := agFile f) 0 rfl (fun len_f => ?_)
  simp [LenOK, LenL, cChannel, cI, cLI, cNote, cRows, fChannel, fI, fLI, fNote, fRows, slChannel, slI, slLI, slNote, slRows] at len_f
  refine aR [(0, .new 2)] [1, 2] [2] [Sv name, .ref 2 0] [some (bxFile f)] [] hB trivial ?_
  refine aw_seq ?_
  refine aR [(1, .call [(true, .any)] true (Bv true))] [1, 2, 9] [2] [Sv name, .ref 2 0, Bv false] [some (bxFile f)] [Con Tryz.prog 32 [agFile f] true (Bv true) ∧ True] hB ⟨⟨(ValidFile_ok f hf), trivial⟩, trivial⟩ ?_
  refine aw_false rfl ?_
  refine aw_skip ?_
  refine ae_then ?_
  refine aR [(3, .call [(true, .any), (true, .any)] true (I (idxC f.Channels name)))] [6] [] [I (idxC f.Channels name)] [] [Con Tryz.prog 33 [slChannel false f.Channels, Sv name] true (I (idxC f.Channels name)) ∧ True] hB ⟨⟨(indexOfChannel_ok f.Channels name), trivial⟩, trivial⟩ ?_
  refine aw_seq ?_
  refine aR [(1, .dec false)] [6, 15] [] [I (idxC f.Channels name), Bv false] [] [¬ ((idxC f.Channels name) < 0)] hB ⟨(by omega), trivial⟩ ?_
  refine aw_false rfl ?_
  refine aw_skip ?_
  refine ae_then ?_
  refine aR [] [4, 5] [] [I (idxC f.Channels name), I 0] [] [] hB trivial ?_
  refine aw_ret ?_
  refine ae_ret hB (.tup [I (idxC f.Channels name), I 0]) (by kernel_rfl) (.inl rfl) rfl (fun _ => (by simp [tagged, taggedL]))
def cnS (xs : List Stroke) : Nat → Nat
  | 0 => 0
  | k + 1 => cnS xs k + (at_ xs k).Points.length
theorem cnS_bd {x : Ink} (h : okInk' x = true) : ∀ k, k ≤ x.Strokes.length → cnS x.Strokes k ≤ 60 * k
  | 0, _ => Nat.le_refl _
  | k + 1, hk => by
    have h1 := cnS_bd h k (by omega)
    have h2 := okS_len (okI_all h k (by omega))
    unfold cnS; omega
theorem ColumnOf_ok (f : File) (name : ByteArray) (ok : ∃ ik, okInk' ik = true ∧ f = filI ik) (hnm : name = ⟨#[116]⟩) : ∃ (v : List Int) (c : Int), (∀ ik, okInk' ik = true → f = filI ik → (v.length : Int) = (cnS ik.Strokes ik.Strokes.length : Int)) ∧ (c = 0) ∧ Con Tryz.prog 9 [agFile f, Sv name] true (.tup [slI true v, I c]) := by
  obtain ⟨ik, oki, hfi⟩ := ok
  have huq : ∀ ik2, okInk' ik2 = true → f = filI ik2 → ik = ik2 := fun ik2 _ h2 => filI_inj (hfi.symm.trans h2)
  have hfo : okFil f := by rw [hfi]; exact filI_ok oki
  have hil := okI_len oki
  have hst : f.Strokes = ik.Strokes.map rwS := by rw [hfi]; rfl
  have hch : f.Channels = chX := by rw [hfi]; rfl
  have hsl : f.Strokes.length = ik.Strokes.length := by rw [hst]; simp
  have hI2 : idxC f.Channels name = 2 := by rw [hch, hnm]; decide
  have hh : ∃ r : (List Int) × Int, ((∀ ik, okInk' ik = true → f = filI ik → (r.1.length : Int) = (cnS ik.Strokes ik.Strokes.length : Int)) ∧ (r.2 = 0) ∧ (True)) ∧ CallOK Tryz.prog 9 [agFile f, Sv name] (lookO []) true (.tup [slI true r.1, I r.2]) (lookO []) := by
    refine fn_okX (Φ := fun r : (List Int) × Int => (∀ ik, okInk' ik = true → f = filI ik → (r.1.length : Int) = (cnS ik.Strokes ik.Strokes.length : Int)) ∧ (r.2 = 0) ∧ (True)) [] (fun r => []) (fn := Tryz.f9) (nt := 46) Tryz.func9 rfl rfl (args := [agFile f, Sv name]) rfl (allcons (.inl ⟨rfl, by simp [tagged, taggedL, tagChannel, tagNote, tagRows]⟩) (allcons (.inl ⟨rfl, trivial⟩) allnil)) (res := fun r => .tup [slI true r.1, I r.2]) ?_
    refine xR [(0, .new 2)] [1, 2] [2] [Sv name, .ref 2 0] [some (bxFile f)] [] trivial ?_
    refine xR [(2, .call [(true, .any), (true, .any)] true (.tup [I (idxC f.Channels name), I 0]))] [2, 6, 7] [2] [.ref 2 0, I (idxC f.Channels name), I 0] [some (bxFile f)] [Con Tryz.prog 35 [agFile f, Sv name] true (.tup [I (idxC f.Channels name), I 0]) ∧ True] ⟨⟨(ChannelNamed_ok f name hfo (by omega)), trivial⟩, trivial⟩ ?_
    refine x_seq ?_
    refine xR [(1, .dec false)] [2, 6, 7, 20] [2] [.ref 2 0, I (idxC f.Channels name), I 0, Bv false] [some (bxFile f)] [¬ ((0 : Int) ≠ 0)] ⟨(fun hq => hq (by decide)), trivial⟩ ?_
    refine x_false rfl ?_
    refine x_skip ?_
    refine xe_then ?_
    refine xR [] [2, 6, 8] [2] [.ref 2 0, I (idxC f.Channels name), nilA] [some (bxFile f)] [] trivial ?_
    refine x_seq ?_
    refine xR [] [6, 8, 23, 24, 25] [] [I (idxC f.Channels name), nilA, slRows false f.Strokes, I (f.Strokes.length : Int), I 0] [] [] trivial ?_
    refine x_block ?_
    refine x_nil 8 708 1 (fun _ => []) (by kernel_rfl) ?_
    refine x_weak [] (T := [(6, I (idxC f.Channels name)), (8, .arr 708), (23, slRows false f.Strokes), (24, I (f.Strokes.length : Int)), (25, I 0)]) (O := [(708, tAI ([] : List Int))]) rfl (⟨.inl rfl, .inl rfl, .inl rfl, .inl rfl, .inl rfl, trivial⟩) (⟨.inr ⟨rfl, (by first | rfl | (simp; done) | (simp; omega) | omega), fun i_ hi_ => absurd hi_ (Nat.not_lt_zero _)⟩, trivial⟩) ?_
    refine x_loop (X := (List Int) × Int) (fun x => mkS [(6, I (idxC f.Channels name)), (8, .arr 708), (23, slRows false f.Strokes), (24, I (f.Strokes.length : Int)), (25, I x.2)] [(708, tAI x.1)]) (fun x => (0 ≤ x.2 ∧ x.2 ≤ (ik.Strokes.length : Int)) ∧ ((x.1.length : Int) = (cnS ik.Strokes x.2.toNat : Int)) ∧ True) (fun x => ((ik.Strokes.length : Int) - x.2).toNat) (([] : List Int), 0) rfl (show (0 ≤ (0 : Int) ∧ (0 : Int) ≤ (ik.Strokes.length : Int)) ∧ ((([] : List Int).length : Int) = (cnS ik.Strokes (0 : Int).toNat : Int)) ∧ True from ⟨(by omega), (by rfl), trivial⟩) (fun x hI => ?_)
    obtain ⟨values, t25⟩ := x
    obtain ⟨hi0, hvs, _⟩ : (0 ≤ t25 ∧ t25 ≤ (ik.Strokes.length : Int)) ∧ ((values.length : Int) = (cnS ik.Strokes t25.toNat : Int)) ∧ True := hI
    show XW _ _ _ _ (mkS [(6, I (idxC f.Channels name)), (8, .arr 708), (23, slRows false f.Strokes), (24, I (f.Strokes.length : Int)), (25, I t25)] [(708, tAI values)]) _ _
    refine x_seq ?_
    by_cases h1 : t25 < (f.Strokes.length : Int)
    ·have hi : t25.toNat < ik.Strokes.length := by omega
     have hos := okI_all oki _ hi
     have hol := okS_len hos
     have hcb := cnS_bd oki t25.toNat (by omega)
     have hks : (t25 + 1).toNat = t25.toNat + 1 := by omega
     have hfs : at_ f.Strokes t25.toNat = rwS (at_ ik.Strokes t25.toNat) := by rw [hst, at_mp hi]
     have hvl : (at_ f.Strokes t25.toNat).Values.length = (at_ ik.Strokes t25.toNat).Points.length := by rw [hfs]; simp [rwS]
     refine x_r [(0, .dec true)] [6, 8, 23, 24, 25, 26] [708] [I (idxC f.Channels name), .arr 708, slRows false f.Strokes, I (f.Strokes.length : Int), I t25, Bv true] [some (tAI values)] [t25 < (f.Strokes.length : Int)] ⟨h1, trivial⟩ ?_
     refine xe_then ?_
     refine x_seq ?_
     refine x_true rfl ?_
     refine x_skip ?_
     refine xe_then ?_
     refine x_seq ?_
     refine x_block ?_
     refine xR [(2, .new 10)] [6, 8, 10, 23, 24, 25] [10, 708] [I (idxC f.Channels name), .arr 708, .ref 10 0, slRows false f.Strokes, I (f.Strokes.length : Int), I t25] [some (.box [slLI false ((at_ f.Strokes t25.toNat).Values)]), some (tAI values)] [(0 : Int) ≤ t25 ∧ t25 < (f.Strokes.length : Int)] ⟨⟨(by omega), (by omega)⟩, trivial⟩ ?_
     refine xR [] [6, 8, 23, 24, 25, 30, 31, 32] [708] [I (idxC f.Channels name), .arr 708, slRows false f.Strokes, I (f.Strokes.length : Int), I t25, slLI false ((at_ f.Strokes t25.toNat).Values), I ((((at_ f.Strokes t25.toNat).Values).length) : Int), I 0] [some (tAI values)] [] trivial ?_
     refine x_block ?_
     refine x_loop (X := (List Int) × Int) (fun x => mkS [(6, I (idxC f.Channels name)), (8, .arr 708), (23, slRows false f.Strokes), (24, I (f.Strokes.length : Int)), (25, I t25), (30, slLI false ((at_ f.Strokes t25.toNat).Values)), (31, I ((((at_ f.Strokes t25.toNat).Values).length) : Int)), (32, I x.2)] [(708, tAI x.1)]) (fun x => (0 ≤ x.2 ∧ x.2 ≤ ((at_ ik.Strokes t25.toNat).Points.length : Int)) ∧ ((x.1.length : Int) = (cnS ik.Strokes t25.toNat : Int) + x.2) ∧ True) (fun x => (((at_ ik.Strokes t25.toNat).Points.length : Int) - x.2).toNat) (values, 0) rfl (show (0 ≤ (0 : Int) ∧ (0 : Int) ≤ ((at_ ik.Strokes t25.toNat).Points.length : Int)) ∧ ((values.length : Int) = (cnS ik.Strokes t25.toNat : Int) + (0 : Int)) ∧ True from ⟨(by omega), (by omega), trivial⟩) (fun x hI => ?_)
     obtain ⟨vals, t32⟩ := x
     obtain ⟨hk0, hvs2, _⟩ : (0 ≤ t32 ∧ t32 ≤ ((at_ ik.Strokes t25.toNat).Points.length : Int)) ∧ ((vals.length : Int) = (cnS ik.Strokes t25.toNat : Int) + t32) ∧ True := hI
     show XW _ _ _ _ (mkS [(6, I (idxC f.Channels name)), (8, .arr 708), (23, slRows false f.Strokes), (24, I (f.Strokes.length : Int)), (25, I t25), (30, slLI false ((at_ f.Strokes t25.toNat).Values)), (31, I ((((at_ f.Strokes t25.toNat).Values).length) : Int)), (32, I t32)] [(708, tAI vals)]) _ _
     refine x_seq ?_
     by_cases h2 : t32 < ((((at_ f.Strokes t25.toNat).Values).length) : Int)
     ·have hk : t32.toNat < (at_ ik.Strokes t25.toNat).Points.length := by omega
      have hrow : (at_ (at_ f.Strokes t25.toNat).Values t32.toNat) = rwP (at_ (at_ ik.Strokes t25.toNat).Points t32.toNat) := by rw [hfs]; show at_ ((at_ ik.Strokes t25.toNat).Points.map rwP) _ = _; rw [at_mp hk]
      have hrl : (at_ (at_ f.Strokes t25.toNat).Values t32.toNat).length = 3 := by rw [hrow]; rfl
      refine x_r [(0, .dec true)] [6, 8, 23, 24, 25, 30, 31, 32, 33] [708] [I (idxC f.Channels name), .arr 708, slRows false f.Strokes, I (f.Strokes.length : Int), I t25, slLI false ((at_ f.Strokes t25.toNat).Values), I ((((at_ f.Strokes t25.toNat).Values).length) : Int), I t32, Bv true] [some (tAI vals)] [t32 < ((((at_ f.Strokes t25.toNat).Values).length) : Int)] ⟨h2, trivial⟩ ?_
      refine xe_then ?_
      refine x_seq ?_
      refine x_true rfl ?_
      refine x_skip ?_
      refine xe_then ?_
      refine x_seq ?_
      refine x_block ?_
      refine xR [] [6, 8, 12, 23, 24, 25, 30, 31, 32] [708] [I (idxC f.Channels name), .arr 708, slI false (at_ ((at_ f.Strokes t25.toNat).Values) t32.toNat), slRows false f.Strokes, I (f.Strokes.length : Int), I t25, slLI false ((at_ f.Strokes t25.toNat).Values), I ((((at_ f.Strokes t25.toNat).Values).length) : Int), I t32] [some (tAI vals)] [(0 : Int) ≤ t32 ∧ t32 < ((((at_ f.Strokes t25.toNat).Values).length) : Int)] ⟨⟨(by omega), (by omega)⟩, trivial⟩ ?_
      refine x_r [(5, .new 41), (6, .new 42)] [6, 8, 23, 24, 25, 30, 31, 32] [42] [I (idxC f.Channels name), .arr 42, slRows false f.Strokes, I (f.Strokes.length : Int), I t25, slLI false ((at_ f.Strokes t25.toNat).Values), I ((((at_ f.Strokes t25.toNat).Values).length) : Int), I t32] [some (.arr 1 (vals.length + 1) (catF vals.length (fI vals) (litF [I (at_ (at_ ((at_ f.Strokes t25.toNat).Values) t32.toNat) ((idxC f.Channels name).toNat))] 1)))] [(0 : Int) ≤ (idxC f.Channels name) ∧ (idxC f.Channels name) < (((at_ ((at_ f.Strokes t25.toNat).Values) t32.toNat).length) : Int), (vals.length + 1) * 8 ≤ 140737488355328] ⟨⟨(by omega), (by omega)⟩, (by omega), trivial⟩ ?_
      refine xe_block 3 ?_
      refine xe_then ?_
      refine x_r [] [6, 8, 23, 24, 25, 30, 31, 32] [42] [I (idxC f.Channels name), .arr 42, slRows false f.Strokes, I (f.Strokes.length : Int), I t25, slLI false ((at_ f.Strokes t25.toNat).Values), I ((((at_ f.Strokes t25.toNat).Values).length) : Int), I (t32 + 1)] [some (.arr 1 (vals.length + 1) (catF vals.length (fI vals) (litF [I (at_ (at_ ((at_ f.Strokes t25.toNat).Values) t32.toNat) ((idxC f.Channels name).toNat))] 1)))] [inR .i64 (t32 + 1)] ⟨(inR_i64 (by omega) (by omega)), trivial⟩ ?_
      refine xe_weak [(708, 42)] (T := [(6, I (idxC f.Channels name)), (8, .arr 708), (23, slRows false f.Strokes), (24, I (f.Strokes.length : Int)), (25, I t25), (30, slLI false ((at_ f.Strokes t25.toNat).Values)), (31, I ((((at_ f.Strokes t25.toNat).Values).length) : Int)), (32, I (t32 + 1))]) (O := [(708, tAI (vals ++ [(at_ (at_ ((at_ f.Strokes t25.toNat).Values) t32.toNat) ((idxC f.Channels name).toNat))]))]) rfl (⟨.inl rfl, .inl rfl, .inl rfl, .inl rfl, .inl rfl, .inl rfl, .inl rfl, .inl rfl, trivial⟩) (⟨.inr ⟨rfl, (by first | rfl | (simp; done) | (simp; omega) | omega), fun i_ hi_ => .inl (cat_snoc (enc := cI) (xs := vals) rfl i_ hi_)⟩, trivial⟩) (xe_again ((vals ++ [(at_ (at_ ((at_ f.Strokes t25.toNat).Values) t32.toNat) ((idxC f.Channels name).toNat))]), (t32 + 1)) rfl (show (0 ≤ (t32 + 1) ∧ (t32 + 1) ≤ ((at_ ik.Strokes t25.toNat).Points.length : Int)) ∧ (((vals ++ [(at_ (at_ ((at_ f.Strokes t25.toNat).Values) t32.toNat) ((idxC f.Channels name).toNat))]).length : Int) = (cnS ik.Strokes t25.toNat : Int) + (t32 + 1)) ∧ True from ⟨(by omega), (by simp; omega), trivial⟩) (by first | (show ((((at_ ik.Strokes t25.toNat).Points.length : Int) - (t32 + 1)).toNat : Nat) < (((at_ ik.Strokes t25.toNat).Points.length : Int) - t32).toNat; omega) | (dsimp only; omega)))
     refine x_r [(0, .dec false)] [6, 8, 23, 24, 25, 30, 31, 32, 33] [708] [I (idxC f.Channels name), .arr 708, slRows false f.Strokes, I (f.Strokes.length : Int), I t25, slLI false ((at_ f.Strokes t25.toNat).Values), I ((((at_ f.Strokes t25.toNat).Values).length) : Int), I t32, Bv false] [some (tAI vals)] [¬ (t32 < ((((at_ f.Strokes t25.toNat).Values).length) : Int))] ⟨h2, trivial⟩ ?_
     refine xe_then ?_
     refine x_seq ?_
     refine x_false rfl ?_
     refine x_exit ?_
     refine xe_exit_then ?_
     refine xe_loop_exit ?_
     refine xe_exit_same ?_
     refine xe_block 1 ?_
     refine xe_then ?_
     refine x_r [] [6, 8, 23, 24, 25] [708] [I (idxC f.Channels name), .arr 708, slRows false f.Strokes, I (f.Strokes.length : Int), I (t25 + 1)] [some (tAI vals)] [inR .i64 (t25 + 1)] ⟨(inR_i64 (by omega) (by omega)), trivial⟩ ?_
     exact xe_again (vals, (t25 + 1)) rfl (show (0 ≤ (t25 + 1) ∧ (t25 + 1) ≤ (ik.Strokes.length : Int)) ∧ ((vals.length : Int) = (cnS ik.Strokes (t25 + 1).toNat : Int)) ∧ True from ⟨(by omega), (by rw [hks]; unfold cnS; push_cast; omega), trivial⟩) (by first | (show (((ik.Strokes.length : Int) - (t25 + 1)).toNat : Nat) < ((ik.Strokes.length : Int) - t25).toNat; omega) | (dsimp only; omega))
    have hfin : (values.length : Int) = (cnS ik.Strokes ik.Strokes.length : Int) := by rw [hvs, show t25.toNat = ik.Strokes.length from by omega]
    refine x_r [(0, .dec false)] [6, 8, 23, 24, 25, 26] [708] [I (idxC f.Channels name), .arr 708, slRows false f.Strokes, I (f.Strokes.length : Int), I t25, Bv false] [some (tAI values)] [¬ (t25 < (f.Strokes.length : Int))] ⟨h1, trivial⟩ ?_
    refine xe_then ?_
    refine x_seq ?_
    refine x_false rfl ?_
    refine x_exit ?_
    refine xe_exit_then ?_
    refine xe_loop_exit ?_
    refine xe_exit_same ?_
    refine xe_then ?_
    refine xR [] [4, 5] [708] [.arr 708, I 0] [some (tAI values)] [] trivial ?_
    refine x_ret ?_
    refine xe_end (values, 0) (show (∀ ik, okInk' ik = true → f = filI ik → (values.length : Int) = (cnS ik.Strokes ik.Strokes.length : Int)) ∧ (0 = 0) ∧ (True) from ⟨(by intro ik2 h1 h2; have e_ := huq ik2 h1 h2; subst e_; exact hfin), (by rfl), trivial⟩) (trivial) (.tup [.arr 708, I 0]) (by kernel_rfl) (.inr ⟨⟨(fun _ => rfl), rfl, rfl, fun i _ => .inl rfl⟩, ⟨rfl, rfl⟩⟩) (fun _ => rfl) (fun _ => (by simp [tagged, taggedL, tagI]))
  obtain ⟨⟨v, c⟩, ⟨hh0, hh1, _⟩, hc⟩ := hh
  exact ⟨v, c, hh0, hh1, hc⟩
theorem l00In_ok (n : Int) (low : Int) (high : Int) : Con Tryz.prog 90 [I n, I low, I high] true (Bv (inB n low high)) := by
  refine fn_ok (fn := Tryz.f90) (nt := 15) Tryz.func90 rfl rfl rfl rfl (by simp [taggedL, tagged]) fun B hB => ?_
  refine aR [] [0, 1, 2] [] [I n, I low, I high] [] [] hB trivial ?_
  refine aw_seq ?_
  by_cases h1 : low ≤ n
  ·refine aw_r [(2, .dec true)] [6] [] [Bv (decide (n ≤ high))] [] [low ≤ n] hB ⟨h1, trivial⟩ ?_
   refine ae_then ?_
   refine aw_ret ?_
   refine ae_ret hB (Bv (decide (n ≤ high))) (by kernel_rfl) (.inl (by first | rfl | (refine congrArg Bv ?_; simp [inB, *]; done) | (refine congrArg Bv ?_; simp [inB, *]; omega) | (refine congrArg Bv ?_; simp_all [inB]; done) | (refine congrArg Bv ?_; simp_all [inB]; omega))) rfl (fun _ => trivial)
  refine aw_r [(2, .dec false)] [6] [] [Bv false] [] [¬ (low ≤ n)] hB ⟨h1, trivial⟩ ?_
  refine ae_then ?_
  refine aw_ret ?_
  refine ae_ret hB (Bv false) (by kernel_rfl) (.inl (by first | rfl | (refine congrArg Bv ?_; simp [inB, *]; done) | (refine congrArg Bv ?_; simp [inB, *]; omega) | (refine congrArg Bv ?_; simp_all [inB]; done) | (refine congrArg Bv ?_; simp_all [inB]; omega))) rfl (fun _ => trivial)
theorem l02Point_ok (p : Point) : Con Tryz.prog 123 [agPoint p] true (Bv (okP p)) := by
  refine fn_ok (fn := Tryz.f123) (nt := 16) Tryz.func123 rfl rfl rfl rfl (by simp [taggedL, tagged]) fun B hB => ?_
  refine aR [(0, .new 1)] [1] [1] [.ref 1 0] [some (bxPoint p)] [] hB trivial ?_
  refine aw_seq ?_
  rcases Bool.eq_false_or_eq_true (inB p.X 0 4095) with h1 | h1
  ·rcases Bool.eq_false_or_eq_true (inB p.Y 0 4095) with h2 | h2
   ·refine aw_r [(2, .call [(true, .any), (true, .any), (true, .any)] true (Bv true)), (6, .call [(true, .any), (true, .any), (true, .any)] true (Bv true)), (11, .call [(true, .any), (true, .any), (true, .any)] true (Bv (inB p.T 0 3600000)))] [2] [] [Bv (inB p.T 0 3600000)] [] [Con Tryz.prog 90 [I p.X, I 0, I 4095] true (Bv true) ∧ True, Con Tryz.prog 90 [I p.Y, I 0, I 4095] true (Bv true) ∧ True, Con Tryz.prog 90 [I p.T, I 0, I 3600000] true (Bv (inB p.T 0 3600000)) ∧ True] hB ⟨⟨(con_bool h1 (l00In_ok p.X 0 4095)), trivial⟩, ⟨(con_bool h2 (l00In_ok p.Y 0 4095)), trivial⟩, ⟨(l00In_ok p.T 0 3600000), trivial⟩, trivial⟩ ?_
    refine ae_then ?_
    refine aw_ret ?_
    refine ae_ret hB (Bv (inB p.T 0 3600000)) (by kernel_rfl) (.inl (by first | rfl | (refine congrArg Bv ?_; simp [okP, *]; done) | (refine congrArg Bv ?_; simp [okP, *]; omega) | (refine congrArg Bv ?_; simp_all [okP]; done) | (refine congrArg Bv ?_; simp_all [okP]; omega))) rfl (fun _ => trivial)
   refine aw_r [(2, .call [(true, .any), (true, .any), (true, .any)] true (Bv true)), (6, .call [(true, .any), (true, .any), (true, .any)] true (Bv false))] [2] [] [Bv false] [] [Con Tryz.prog 90 [I p.X, I 0, I 4095] true (Bv true) ∧ True, Con Tryz.prog 90 [I p.Y, I 0, I 4095] true (Bv false) ∧ True] hB ⟨⟨(con_bool h1 (l00In_ok p.X 0 4095)), trivial⟩, ⟨(con_bool h2 (l00In_ok p.Y 0 4095)), trivial⟩, trivial⟩ ?_
   refine ae_then ?_
   refine aw_ret ?_
   refine ae_ret hB (Bv false) (by kernel_rfl) (.inl (by first | rfl | (refine congrArg Bv ?_; simp [okP, *]; done) | (refine congrArg Bv ?_; simp [okP, *]; omega) | (refine congrArg Bv ?_; simp_all [okP]; done) | (refine congrArg Bv ?_; simp_all [okP]; omega))) rfl (fun _ => trivial)
  refine aw_r [(2, .call [(true, .any), (true, .any), (true, .any)] true (Bv false))] [2] [] [Bv false] [] [Con Tryz.prog 90 [I p.X, I 0, I 4095] true (Bv false) ∧ True] hB ⟨⟨(con_bool h1 (l00In_ok p.X 0 4095)), trivial⟩, trivial⟩ ?_
  refine ae_then ?_
  refine aw_ret ?_
  refine ae_ret hB (Bv false) (by kernel_rfl) (.inl (by first | rfl | (refine congrArg Bv ?_; simp [okP, *]; done) | (refine congrArg Bv ?_; simp [okP, *]; omega) | (refine congrArg Bv ?_; simp_all [okP]; done) | (refine congrArg Bv ?_; simp_all [okP]; omega))) rfl (fun _ => trivial)
theorem l02Stroke_ok (s : Stroke) : Con Tryz.prog 85 [.ptr false [slPoint false s.Points]] true (Bv (okStroke' s)) := by
  refine fn_ok (fn := Tryz.f85) (nt := 52) Tryz.func85 rfl rfl rfl rfl (by simp [taggedL, tagged, tagPoint]) fun B hB => ?_
  refine aw_lens (x := .ptr false [slPoint false s.Points]) 0 rfl (fun len_s => ?_)
  simp [LenOK, LenL, cPoint, fPoint, slPoint] at len_s
  refine aR [] [0] [] [.ptr false [slPoint false s.Points]] [] [] hB trivial ?_
  refine aw_seq ?_
  refine aR [] [0, 3] [] [.ptr false [slPoint false s.Points], I 0] [] [] hB trivial ?_
  refine aw_block ?_
  refine aw_loop (fun gn gσ => ∃ (i : Int), gn = ((s.Points.length : Int) - i).toNat ∧ (0 ≤ i ∧ i ≤ (s.Points.length : Int)) ∧ (∀ j : Nat, (j : Int) < i → okPt s.Points j = true) ∧ gσ = mkS [(0, .ptr false [slPoint false s.Points]), (3, I i)] []) (((s.Points.length : Int) - 0).toNat) ⟨0, rfl, (by omega), (by intro j hj; omega), rfl⟩ (fun gn gσ hI => ?_)
  obtain ⟨i, rfl, hi0, hall0, rfl⟩ := hI
  refine aw_seq ?_
  refine aw_seq ?_
  by_cases h1 : i < (s.Points.length : Int)
  ·have hi : i.toNat < s.Points.length := by omega
   refine aw_r [(6, .dec true)] [0, 3, 10] [] [.ptr false [slPoint false s.Points], I i, Bv true] [] [i < (s.Points.length : Int)] hB ⟨h1, trivial⟩ ?_
   refine ae_then ?_
   refine aw_true rfl ?_
   refine aw_skip ?_
   refine ae_then ?_
   refine aw_seq ?_
   refine aw_block ?_
   refine aw_seq ?_
   rcases Bool.eq_false_or_eq_true (okP (at_ s.Points i.toNat)) with h2 | h2
   ·by_cases h3 : 0 < i
    ·by_cases h4 : ((at_ s.Points i.toNat).T) ≤ ((at_ s.Points ((i - 1).toNat)).T)
     ·have hall : allN s.Points.length (okPt s.Points) = false := allN_not hi (okPt_no h3 h4)
      refine aw_r [(7, .call [(true, .any)] true (Bv true)), (11, .dec true), (30, .dec true)] [0, 3, 45] [] [.ptr false [slPoint false s.Points], I i, Bv true] [] [(0 : Int) ≤ i ∧ i < (s.Points.length : Int), Con Tryz.prog 123 [agPoint (at_ s.Points i.toNat)] true (Bv true) ∧ True, 0 < i, (0 : Int) ≤ i ∧ i < (s.Points.length : Int), inR .i64 (i - 1), (0 : Int) ≤ (i - 1) ∧ (i - 1) < (s.Points.length : Int), ((at_ s.Points i.toNat).T) ≤ ((at_ s.Points ((i - 1).toNat)).T)] hB ⟨⟨(by omega), (by omega)⟩, ⟨(con_bool h2 (l02Point_ok (at_ s.Points i.toNat))), trivial⟩, h3, ⟨(by omega), (by omega)⟩, (inR_i64 (by omega) (by omega)), ⟨(by omega), (by omega)⟩, h4, trivial⟩ ?_
      refine ae_then ?_
      refine aw_true rfl ?_
      refine aR [] [2] [] [Bv false] [] [] hB trivial ?_
      refine aw_ret ?_
      refine ae_ret_block (ae_ret_then (ae_ret_then (ae_ret_block (ae_ret_then ?_))))
      refine ae_ret hB (Bv false) (by kernel_rfl) (.inl (by first | rfl | (refine congrArg Bv ?_; simp [okStroke', inB, *]; done) | (refine congrArg Bv ?_; simp [okStroke', inB, *]; omega) | (refine congrArg Bv ?_; simp_all [okStroke', inB]; done) | (refine congrArg Bv ?_; simp_all [okStroke', inB]; omega))) rfl (fun _ => trivial)
     have hok := okPt_yes h2 h3 h4
     refine aw_r [(7, .call [(true, .any)] true (Bv true)), (11, .dec true), (30, .dec false)] [0, 3, 45] [] [.ptr false [slPoint false s.Points], I i, Bv false] [] [(0 : Int) ≤ i ∧ i < (s.Points.length : Int), Con Tryz.prog 123 [agPoint (at_ s.Points i.toNat)] true (Bv true) ∧ True, 0 < i, (0 : Int) ≤ i ∧ i < (s.Points.length : Int), inR .i64 (i - 1), (0 : Int) ≤ (i - 1) ∧ (i - 1) < (s.Points.length : Int), ¬ (((at_ s.Points i.toNat).T) ≤ ((at_ s.Points ((i - 1).toNat)).T))] hB ⟨⟨(by omega), (by omega)⟩, ⟨(con_bool h2 (l02Point_ok (at_ s.Points i.toNat))), trivial⟩, h3, ⟨(by omega), (by omega)⟩, (inR_i64 (by omega) (by omega)), ⟨(by omega), (by omega)⟩, h4, trivial⟩ ?_
     refine ae_then ?_
     refine aw_false rfl ?_
     refine aw_skip ?_
     refine ae_block 1 ?_
     refine ae_then ?_
     refine aw_r [] [0, 3] [] [.ptr false [slPoint false s.Points], I (i + 1)] [] [inR .i64 (i + 1)] hB ⟨(inR_i64 (by omega) (by omega)), trivial⟩ ?_
     exact ae_again _ (by omega) ⟨(i + 1), rfl, (by omega), (by intro j hj; by_cases ej : j = i.toNat; (subst ej; first | assumption | exact hok); exact hall0 j (by omega)), rfl⟩
    have hok := okPt_zero h2 hi0.1 h3
    refine aw_r [(7, .call [(true, .any)] true (Bv true)), (11, .dec false)] [0, 3, 45] [] [.ptr false [slPoint false s.Points], I i, Bv false] [] [(0 : Int) ≤ i ∧ i < (s.Points.length : Int), Con Tryz.prog 123 [agPoint (at_ s.Points i.toNat)] true (Bv true) ∧ True, ¬ (0 < i)] hB ⟨⟨(by omega), (by omega)⟩, ⟨(con_bool h2 (l02Point_ok (at_ s.Points i.toNat))), trivial⟩, h3, trivial⟩ ?_
    refine ae_then ?_
    refine aw_false rfl ?_
    refine aw_skip ?_
    refine ae_block 1 ?_
    refine ae_then ?_
    refine aw_r [] [0, 3] [] [.ptr false [slPoint false s.Points], I (i + 1)] [] [inR .i64 (i + 1)] hB ⟨(inR_i64 (by omega) (by omega)), trivial⟩ ?_
    exact ae_again _ (by omega) ⟨(i + 1), rfl, (by omega), (by intro j hj; by_cases ej : j = i.toNat; (subst ej; first | assumption | exact hok); exact hall0 j (by omega)), rfl⟩
   have hall : allN s.Points.length (okPt s.Points) = false := allN_not hi (okPt_bad h2)
   refine aw_r [(7, .call [(true, .any)] true (Bv false))] [0, 3, 45] [] [.ptr false [slPoint false s.Points], I i, Bv true] [] [(0 : Int) ≤ i ∧ i < (s.Points.length : Int), Con Tryz.prog 123 [agPoint (at_ s.Points i.toNat)] true (Bv false) ∧ True] hB ⟨⟨(by omega), (by omega)⟩, ⟨(con_bool h2 (l02Point_ok (at_ s.Points i.toNat))), trivial⟩, trivial⟩ ?_
   refine ae_then ?_
   refine aw_true rfl ?_
   refine aR [] [2] [] [Bv false] [] [] hB trivial ?_
   refine aw_ret ?_
   refine ae_ret_block (ae_ret_then (ae_ret_then (ae_ret_block (ae_ret_then ?_))))
   refine ae_ret hB (Bv false) (by kernel_rfl) (.inl (by first | rfl | (refine congrArg Bv ?_; simp [okStroke', inB, *]; done) | (refine congrArg Bv ?_; simp [okStroke', inB, *]; omega) | (refine congrArg Bv ?_; simp_all [okStroke', inB]; done) | (refine congrArg Bv ?_; simp_all [okStroke', inB]; omega))) rfl (fun _ => trivial)
  have hall : allN s.Points.length (okPt s.Points) = true := allN_at (fun j hj => hall0 j (by omega))
  refine aw_r [(6, .dec false)] [0, 3, 10] [] [.ptr false [slPoint false s.Points], I i, Bv false] [] [¬ (i < (s.Points.length : Int))] hB ⟨h1, trivial⟩ ?_
  refine ae_then ?_
  refine aw_false rfl ?_
  refine aw_exit ?_
  refine ae_exit_then ?_
  refine ae_exit_then ?_
  refine ae_exit_same ?_
  refine ae_then ?_
  refine aR [(5, .call [(true, .any), (true, .any), (true, .any)] true (Bv (inB (s.Points.length : Int) 1 60)))] [2] [] [Bv (inB (s.Points.length : Int) 1 60)] [] [Con Tryz.prog 90 [I (s.Points.length : Int), I 1, I 60] true (Bv (inB (s.Points.length : Int) 1 60)) ∧ True] hB ⟨⟨(l00In_ok (s.Points.length : Int) 1 60), trivial⟩, trivial⟩ ?_
  refine aw_ret ?_
  refine ae_ret hB (Bv (inB (s.Points.length : Int) 1 60)) (by kernel_rfl) (.inl (by first | rfl | (refine congrArg Bv ?_; simp [okStroke', inB, *]; done) | (refine congrArg Bv ?_; simp [okStroke', inB, *]; omega) | (refine congrArg Bv ?_; simp_all [okStroke', inB]; done) | (refine congrArg Bv ?_; simp_all [okStroke', inB]; omega))) rfl (fun _ => trivial)
theorem l02Ok_ok (x : Ink) : Con Tryz.prog 36 [.ptr false [slStroke false x.Strokes]] true (Bv (okInk' x)) := by
  refine fn_ok (fn := Tryz.f36) (nt := 53) Tryz.func36 rfl rfl rfl rfl (by simp [taggedL, tagged, tagStroke]) fun B hB => ?_
  refine aw_lens (x := .ptr false [slStroke false x.Strokes]) 0 rfl (fun len_x => ?_)
  simp [LenOK, LenL, cPoint, cStroke, fPoint, fStroke, slPoint, slStroke] at len_x
  refine aR [] [0] [] [.ptr false [slStroke false x.Strokes]] [] [] hB trivial ?_
  refine aw_seq ?_
  refine aR [] [0, 3] [] [.ptr false [slStroke false x.Strokes], I 0] [] [] hB trivial ?_
  refine aw_block ?_
  refine aw_loop (fun gn gσ => ∃ (i : Int), gn = ((x.Strokes.length : Int) - i).toNat ∧ (0 ≤ i ∧ i ≤ (x.Strokes.length : Int)) ∧ (∀ j : Nat, (j : Int) < i → okSA x.Strokes j = true) ∧ gσ = mkS [(0, .ptr false [slStroke false x.Strokes]), (3, I i)] []) (((x.Strokes.length : Int) - 0).toNat) ⟨0, rfl, (by omega), (by intro j hj; omega), rfl⟩ (fun gn gσ hI => ?_)
  obtain ⟨i, rfl, hi0, hall0, rfl⟩ := hI
  refine aw_seq ?_
  refine aw_seq ?_
  by_cases h1 : i < (x.Strokes.length : Int)
  ·have hi : i.toNat < x.Strokes.length := by omega
   refine aw_r [(6, .dec true)] [0, 3, 10] [] [.ptr false [slStroke false x.Strokes], I i, Bv true] [] [i < (x.Strokes.length : Int)] hB ⟨h1, trivial⟩ ?_
   refine ae_then ?_
   refine aw_true rfl ?_
   refine aw_skip ?_
   refine ae_then ?_
   refine aw_seq ?_
   refine aw_block ?_
   refine aw_seq ?_
   rcases Bool.eq_false_or_eq_true (okStroke' (at_ x.Strokes i.toNat)) with h2 | h2
   ·have hln := okS_len h2
    by_cases h3 : 0 < i
    ·have hpr := okS_len (okSA_ok (hall0 (i - 1).toNat (by omega)))
     by_cases h4 : ((at_ ((at_ x.Strokes i.toNat).Points) 0).T) ≤ ((at_ (at_ x.Strokes ((i - 1).toNat)).Points ((at_ x.Strokes ((i - 1).toNat)).Points.length - 1)).T)
     ·have hall : allN x.Strokes.length (okSA x.Strokes) = false := allN_not hi (okSA_no h3 h4)
      refine aw_r [(6, .call [(true, .any)] true (Bv true)), (10, .dec true), (30, .call [(true, .any)] true (I ((at_ (at_ x.Strokes ((i - 1).toNat)).Points ((at_ x.Strokes ((i - 1).toNat)).Points.length - 1)).T))), (31, .dec true)] [0, 3, 46] [] [.ptr false [slStroke false x.Strokes], I i, Bv true] [] [(0 : Int) ≤ i ∧ i < (x.Strokes.length : Int), Con Tryz.prog 85 [.ptr false [slPoint false ((at_ x.Strokes i.toNat).Points)]] true (Bv true) ∧ True, 0 < i, (0 : Int) ≤ i ∧ i < (x.Strokes.length : Int), (0 : Int) ≤ 0 ∧ 0 < ((((at_ x.Strokes i.toNat).Points).length) : Int), inR .i64 (i - 1), (0 : Int) ≤ (i - 1) ∧ (i - 1) < (x.Strokes.length : Int), Con Tryz.prog 74 [.ptr false [slPoint false ((at_ x.Strokes ((i - 1).toNat)).Points)]] true (I ((at_ (at_ x.Strokes ((i - 1).toNat)).Points ((at_ x.Strokes ((i - 1).toNat)).Points.length - 1)).T)) ∧ True, ((at_ ((at_ x.Strokes i.toNat).Points) 0).T) ≤ ((at_ (at_ x.Strokes ((i - 1).toNat)).Points ((at_ x.Strokes ((i - 1).toNat)).Points.length - 1)).T)] hB ⟨⟨(by omega), (by omega)⟩, ⟨(con_bool h2 (l02Stroke_ok (at_ x.Strokes i.toNat))), trivial⟩, h3, ⟨(by omega), (by omega)⟩, ⟨(by omega), (by omega)⟩, (inR_i64 (by omega) (by omega)), ⟨(by omega), (by omega)⟩, ⟨(l02Last_ok (at_ x.Strokes ((i - 1).toNat)) (by omega)), trivial⟩, h4, trivial⟩ ?_
      refine ae_then ?_
      refine aw_true rfl ?_
      refine aR [] [2] [] [Bv false] [] [] hB trivial ?_
      refine aw_ret ?_
      refine ae_ret_block (ae_ret_then (ae_ret_then (ae_ret_block (ae_ret_then ?_))))
      refine ae_ret hB (Bv false) (by kernel_rfl) (.inl (by first | rfl | (refine congrArg Bv ?_; simp [okInk', *]; done) | (refine congrArg Bv ?_; simp [okInk', *]; omega) | (refine congrArg Bv ?_; simp_all [okInk']; done) | (refine congrArg Bv ?_; simp_all [okInk']; omega))) rfl (fun _ => trivial)
     have hok := okSA_yes h2 h3 h4
     refine aw_r [(6, .call [(true, .any)] true (Bv true)), (10, .dec true), (30, .call [(true, .any)] true (I ((at_ (at_ x.Strokes ((i - 1).toNat)).Points ((at_ x.Strokes ((i - 1).toNat)).Points.length - 1)).T))), (31, .dec false)] [0, 3, 46] [] [.ptr false [slStroke false x.Strokes], I i, Bv false] [] [(0 : Int) ≤ i ∧ i < (x.Strokes.length : Int), Con Tryz.prog 85 [.ptr false [slPoint false ((at_ x.Strokes i.toNat).Points)]] true (Bv true) ∧ True, 0 < i, (0 : Int) ≤ i ∧ i < (x.Strokes.length : Int), (0 : Int) ≤ 0 ∧ 0 < ((((at_ x.Strokes i.toNat).Points).length) : Int), inR .i64 (i - 1), (0 : Int) ≤ (i - 1) ∧ (i - 1) < (x.Strokes.length : Int), Con Tryz.prog 74 [.ptr false [slPoint false ((at_ x.Strokes ((i - 1).toNat)).Points)]] true (I ((at_ (at_ x.Strokes ((i - 1).toNat)).Points ((at_ x.Strokes ((i - 1).toNat)).Points.length - 1)).T)) ∧ True, ¬ (((at_ ((at_ x.Strokes i.toNat).Points) 0).T) ≤ ((at_ (at_ x.Strokes ((i - 1).toNat)).Points ((at_ x.Strokes ((i - 1).toNat)).Points.length - 1)).T))] hB ⟨⟨(by omega), (by omega)⟩, ⟨(con_bool h2 (l02Stroke_ok (at_ x.Strokes i.toNat))), trivial⟩, h3, ⟨(by omega), (by omega)⟩, ⟨(by omega), (by omega)⟩, (inR_i64 (by omega) (by omega)), ⟨(by omega), (by omega)⟩, ⟨(l02Last_ok (at_ x.Strokes ((i - 1).toNat)) (by omega)), trivial⟩, h4, trivial⟩ ?_
     refine ae_then ?_
     refine aw_false rfl ?_
     refine aw_skip ?_
     refine ae_block 1 ?_
     refine ae_then ?_
     refine aw_r [] [0, 3] [] [.ptr false [slStroke false x.Strokes], I (i + 1)] [] [inR .i64 (i + 1)] hB ⟨(inR_i64 (by omega) (by omega)), trivial⟩ ?_
     exact ae_again _ (by omega) ⟨(i + 1), rfl, (by omega), (by intro j hj; by_cases ej : j = i.toNat; (subst ej; first | assumption | exact hok); exact hall0 j (by omega)), rfl⟩
    have hok := okSA_zero h2 hi0.1 h3
    refine aw_r [(6, .call [(true, .any)] true (Bv true)), (10, .dec false)] [0, 3, 46] [] [.ptr false [slStroke false x.Strokes], I i, Bv false] [] [(0 : Int) ≤ i ∧ i < (x.Strokes.length : Int), Con Tryz.prog 85 [.ptr false [slPoint false ((at_ x.Strokes i.toNat).Points)]] true (Bv true) ∧ True, ¬ (0 < i)] hB ⟨⟨(by omega), (by omega)⟩, ⟨(con_bool h2 (l02Stroke_ok (at_ x.Strokes i.toNat))), trivial⟩, h3, trivial⟩ ?_
    refine ae_then ?_
    refine aw_false rfl ?_
    refine aw_skip ?_
    refine ae_block 1 ?_
    refine ae_then ?_
    refine aw_r [] [0, 3] [] [.ptr false [slStroke false x.Strokes], I (i + 1)] [] [inR .i64 (i + 1)] hB ⟨(inR_i64 (by omega) (by omega)), trivial⟩ ?_
    exact ae_again _ (by omega) ⟨(i + 1), rfl, (by omega), (by intro j hj; by_cases ej : j = i.toNat; (subst ej; first | assumption | exact hok); exact hall0 j (by omega)), rfl⟩
   have hall : allN x.Strokes.length (okSA x.Strokes) = false := allN_not hi (okSA_bad (by simpa using h2))
   refine aw_r [(6, .call [(true, .any)] true (Bv false))] [0, 3, 46] [] [.ptr false [slStroke false x.Strokes], I i, Bv true] [] [(0 : Int) ≤ i ∧ i < (x.Strokes.length : Int), Con Tryz.prog 85 [.ptr false [slPoint false ((at_ x.Strokes i.toNat).Points)]] true (Bv false) ∧ True] hB ⟨⟨(by omega), (by omega)⟩, ⟨(con_bool h2 (l02Stroke_ok (at_ x.Strokes i.toNat))), trivial⟩, trivial⟩ ?_
   refine ae_then ?_
   refine aw_true rfl ?_
   refine aR [] [2] [] [Bv false] [] [] hB trivial ?_
   refine aw_ret ?_
   refine ae_ret_block (ae_ret_then (ae_ret_then (ae_ret_block (ae_ret_then ?_))))
   refine ae_ret hB (Bv false) (by kernel_rfl) (.inl (by first | rfl | (refine congrArg Bv ?_; simp [okInk', *]; done) | (refine congrArg Bv ?_; simp [okInk', *]; omega) | (refine congrArg Bv ?_; simp_all [okInk']; done) | (refine congrArg Bv ?_; simp_all [okInk']; omega))) rfl (fun _ => trivial)
  have hall : allN x.Strokes.length (okSA x.Strokes) = true := allN_at (fun j hj => hall0 j (by omega))
  refine aw_r [(6, .dec false)] [0, 3, 10] [] [.ptr false [slStroke false x.Strokes], I i, Bv false] [] [¬ (i < (x.Strokes.length : Int))] hB ⟨h1, trivial⟩ ?_
  refine ae_then ?_
  refine aw_false rfl ?_
  refine aw_exit ?_
  refine ae_exit_then ?_
  refine ae_exit_then ?_
  refine ae_exit_same ?_
  refine ae_then ?_
  refine aR [] [2] [] [Bv (decide ((x.Strokes.length : Int) ≤ 16))] [] [] hB trivial ?_
  refine aw_ret ?_
  refine ae_ret hB (Bv (decide ((x.Strokes.length : Int) ≤ 16))) (by kernel_rfl) (.inl (by first | rfl | (refine congrArg Bv ?_; simp [okInk', *]; done) | (refine congrArg Bv ?_; simp [okInk', *]; omega) | (refine congrArg Bv ?_; simp_all [okInk']; done) | (refine congrArg Bv ?_; simp_all [okInk']; omega))) rfl (fun _ => trivial)
theorem l02CountF_ok (ik : Ink) (ok : okInk' ik = true) : Con Tryz.prog 37 [.ptr false [slStroke false ik.Strokes]] true (I (cnS ik.Strokes ik.Strokes.length : Int)) := by
  have hil := okI_len ok
  refine fn_ok (fn := Tryz.f37) (nt := 26) Tryz.func37 rfl rfl rfl rfl (by simp [taggedL, tagged, tagStroke]) fun B hB => ?_
  refine aw_lens (x := .ptr false [slStroke false ik.Strokes]) 0 rfl (fun len_ik => ?_)
  simp [LenOK, LenL, cPoint, cStroke, fPoint, fStroke, slPoint, slStroke] at len_ik
  refine aR [] [0] [] [.ptr false [slStroke false ik.Strokes]] [] [] hB trivial ?_
  refine aR [] [0, 3] [] [.ptr false [slStroke false ik.Strokes], I 0] [] [] hB trivial ?_
  refine aw_seq ?_
  refine aR [] [0, 3, 4] [] [.ptr false [slStroke false ik.Strokes], I 0, I 0] [] [] hB trivial ?_
  refine aw_block ?_
  refine aw_loop (fun gn gσ => ∃ (n : Int) (i : Int), gn = ((ik.Strokes.length : Int) - i).toNat ∧ (0 ≤ i ∧ i ≤ (ik.Strokes.length : Int)) ∧ (n = (cnS ik.Strokes i.toNat : Int)) ∧ gσ = mkS [(0, .ptr false [slStroke false ik.Strokes]), (3, I n), (4, I i)] []) (((ik.Strokes.length : Int) - 0).toNat) ⟨0, 0, rfl, (by omega), (by rfl), rfl⟩ (fun gn gσ hI => ?_)
  obtain ⟨n, i, rfl, hi0, hn0, rfl⟩ := hI
  refine aw_seq ?_
  refine aw_seq ?_
  by_cases h1 : i < (ik.Strokes.length : Int)
  ·have hi : i.toNat < ik.Strokes.length := by omega
   have hos := okS_len (okI_all ok _ hi)
   have hcb := cnS_bd ok i.toNat (by omega)
   have hks : (i + 1).toNat = i.toNat + 1 := by omega
   refine aw_r [(6, .dec true)] [0, 3, 4, 11] [] [.ptr false [slStroke false ik.Strokes], I n, I i, Bv true] [] [i < (ik.Strokes.length : Int)] hB ⟨h1, trivial⟩ ?_
   refine ae_then ?_
   refine aw_true rfl ?_
   refine aw_skip ?_
   refine ae_then ?_
   refine aw_seq ?_
   refine aw_block ?_
   refine aw_r [] [0, 3, 4] [] [.ptr false [slStroke false ik.Strokes], I (n + ((((at_ ik.Strokes i.toNat).Points).length) : Int)), I i] [] [(0 : Int) ≤ i ∧ i < (ik.Strokes.length : Int), inR .i64 (n + ((((at_ ik.Strokes i.toNat).Points).length) : Int))] hB ⟨⟨(by omega), (by omega)⟩, (inR_i64 (by omega) (by omega)), trivial⟩ ?_
   refine ae_block 1 ?_
   refine ae_then ?_
   refine aw_r [] [0, 3, 4] [] [.ptr false [slStroke false ik.Strokes], I (n + ((((at_ ik.Strokes i.toNat).Points).length) : Int)), I (i + 1)] [] [inR .i64 (i + 1)] hB ⟨(inR_i64 (by omega) (by omega)), trivial⟩ ?_
   exact ae_again _ (by omega) ⟨(n + ((((at_ ik.Strokes i.toNat).Points).length) : Int)), (i + 1), rfl, (by omega), (by rw [hks]; unfold cnS; push_cast; omega), rfl⟩
  have hfin : n = (cnS ik.Strokes ik.Strokes.length : Int) := by rw [hn0, show i.toNat = ik.Strokes.length from by omega]
  refine aw_r [(6, .dec false)] [0, 3, 4, 11] [] [.ptr false [slStroke false ik.Strokes], I n, I i, Bv false] [] [¬ (i < (ik.Strokes.length : Int))] hB ⟨h1, trivial⟩ ?_
  refine ae_then ?_
  refine aw_false rfl ?_
  refine aw_exit ?_
  refine ae_exit_then ?_
  refine ae_exit_then ?_
  refine ae_exit_same ?_
  refine ae_then ?_
  refine aR [] [2] [] [I n] [] [] hB trivial ?_
  refine aw_ret ?_
  refine ae_ret hB (I n) (by kernel_rfl) (.inl (by rw [hfin])) rfl (fun _ => trivial)
theorem specPointCountF_ok (ik : Ink) (ok : okInk' ik = true) : Con Tryz.prog 10 [.agg [slStroke false ik.Strokes]] true (.tup [I (cnS ik.Strokes ik.Strokes.length : Int), I 0]) := by
  refine fn_ok (fn := Tryz.f10) (nt := 7) Tryz.func10 rfl rfl rfl rfl (by simp [taggedL, tagged, tagStroke]) fun B hB => ?_
  refine aw_lens (x := .agg [slStroke false ik.Strokes]) 0 rfl (fun len_ik => ?_)
  simp [LenOK, LenL, cPoint, cStroke, fPoint, fStroke, slPoint, slStroke] at len_ik
  refine aR [(0, .new 1)] [1] [1] [.ref 1 0] [some (.box [slStroke false ik.Strokes])] [] hB trivial ?_
  refine aw_seq ?_
  refine aR [(0, .call [(false, .ptr false [slStroke false ik.Strokes])] true (Bv true))] [1, 5] [1] [.ref 1 0, Bv false] [some (.box [slStroke false ik.Strokes])] [Con Tryz.prog 36 [.ptr false [slStroke false ik.Strokes]] true (Bv true) ∧ ((false = true → true = true) ∧ AV.idsL [slStroke false ik.Strokes] = [] ∧ ((false = true → false = true) ∧ 1 = 1 ∧ ik.Strokes.length = ik.Strokes.length ∧ ∀ i_, i_ < ik.Strokes.length → (fStroke false ik.Strokes) i_ = (fStroke false ik.Strokes) i_ ∨ (AV.idsL ((fStroke false ik.Strokes) i_) = [] ∧ leL (fun _ => none) false ((fStroke false ik.Strokes) i_) ((fStroke false ik.Strokes) i_))) ∧ ([] : List AV) = []) ∧ True] hB ⟨⟨(con_bool ok (l02Ok_ok ik)), ⟨(fun h => by cases h), rfl, ⟨⟨(fun h => by cases h), rfl, rfl, fun i _ => .inl rfl⟩, rfl⟩⟩, trivial⟩, trivial⟩ ?_
  refine aw_false rfl ?_
  refine aw_skip ?_
  refine ae_then ?_
  refine aR [(0, .call [(false, .ptr false [slStroke false ik.Strokes])] true (I (cnS ik.Strokes ik.Strokes.length : Int)))] [2, 3] [] [I (cnS ik.Strokes ik.Strokes.length : Int), I 0] [] [Con Tryz.prog 37 [.ptr false [slStroke false ik.Strokes]] true (I (cnS ik.Strokes ik.Strokes.length : Int)) ∧ ((false = true → true = true) ∧ AV.idsL [slStroke false ik.Strokes] = [] ∧ ((false = true → false = true) ∧ 1 = 1 ∧ ik.Strokes.length = ik.Strokes.length ∧ ∀ i_, i_ < ik.Strokes.length → (fStroke false ik.Strokes) i_ = (fStroke false ik.Strokes) i_ ∨ (AV.idsL ((fStroke false ik.Strokes) i_) = [] ∧ leL (fun _ => none) false ((fStroke false ik.Strokes) i_) ((fStroke false ik.Strokes) i_))) ∧ ([] : List AV) = []) ∧ True] hB ⟨⟨(l02CountF_ok ik ok), ⟨(fun h => by cases h), rfl, ⟨⟨(fun h => by cases h), rfl, rfl, fun i _ => .inl rfl⟩, rfl⟩⟩, trivial⟩, trivial⟩ ?_
  refine aw_ret ?_
  refine ae_ret hB (.tup [I (cnS ik.Strokes ik.Strokes.length : Int), I 0]) (by kernel_rfl) (.inl rfl) rfl (fun _ => (by simp [tagged, taggedL]))
def sameL {α : Type} [Inhabited α] [DecidableEq α] (a b : List α) : Bool := decide (a.length = b.length) && allN a.length (fun j => decide (at_ a j = at_ b j))
theorem sameL_refl {α : Type} [Inhabited α] [DecidableEq α] (a : List α) : sameL a a = true := by simp [sameL, allN_iff]
def sameS (a b : Stroke) : Bool := sameL a.Points b.Points
def sameI (a b : Ink) : Bool := decide (a.Strokes.length = b.Strokes.length) && allN a.Strokes.length (fun j => sameS (at_ a.Strokes j) (at_ b.Strokes j))
theorem sameI_refl (a : Ink) : sameI a a = true := by simp [sameI, sameS, sameL_refl, allN_iff]
theorem sameI_of {a b : Ink} (h : a = b) : sameI a b = true := by rw [h]; exact sameI_refl b
theorem pt_ext {a b : Point} (h1 : a.X = b.X) (h2 : a.Y = b.Y) (h3 : a.T = b.T) : a = b := by
  cases a; cases b; simp_all
theorem l02SameStroke_ok (a : Stroke) (b : Stroke) : Con Tryz.prog 86 [.ptr false [slPoint false a.Points], .ptr false [slPoint false b.Points]] true (Bv (sameS a b)) := by
  refine fn_ok (fn := Tryz.f86) (nt := 41) Tryz.func86 rfl rfl rfl rfl (by simp [taggedL, tagged, tagPoint]) fun B hB => ?_
  refine aw_lens (x := .ptr false [slPoint false a.Points]) 0 rfl (fun len_a => ?_)
  simp [LenOK, LenL, cPoint, fPoint, slPoint] at len_a
  refine aw_lens (x := .ptr false [slPoint false b.Points]) 1 rfl (fun len_b => ?_)
  simp [LenOK, LenL, cPoint, fPoint, slPoint] at len_b
  refine aR [] [0, 1] [] [.ptr false [slPoint false a.Points], .ptr false [slPoint false b.Points]] [] [] hB trivial ?_
  refine aw_seq ?_
  refine aw_seq ?_
  by_cases h1 : (a.Points.length : Int) = (b.Points.length : Int)
  ·have hlen : a.Points.length = b.Points.length := by omega
   refine aw_r [(10, .dec false)] [0, 1, 16] [] [.ptr false [slPoint false a.Points], .ptr false [slPoint false b.Points], Bv false] [] [¬ ((a.Points.length : Int) ≠ (b.Points.length : Int))] hB ⟨(fun hq => hq h1), trivial⟩ ?_
   refine ae_then ?_
   refine aw_false rfl ?_
   refine aw_skip ?_
   refine ae_then ?_
   refine aw_seq ?_
   refine aR [] [0, 1, 5] [] [.ptr false [slPoint false a.Points], .ptr false [slPoint false b.Points], I 0] [] [] hB trivial ?_
   refine aw_block ?_
   refine aw_loop (fun gn gσ => ∃ (i : Int), gn = ((a.Points.length : Int) - i).toNat ∧ (0 ≤ i ∧ i ≤ (a.Points.length : Int)) ∧ (∀ j : Nat, (j : Int) < i → decide (at_ a.Points j = at_ b.Points j) = true) ∧ gσ = mkS [(0, .ptr false [slPoint false a.Points]), (1, .ptr false [slPoint false b.Points]), (5, I i)] []) (((a.Points.length : Int) - 0).toNat) ⟨0, rfl, (by omega), (by intro j hj; omega), rfl⟩ (fun gn gσ hI => ?_)
   obtain ⟨i, rfl, hi0, hall0, rfl⟩ := hI
   refine aw_seq ?_
   refine aw_seq ?_
   by_cases h2 : i < (a.Points.length : Int)
   ·have hi : i.toNat < a.Points.length := by omega
    refine aw_r [(6, .dec true)] [0, 1, 5, 23] [] [.ptr false [slPoint false a.Points], .ptr false [slPoint false b.Points], I i, Bv true] [] [i < (a.Points.length : Int)] hB ⟨h2, trivial⟩ ?_
    refine ae_then ?_
    refine aw_true rfl ?_
    refine aw_skip ?_
    refine ae_then ?_
    refine aw_seq ?_
    refine aw_block ?_
    refine aw_seq ?_
    by_cases h3 : ((at_ a.Points i.toNat).X) = ((at_ b.Points i.toNat).X) ∧ ((at_ a.Points i.toNat).Y) = ((at_ b.Points i.toNat).Y) ∧ ((at_ a.Points i.toNat).T) = ((at_ b.Points i.toNat).T) ∧ True
    ·have hok : decide (at_ a.Points i.toNat = at_ b.Points i.toNat) = true := decide_eq_true (pt_ext h3.1 h3.2.1 h3.2.2.1)
     refine aw_r [(14, .dec false)] [0, 1, 5, 40] [] [.ptr false [slPoint false a.Points], .ptr false [slPoint false b.Points], I i, Bv false] [] [(0 : Int) ≤ i ∧ i < (a.Points.length : Int), (0 : Int) ≤ i ∧ i < (b.Points.length : Int), ¬ (¬ (((at_ a.Points i.toNat).X) = ((at_ b.Points i.toNat).X) ∧ ((at_ a.Points i.toNat).Y) = ((at_ b.Points i.toNat).Y) ∧ ((at_ a.Points i.toNat).T) = ((at_ b.Points i.toNat).T) ∧ True))] hB ⟨⟨(by omega), (by omega)⟩, ⟨(by omega), (by omega)⟩, (fun hq => hq h3), trivial⟩ ?_
     refine ae_then ?_
     refine aw_false rfl ?_
     refine aw_skip ?_
     refine ae_block 1 ?_
     refine ae_then ?_
     refine aw_r [] [0, 1, 5] [] [.ptr false [slPoint false a.Points], .ptr false [slPoint false b.Points], I (i + 1)] [] [inR .i64 (i + 1)] hB ⟨(inR_i64 (by omega) (by omega)), trivial⟩ ?_
     exact ae_again _ (by omega) ⟨(i + 1), rfl, (by omega), (by intro j hj; by_cases ej : j = i.toNat; (subst ej; first | assumption | exact hok); exact hall0 j (by omega)), rfl⟩
    have hall : allN a.Points.length (fun j => decide (at_ a.Points j = at_ b.Points j)) = false := allN_not hi (decide_eq_false (fun e => h3 ⟨by rw [e], by rw [e], by rw [e], trivial⟩))
    refine aw_r [(14, .dec true)] [0, 1, 5, 40] [] [.ptr false [slPoint false a.Points], .ptr false [slPoint false b.Points], I i, Bv true] [] [(0 : Int) ≤ i ∧ i < (a.Points.length : Int), (0 : Int) ≤ i ∧ i < (b.Points.length : Int), ¬ (((at_ a.Points i.toNat).X) = ((at_ b.Points i.toNat).X) ∧ ((at_ a.Points i.toNat).Y) = ((at_ b.Points i.toNat).Y) ∧ ((at_ a.Points i.toNat).T) = ((at_ b.Points i.toNat).T) ∧ True)] hB ⟨⟨(by omega), (by omega)⟩, ⟨(by omega), (by omega)⟩, h3, trivial⟩ ?_
    refine ae_then ?_
    refine aw_true rfl ?_
    refine aR [] [4] [] [Bv false] [] [] hB trivial ?_
    refine aw_ret ?_
    refine ae_ret_block (ae_ret_then (ae_ret_then (ae_ret_block (ae_ret_then ?_))))
    refine ae_ret hB (Bv false) (by kernel_rfl) (.inl (by first | (simp [sameS, sameL, hlen]; done) | (unfold sameS sameL; rw [hall]; simp [hlen]))) rfl (fun _ => trivial)
   have hall : allN a.Points.length (fun j => decide (at_ a.Points j = at_ b.Points j)) = true := allN_at (fun j hj => hall0 j (by omega))
   refine aw_r [(6, .dec false)] [0, 1, 5, 23] [] [.ptr false [slPoint false a.Points], .ptr false [slPoint false b.Points], I i, Bv false] [] [¬ (i < (a.Points.length : Int))] hB ⟨h2, trivial⟩ ?_
   refine ae_then ?_
   refine aw_false rfl ?_
   refine aw_exit ?_
   refine ae_exit_then ?_
   refine ae_exit_then ?_
   refine ae_exit_same ?_
   refine ae_then ?_
   refine aR [] [4] [] [Bv true] [] [] hB trivial ?_
   refine aw_ret ?_
   refine ae_ret hB (Bv true) (by kernel_rfl) (.inl (by first | (simp [sameS, sameL, hlen]; done) | (unfold sameS sameL; rw [hall]; simp [hlen]))) rfl (fun _ => trivial)
  have hlen : ¬ a.Points.length = b.Points.length := by omega
  refine aw_r [(10, .dec true)] [0, 1, 16] [] [.ptr false [slPoint false a.Points], .ptr false [slPoint false b.Points], Bv true] [] [(a.Points.length : Int) ≠ (b.Points.length : Int)] hB ⟨h1, trivial⟩ ?_
  refine ae_then ?_
  refine aw_true rfl ?_
  refine aR [] [4] [] [Bv false] [] [] hB trivial ?_
  refine aw_ret ?_
  refine ae_ret_then ?_
  refine ae_ret hB (Bv false) (by kernel_rfl) (.inl (by first | (simp [sameS, sameL, hlen]; done) | (unfold sameS sameL; rw [hall]; simp [hlen]))) rfl (fun _ => trivial)
theorem l02Same_ok (a : Ink) (b : Ink) : Con Tryz.prog 38 [.ptr false [slStroke false a.Strokes], .ptr false [slStroke false b.Strokes]] true (Bv (sameI a b)) := by
  refine fn_ok (fn := Tryz.f38) (nt := 40) Tryz.func38 rfl rfl rfl rfl (by simp [taggedL, tagged, tagStroke]) fun B hB => ?_
  refine aw_lens (x := .ptr false [slStroke false a.Strokes]) 0 rfl (fun len_a => ?_)
  simp [LenOK, LenL, cPoint, cStroke, fPoint, fStroke, slPoint, slStroke] at len_a
  refine aw_lens (x := .ptr false [slStroke false b.Strokes]) 1 rfl (fun len_b => ?_)
  simp [LenOK, LenL, cPoint, cStroke, fPoint, fStroke, slPoint, slStroke] at len_b
  refine aR [] [0, 1] [] [.ptr false [slStroke false a.Strokes], .ptr false [slStroke false b.Strokes]] [] [] hB trivial ?_
  refine aw_seq ?_
  refine aw_seq ?_
  by_cases h1 : (a.Strokes.length : Int) = (b.Strokes.length : Int)
  ·have hlen : a.Strokes.length = b.Strokes.length := by omega
   refine aw_r [(10, .dec false)] [0, 1, 16] [] [.ptr false [slStroke false a.Strokes], .ptr false [slStroke false b.Strokes], Bv false] [] [¬ ((a.Strokes.length : Int) ≠ (b.Strokes.length : Int))] hB ⟨(fun hq => hq h1), trivial⟩ ?_
   refine ae_then ?_
   refine aw_false rfl ?_
   refine aw_skip ?_
   refine ae_then ?_
   refine aw_seq ?_
   refine aR [] [0, 1, 5] [] [.ptr false [slStroke false a.Strokes], .ptr false [slStroke false b.Strokes], I 0] [] [] hB trivial ?_
   refine aw_block ?_
   refine aw_loop (fun gn gσ => ∃ (i : Int), gn = ((a.Strokes.length : Int) - i).toNat ∧ (0 ≤ i ∧ i ≤ (a.Strokes.length : Int)) ∧ (∀ j : Nat, (j : Int) < i → sameS (at_ a.Strokes j) (at_ b.Strokes j) = true) ∧ gσ = mkS [(0, .ptr false [slStroke false a.Strokes]), (1, .ptr false [slStroke false b.Strokes]), (5, I i)] []) (((a.Strokes.length : Int) - 0).toNat) ⟨0, rfl, (by omega), (by intro j hj; omega), rfl⟩ (fun gn gσ hI => ?_)
   obtain ⟨i, rfl, hi0, hall0, rfl⟩ := hI
   refine aw_seq ?_
   refine aw_seq ?_
   by_cases h2 : i < (a.Strokes.length : Int)
   ·have hi : i.toNat < a.Strokes.length := by omega
    have hi2 : i.toNat < b.Strokes.length := by omega
    refine aw_r [(6, .dec true)] [0, 1, 5, 23] [] [.ptr false [slStroke false a.Strokes], .ptr false [slStroke false b.Strokes], I i, Bv true] [] [i < (a.Strokes.length : Int)] hB ⟨h2, trivial⟩ ?_
    refine ae_then ?_
    refine aw_true rfl ?_
    refine aw_skip ?_
    refine ae_then ?_
    refine aw_seq ?_
    refine aw_block ?_
    refine aw_seq ?_
    rcases Bool.eq_false_or_eq_true (sameS (at_ a.Strokes i.toNat) (at_ b.Strokes i.toNat)) with h3 | h3
    ·have hok : sameS (at_ a.Strokes i.toNat) (at_ b.Strokes i.toNat) = true := h3
     refine aw_r [(12, .call [(true, .any), (true, .any)] true (Bv true))] [0, 1, 5, 39] [] [.ptr false [slStroke false a.Strokes], .ptr false [slStroke false b.Strokes], I i, Bv false] [] [(0 : Int) ≤ i ∧ i < (a.Strokes.length : Int), (0 : Int) ≤ i ∧ i < (b.Strokes.length : Int), Con Tryz.prog 86 [.ptr false [slPoint false ((at_ a.Strokes i.toNat).Points)], .ptr false [slPoint false ((at_ b.Strokes i.toNat).Points)]] true (Bv true) ∧ True] hB ⟨⟨(by omega), (by omega)⟩, ⟨(by omega), (by omega)⟩, ⟨(con_bool h3 (l02SameStroke_ok (at_ a.Strokes i.toNat) (at_ b.Strokes i.toNat))), trivial⟩, trivial⟩ ?_
     refine ae_then ?_
     refine aw_false rfl ?_
     refine aw_skip ?_
     refine ae_block 1 ?_
     refine ae_then ?_
     refine aw_r [] [0, 1, 5] [] [.ptr false [slStroke false a.Strokes], .ptr false [slStroke false b.Strokes], I (i + 1)] [] [inR .i64 (i + 1)] hB ⟨(inR_i64 (by omega) (by omega)), trivial⟩ ?_
     exact ae_again _ (by omega) ⟨(i + 1), rfl, (by omega), (by intro j hj; by_cases ej : j = i.toNat; (subst ej; first | assumption | exact hok); exact hall0 j (by omega)), rfl⟩
    have hall : allN a.Strokes.length (fun j => sameS (at_ a.Strokes j) (at_ b.Strokes j)) = false := allN_not hi (by simpa using h3)
    refine aw_r [(12, .call [(true, .any), (true, .any)] true (Bv false))] [0, 1, 5, 39] [] [.ptr false [slStroke false a.Strokes], .ptr false [slStroke false b.Strokes], I i, Bv true] [] [(0 : Int) ≤ i ∧ i < (a.Strokes.length : Int), (0 : Int) ≤ i ∧ i < (b.Strokes.length : Int), Con Tryz.prog 86 [.ptr false [slPoint false ((at_ a.Strokes i.toNat).Points)], .ptr false [slPoint false ((at_ b.Strokes i.toNat).Points)]] true (Bv false) ∧ True] hB ⟨⟨(by omega), (by omega)⟩, ⟨(by omega), (by omega)⟩, ⟨(con_bool h3 (l02SameStroke_ok (at_ a.Strokes i.toNat) (at_ b.Strokes i.toNat))), trivial⟩, trivial⟩ ?_
    refine ae_then ?_
    refine aw_true rfl ?_
    refine aR [] [4] [] [Bv false] [] [] hB trivial ?_
    refine aw_ret ?_
    refine ae_ret_block (ae_ret_then (ae_ret_then (ae_ret_block (ae_ret_then ?_))))
    refine ae_ret hB (Bv false) (by kernel_rfl) (.inl (by first | (simp [sameI, hlen]; done) | (unfold sameI; rw [hall]; simp [hlen]))) rfl (fun _ => trivial)
   have hall : allN a.Strokes.length (fun j => sameS (at_ a.Strokes j) (at_ b.Strokes j)) = true := allN_at (fun j hj => hall0 j (by omega))
   refine aw_r [(6, .dec false)] [0, 1, 5, 23] [] [.ptr false [slStroke false a.Strokes], .ptr false [slStroke false b.Strokes], I i, Bv false] [] [¬ (i < (a.Strokes.length : Int))] hB ⟨h2, trivial⟩ ?_
   refine ae_then ?_
   refine aw_false rfl ?_
   refine aw_exit ?_
   refine ae_exit_then ?_
   refine ae_exit_then ?_
   refine ae_exit_same ?_
   refine ae_then ?_
   refine aR [] [4] [] [Bv true] [] [] hB trivial ?_
   refine aw_ret ?_
   refine ae_ret hB (Bv true) (by kernel_rfl) (.inl (by first | (simp [sameI, hlen]; done) | (unfold sameI; rw [hall]; simp [hlen]))) rfl (fun _ => trivial)
  have hlen : ¬ a.Strokes.length = b.Strokes.length := by omega
  refine aw_r [(10, .dec true)] [0, 1, 16] [] [.ptr false [slStroke false a.Strokes], .ptr false [slStroke false b.Strokes], Bv true] [] [(a.Strokes.length : Int) ≠ (b.Strokes.length : Int)] hB ⟨h1, trivial⟩ ?_
  refine ae_then ?_
  refine aw_true rfl ?_
  refine aR [] [4] [] [Bv false] [] [] hB trivial ?_
  refine aw_ret ?_
  refine ae_ret_then ?_
  refine ae_ret hB (Bv false) (by kernel_rfl) (.inl (by first | (simp [sameI, hlen]; done) | (unfold sameI; rw [hall]; simp [hlen]))) rfl (fun _ => trivial)
theorem specSameInk_ok (a : Ink) (b : Ink) : Con Tryz.prog 11 [.agg [slStroke false a.Strokes], .agg [slStroke false b.Strokes]] true (Bv (sameI a b)) := by
  refine fn_ok (fn := Tryz.f11) (nt := 6) Tryz.func11 rfl rfl rfl rfl (by simp [taggedL, tagged, tagStroke]) fun B hB => ?_
  refine aw_lens (x := .agg [slStroke false a.Strokes]) 0 rfl (fun len_a => ?_)
  simp [LenOK, LenL, cPoint, cStroke, fPoint, fStroke, slPoint, slStroke] at len_a
  refine aw_lens (x := .agg [slStroke false b.Strokes]) 1 rfl (fun len_b => ?_)
  simp [LenOK, LenL, cPoint, cStroke, fPoint, fStroke, slPoint, slStroke] at len_b
  refine aR [(0, .new 2), (1, .new 3)] [2, 3] [2, 3] [.ref 2 0, .ref 3 0] [some (.box [slStroke false a.Strokes]), some (.box [slStroke false b.Strokes])] [] hB trivial ?_
  refine aR [(0, .call [(false, .ptr false [slStroke false a.Strokes]), (false, .ptr false [slStroke false b.Strokes])] true (Bv (sameI a b)))] [4] [] [Bv (sameI a b)] [] [Con Tryz.prog 38 [.ptr false [slStroke false a.Strokes], .ptr false [slStroke false b.Strokes]] true (Bv (sameI a b)) ∧ ((false = true → true = true) ∧ AV.idsL [slStroke false a.Strokes] = [] ∧ ((false = true → false = true) ∧ 1 = 1 ∧ a.Strokes.length = a.Strokes.length ∧ ∀ i_, i_ < a.Strokes.length → (fStroke false a.Strokes) i_ = (fStroke false a.Strokes) i_ ∨ (AV.idsL ((fStroke false a.Strokes) i_) = [] ∧ leL (fun _ => none) false ((fStroke false a.Strokes) i_) ((fStroke false a.Strokes) i_))) ∧ ([] : List AV) = []) ∧ ((false = true → true = true) ∧ AV.idsL [slStroke false b.Strokes] = [] ∧ ((false = true → false = true) ∧ 1 = 1 ∧ b.Strokes.length = b.Strokes.length ∧ ∀ i_, i_ < b.Strokes.length → (fStroke false b.Strokes) i_ = (fStroke false b.Strokes) i_ ∨ (AV.idsL ((fStroke false b.Strokes) i_) = [] ∧ leL (fun _ => none) false ((fStroke false b.Strokes) i_) ((fStroke false b.Strokes) i_))) ∧ ([] : List AV) = []) ∧ True] hB ⟨⟨(l02Same_ok a b), ⟨(fun h => by cases h), rfl, ⟨⟨(fun h => by cases h), rfl, rfl, fun i _ => .inl rfl⟩, rfl⟩⟩, ⟨(fun h => by cases h), rfl, ⟨⟨(fun h => by cases h), rfl, rfl, fun i _ => .inl rfl⟩, rfl⟩⟩, trivial⟩, trivial⟩ ?_
  refine aw_ret ?_
  refine ae_ret hB (Bv (sameI a b)) (by kernel_rfl) (.inl rfl) rfl (fun _ => trivial)
theorem l01Small_ok (c : Int) : Con Tryz.prog 125 [.val (.int .u8 c)] true (Bv (inB c 97 122)) := by
  refine fn_ok (fn := Tryz.f125) (nt := 9) Tryz.func125 rfl rfl rfl rfl (by simp [taggedL, tagged]) fun B hB => ?_
  refine aR [] [0] [] [.val (.int .u8 c)] [] [] hB trivial ?_
  refine aw_seq ?_
  by_cases h1 : 97 ≤ c
  ·refine aw_r [(1, .dec true)] [2] [] [Bv (decide (c ≤ 122))] [] [97 ≤ c] hB ⟨h1, trivial⟩ ?_
   refine ae_then ?_
   refine aw_ret ?_
   refine ae_ret hB (Bv (decide (c ≤ 122))) (by kernel_rfl) (.inl (by first | rfl | (refine congrArg Bv ?_; simp [inB, *]; done) | (refine congrArg Bv ?_; simp [inB, *]; omega) | (refine congrArg Bv ?_; simp_all [inB]; done) | (refine congrArg Bv ?_; simp_all [inB]; omega))) rfl (fun _ => trivial)
  refine aw_r [(1, .dec false)] [2] [] [Bv false] [] [¬ (97 ≤ c)] hB ⟨h1, trivial⟩ ?_
  refine ae_then ?_
  refine aw_ret ?_
  refine ae_ret hB (Bv false) (by kernel_rfl) (.inl (by first | rfl | (refine congrArg Bv ?_; simp [inB, *]; done) | (refine congrArg Bv ?_; simp [inB, *]; omega) | (refine congrArg Bv ?_; simp_all [inB]; done) | (refine congrArg Bv ?_; simp_all [inB]; omega))) rfl (fun _ => trivial)
theorem l01Digit_ok (c : Int) : Con Tryz.prog 126 [.val (.int .u8 c)] true (Bv (inB c 48 57)) := by
  refine fn_ok (fn := Tryz.f126) (nt := 9) Tryz.func126 rfl rfl rfl rfl (by simp [taggedL, tagged]) fun B hB => ?_
  refine aR [] [0] [] [.val (.int .u8 c)] [] [] hB trivial ?_
  refine aw_seq ?_
  by_cases h1 : 48 ≤ c
  ·refine aw_r [(1, .dec true)] [2] [] [Bv (decide (c ≤ 57))] [] [48 ≤ c] hB ⟨h1, trivial⟩ ?_
   refine ae_then ?_
   refine aw_ret ?_
   refine ae_ret hB (Bv (decide (c ≤ 57))) (by kernel_rfl) (.inl (by first | rfl | (refine congrArg Bv ?_; simp [inB, *]; done) | (refine congrArg Bv ?_; simp [inB, *]; omega) | (refine congrArg Bv ?_; simp_all [inB]; done) | (refine congrArg Bv ?_; simp_all [inB]; omega))) rfl (fun _ => trivial)
  refine aw_r [(1, .dec false)] [2] [] [Bv false] [] [¬ (48 ≤ c)] hB ⟨h1, trivial⟩ ?_
  refine ae_then ?_
  refine aw_ret ?_
  refine ae_ret hB (Bv false) (by kernel_rfl) (.inl (by first | rfl | (refine congrArg Bv ?_; simp [inB, *]; done) | (refine congrArg Bv ?_; simp [inB, *]; omega) | (refine congrArg Bv ?_; simp_all [inB]; done) | (refine congrArg Bv ?_; simp_all [inB]; omega))) rfl (fun _ => trivial)
theorem specIsName_ok (s : ByteArray) (hn : okName s) : Con Tryz.prog 92 [Sv s] true (Bv true) := by
  have hz := hn.1
  refine fn_ok (fn := Tryz.f92) (nt := 41) Tryz.func92 rfl rfl rfl rfl (by simp [taggedL, tagged]) fun B hB => ?_
  refine aR [] [0] [] [Sv s] [] [] hB trivial ?_
  refine aw_seq ?_
  refine aw_seq ?_
  by_cases h1 : 12 < (s.size : Int)
  ·refine aw_r [(1, .dec false), (5, .dec true)] [0, 16] [] [Sv s, Bv true] [] [¬ (s = (⟨#[]⟩ : ByteArray)), 12 < (s.size : Int)] hB ⟨(fun q_ => by rw [q_] at hz; exact absurd hz (by decide)), h1, trivial⟩ ?_
   refine ae_then ?_
   refine aw_true rfl ?_
   refine aR [] [2] [] [Bv false] [] [] hB trivial ?_
   refine aw_ret ?_
   refine ae_ret_then ?_
   refine ae_ret hB (Bv false) (by kernel_rfl) (.inl (by first | rfl | (exfalso; omega) | (exfalso; rcases hel2 with q | q | q <;> (simp_all; done)) | (exfalso; rcases hel with q | q | q <;> first | omega | (simp_all; done) | (simp_all; omega)) | (refine congrArg Bv ?_; simp [*]; done))) rfl (fun _ => trivial)
  refine aw_r [(1, .dec false), (5, .dec false), (10, .call [(true, .any)] true (Bv true))] [0, 16] [] [Sv s, Bv false] [] [¬ (s = (⟨#[]⟩ : ByteArray)), ¬ (12 < (s.size : Int)), (0 : Int) ≤ 0 ∧ 0 < (s.size : Int), Con Tryz.prog 125 [.val (.int .u8 (bAt s 0))] true (Bv true) ∧ True] hB ⟨(fun q_ => by rw [q_] at hz; exact absurd hz (by decide)), h1, ⟨(by omega), (by omega)⟩, ⟨(con_bool hn.2.1 (l01Small_ok (bAt s 0))), trivial⟩, trivial⟩ ?_
  refine ae_then ?_
  refine aw_false rfl ?_
  refine aw_skip ?_
  refine ae_then ?_
  refine aw_seq ?_
  refine aR [] [0, 3] [] [Sv s, I 0] [] [] hB trivial ?_
  refine aw_block ?_
  refine aw_loop (fun gn gσ => ∃ (i : Int), gn = ((s.size : Int) - i).toNat ∧ (0 ≤ i ∧ i ≤ (s.size : Int)) ∧ gσ = mkS [(0, Sv s), (3, I i)] []) (((s.size : Int) - 0).toNat) ⟨0, rfl, (by omega), rfl⟩ (fun gn gσ hI => ?_)
  obtain ⟨i, rfl, hi0, rfl⟩ := hI
  refine aw_seq ?_
  refine aw_seq ?_
  by_cases h2 : i < (s.size : Int)
  ·have hi : i.toNat < s.size := by omega
   have hel := chr_or (hn.2.2 _ hi)
   have hel2 := chr_or2 (hn.2.2 _ hi)
   refine aw_r [(3, .dec true)] [0, 3, 20] [] [Sv s, I i, Bv true] [] [i < (s.size : Int)] hB ⟨h2, trivial⟩ ?_
   refine ae_then ?_
   refine aw_true rfl ?_
   refine aw_skip ?_
   refine ae_then ?_
   refine aw_seq ?_
   refine aw_block ?_
   refine aw_seq ?_
   rcases Bool.eq_false_or_eq_true (inB (bAt s i.toNat) 97 122) with h3 | h3
   ·refine aw_r [(3, .call [(true, .any)] true (Bv true))] [0, 3, 40] [] [Sv s, I i, Bv false] [] [(0 : Int) ≤ i ∧ i < (s.size : Int), Con Tryz.prog 125 [.val (.int .u8 (bAt s i.toNat))] true (Bv true) ∧ True] hB ⟨⟨(by omega), (by omega)⟩, ⟨(con_bool h3 (l01Small_ok (bAt s i.toNat))), trivial⟩, trivial⟩ ?_
    refine ae_then ?_
    refine aw_false rfl ?_
    refine aw_skip ?_
    refine ae_block 1 ?_
    refine ae_then ?_
    refine aw_r [] [0, 3] [] [Sv s, I (i + 1)] [] [inR .i64 (i + 1)] hB ⟨(inR_i64 (by omega) (by omega)), trivial⟩ ?_
    exact ae_again _ (by omega) ⟨(i + 1), rfl, (by omega), rfl⟩
   rcases Bool.eq_false_or_eq_true (inB (bAt s i.toNat) 48 57) with h4 | h4
   ·refine aw_r [(3, .call [(true, .any)] true (Bv false)), (9, .call [(true, .any)] true (Bv true))] [0, 3, 40] [] [Sv s, I i, Bv false] [] [(0 : Int) ≤ i ∧ i < (s.size : Int), Con Tryz.prog 125 [.val (.int .u8 (bAt s i.toNat))] true (Bv false) ∧ True, (0 : Int) ≤ i ∧ i < (s.size : Int), Con Tryz.prog 126 [.val (.int .u8 (bAt s i.toNat))] true (Bv true) ∧ True] hB ⟨⟨(by omega), (by omega)⟩, ⟨(con_bool h3 (l01Small_ok (bAt s i.toNat))), trivial⟩, ⟨(by omega), (by omega)⟩, ⟨(con_bool h4 (l01Digit_ok (bAt s i.toNat))), trivial⟩, trivial⟩ ?_
    refine ae_then ?_
    refine aw_false rfl ?_
    refine aw_skip ?_
    refine ae_block 1 ?_
    refine ae_then ?_
    refine aw_r [] [0, 3] [] [Sv s, I (i + 1)] [] [inR .i64 (i + 1)] hB ⟨(inR_i64 (by omega) (by omega)), trivial⟩ ?_
    exact ae_again _ (by omega) ⟨(i + 1), rfl, (by omega), rfl⟩
   by_cases h5 : (bAt s i.toNat) = 45
   ·refine aw_r [(3, .call [(true, .any)] true (Bv false)), (9, .call [(true, .any)] true (Bv false)), (16, .dec false)] [0, 3, 40] [] [Sv s, I i, Bv false] [] [(0 : Int) ≤ i ∧ i < (s.size : Int), Con Tryz.prog 125 [.val (.int .u8 (bAt s i.toNat))] true (Bv false) ∧ True, (0 : Int) ≤ i ∧ i < (s.size : Int), Con Tryz.prog 126 [.val (.int .u8 (bAt s i.toNat))] true (Bv false) ∧ True, (0 : Int) ≤ i ∧ i < (s.size : Int), ¬ ((bAt s i.toNat) ≠ 45)] hB ⟨⟨(by omega), (by omega)⟩, ⟨(con_bool h3 (l01Small_ok (bAt s i.toNat))), trivial⟩, ⟨(by omega), (by omega)⟩, ⟨(con_bool h4 (l01Digit_ok (bAt s i.toNat))), trivial⟩, ⟨(by omega), (by omega)⟩, (fun hq => hq h5), trivial⟩ ?_
    refine ae_then ?_
    refine aw_false rfl ?_
    refine aw_skip ?_
    refine ae_block 1 ?_
    refine ae_then ?_
    refine aw_r [] [0, 3] [] [Sv s, I (i + 1)] [] [inR .i64 (i + 1)] hB ⟨(inR_i64 (by omega) (by omega)), trivial⟩ ?_
    exact ae_again _ (by omega) ⟨(i + 1), rfl, (by omega), rfl⟩
   refine aw_r [(3, .call [(true, .any)] true (Bv false)), (9, .call [(true, .any)] true (Bv false)), (16, .dec true)] [0, 3, 40] [] [Sv s, I i, Bv true] [] [(0 : Int) ≤ i ∧ i < (s.size : Int), Con Tryz.prog 125 [.val (.int .u8 (bAt s i.toNat))] true (Bv false) ∧ True, (0 : Int) ≤ i ∧ i < (s.size : Int), Con Tryz.prog 126 [.val (.int .u8 (bAt s i.toNat))] true (Bv false) ∧ True, (0 : Int) ≤ i ∧ i < (s.size : Int), (bAt s i.toNat) ≠ 45] hB ⟨⟨(by omega), (by omega)⟩, ⟨(con_bool h3 (l01Small_ok (bAt s i.toNat))), trivial⟩, ⟨(by omega), (by omega)⟩, ⟨(con_bool h4 (l01Digit_ok (bAt s i.toNat))), trivial⟩, ⟨(by omega), (by omega)⟩, h5, trivial⟩ ?_
   refine ae_then ?_
   refine aw_true rfl ?_
   refine aR [] [2] [] [Bv false] [] [] hB trivial ?_
   refine aw_ret ?_
   refine ae_ret_block (ae_ret_then (ae_ret_then (ae_ret_block (ae_ret_then ?_))))
   refine ae_ret hB (Bv false) (by kernel_rfl) (.inl (by first | rfl | (exfalso; omega) | (exfalso; rcases hel2 with q | q | q <;> (simp_all; done)) | (exfalso; rcases hel with q | q | q <;> first | omega | (simp_all; done) | (simp_all; omega)) | (refine congrArg Bv ?_; simp [*]; done))) rfl (fun _ => trivial)
  refine aw_r [(3, .dec false)] [0, 3, 20] [] [Sv s, I i, Bv false] [] [¬ (i < (s.size : Int))] hB ⟨h2, trivial⟩ ?_
  refine ae_then ?_
  refine aw_false rfl ?_
  refine aw_exit ?_
  refine ae_exit_then ?_
  refine ae_exit_then ?_
  refine ae_exit_same ?_
  refine ae_then ?_
  refine aR [] [2] [] [Bv true] [] [] hB trivial ?_
  refine aw_ret ?_
  refine ae_ret hB (Bv true) (by kernel_rfl) (.inl rfl) rfl (fun _ => trivial)
theorem l03Value_ok (n : Int) : Con Tryz.prog 124 [I n] true (Bv (inB n (-1000000000) 1000000000)) := by
  refine fn_ok (fn := Tryz.f124) (nt := 5) Tryz.func124 rfl rfl rfl rfl (by simp [taggedL, tagged]) fun B hB => ?_
  refine aR [] [0] [] [I n] [] [] hB trivial ?_
  refine aR [(1, .call [(true, .any), (true, .any), (true, .any)] true (Bv (inB n (-1000000000) 1000000000)))] [2] [] [Bv (inB n (-1000000000) 1000000000)] [] [Con Tryz.prog 90 [I n, I (-1000000000), I 1000000000] true (Bv (inB n (-1000000000) 1000000000)) ∧ True] hB ⟨⟨(l00In_ok n (-1000000000) 1000000000), trivial⟩, trivial⟩ ?_
  refine aw_ret ?_
  refine ae_ret hB (Bv (inB n (-1000000000) 1000000000)) (by kernel_rfl) (.inl rfl) rfl (fun _ => trivial)
theorem l03Channel_ok (c : Channel) (hc : okChan c) : Con Tryz.prog 87 [.ptr false [Sv c.Name, Sv c.Unit, I c.Low, I c.High]] true (Bv true) := by
  have hb := hc.2.2
  refine fn_ok (fn := Tryz.f87) (nt := 40) Tryz.func87 rfl rfl rfl rfl (by simp [taggedL, tagged]) fun B hB => ?_
  refine aR [] [0] [] [.ptr false [Sv c.Name, Sv c.Unit, I c.Low, I c.High]] [] [] hB trivial ?_
  refine aR [(4, .call [(true, .any)] true (Bv true)), (10, .call [(true, .any)] true (Bv true)), (17, .call [(true, .any)] true (Bv true)), (24, .call [(true, .any)] true (Bv true))] [2] [] [Bv (decide (c.Low < c.High))] [] [Con Tryz.prog 92 [Sv c.Name] true (Bv true) ∧ True, Con Tryz.prog 92 [Sv c.Unit] true (Bv true) ∧ True, Con Tryz.prog 124 [I c.Low] true (Bv true) ∧ True, Con Tryz.prog 124 [I c.High] true (Bv true) ∧ True] hB ⟨⟨(specIsName_ok c.Name hc.1), trivial⟩, ⟨(specIsName_ok c.Unit hc.2.1), trivial⟩, ⟨(con_bool (inB_iff.2 (by omega)) (l03Value_ok c.Low)), trivial⟩, ⟨(con_bool (inB_iff.2 (by omega)) (l03Value_ok c.High)), trivial⟩, trivial⟩ ?_
  refine aw_ret ?_
  refine ae_ret hB (Bv (decide (c.Low < c.High))) (by kernel_rfl) (.inl (by first | rfl | (refine congrArg Bv ?_; exact decide_eq_true (by omega)))) rfl (fun _ => trivial)
theorem l03Find_ok (f : File) (name : ByteArray) : Con Tryz.prog 88 [.ptr false [slChannel false f.Channels, slRows false f.Strokes, slNote false f.Notes], Sv name] true (I (idxC f.Channels name)) := by
  refine fn_ok (fn := Tryz.f88) (nt := 26) Tryz.func88 rfl rfl rfl rfl (by simp [taggedL, tagged, tagChannel, tagNote, tagRows]) fun B hB => ?_
  refine aw_lens (x := .ptr false [slChannel false f.Channels, slRows false f.Strokes, slNote false f.Notes]) 0 rfl (fun len_f => ?_)
  simp [LenOK, LenL, cChannel, cI, cLI, cNote, cRows, fChannel, fI, fLI, fNote, fRows, slChannel, slI, slLI, slNote, slRows] at len_f
  refine aR [] [0, 1] [] [.ptr false [slChannel false f.Channels, slRows false f.Strokes, slNote false f.Notes], Sv name] [] [] hB trivial ?_
  refine aw_seq ?_
  refine aR [] [0, 1, 5] [] [.ptr false [slChannel false f.Channels, slRows false f.Strokes, slNote false f.Notes], Sv name, I 0] [] [] hB trivial ?_
  refine aw_block ?_
  refine aw_loop (fun gn gσ => ∃ (i : Int), gn = ((f.Channels.length : Int) - i).toNat ∧ (0 ≤ i ∧ i ≤ (f.Channels.length : Int)) ∧ (∀ j : Nat, (j : Int) < i → decide ((at_ f.Channels j).Name = name) = false) ∧ gσ = mkS [(0, .ptr false [slChannel false f.Channels, slRows false f.Strokes, slNote false f.Notes]), (1, Sv name), (5, I i)] []) (((f.Channels.length : Int) - 0).toNat) ⟨0, rfl, (by omega), (by intro j hj; omega), rfl⟩ (fun gn gσ hI => ?_)
  obtain ⟨i, rfl, hi0, hall0, rfl⟩ := hI
  refine aw_seq ?_
  refine aw_seq ?_
  by_cases h1 : i < (f.Channels.length : Int)
  ·have hi : i.toNat < f.Channels.length := by omega
   refine aw_r [(6, .dec true)] [0, 1, 5, 12] [] [.ptr false [slChannel false f.Channels, slRows false f.Strokes, slNote false f.Notes], Sv name, I i, Bv true] [] [i < (f.Channels.length : Int)] hB ⟨h1, trivial⟩ ?_
   refine ae_then ?_
   refine aw_true rfl ?_
   refine aw_skip ?_
   refine ae_then ?_
   refine aw_seq ?_
   refine aw_block ?_
   refine aw_seq ?_
   by_cases h2 : ((at_ f.Channels i.toNat).Name) = name
   ·have hfin : idxC f.Channels name = i.toNat := firstN_hit hi (decide_eq_true h2) (fun j hj => hall0 j (by omega))
    refine aw_r [(9, .dec true)] [0, 1, 5, 24] [] [.ptr false [slChannel false f.Channels, slRows false f.Strokes, slNote false f.Notes], Sv name, I i, Bv true] [] [(0 : Int) ≤ i ∧ i < (f.Channels.length : Int), ((at_ f.Channels i.toNat).Name) = name] hB ⟨⟨(by omega), (by omega)⟩, h2, trivial⟩ ?_
    refine ae_then ?_
    refine aw_true rfl ?_
    refine aR [] [4] [] [I i] [] [] hB trivial ?_
    refine aw_ret ?_
    refine ae_ret_block (ae_ret_then (ae_ret_then (ae_ret_block (ae_ret_then ?_))))
    refine ae_ret hB (I i) (by kernel_rfl) (.inl (by refine congrArg I ?_; first | (rw [hfin]; done) | (rw [hfin]; omega))) rfl (fun _ => trivial)
   refine aw_r [(9, .dec false)] [0, 1, 5, 24] [] [.ptr false [slChannel false f.Channels, slRows false f.Strokes, slNote false f.Notes], Sv name, I i, Bv false] [] [(0 : Int) ≤ i ∧ i < (f.Channels.length : Int), ¬ (((at_ f.Channels i.toNat).Name) = name)] hB ⟨⟨(by omega), (by omega)⟩, h2, trivial⟩ ?_
   refine ae_then ?_
   refine aw_false rfl ?_
   refine aw_skip ?_
   refine ae_block 1 ?_
   refine ae_then ?_
   refine aw_r [] [0, 1, 5] [] [.ptr false [slChannel false f.Channels, slRows false f.Strokes, slNote false f.Notes], Sv name, I (i + 1)] [] [inR .i64 (i + 1)] hB ⟨(inR_i64 (by omega) (by omega)), trivial⟩ ?_
   exact ae_again _ (by omega) ⟨(i + 1), rfl, (by omega), (by intro j hj; by_cases ej : j = i.toNat; (subst ej; exact decide_eq_false (by assumption)); exact hall0 j (by omega)), rfl⟩
  have hfin : idxC f.Channels name = -1 := firstN_none (fun j hj => hall0 j (by omega))
  refine aw_r [(6, .dec false)] [0, 1, 5, 12] [] [.ptr false [slChannel false f.Channels, slRows false f.Strokes, slNote false f.Notes], Sv name, I i, Bv false] [] [¬ (i < (f.Channels.length : Int))] hB ⟨h1, trivial⟩ ?_
  refine ae_then ?_
  refine aw_false rfl ?_
  refine aw_exit ?_
  refine ae_exit_then ?_
  refine ae_exit_then ?_
  refine ae_exit_same ?_
  refine ae_then ?_
  refine aR [] [4] [] [I (-1)] [] [] hB trivial ?_
  refine aw_ret ?_
  refine ae_ret hB (I (-1)) (by kernel_rfl) (.inl (by refine congrArg I ?_; first | (rw [hfin]; done) | (rw [hfin]; omega))) rfl (fun _ => trivial)
theorem l03Row_ok (f : File) (row : List Int) (hr : okRw f.Channels row) (h6 : f.Channels.length ≤ 6) : Con Tryz.prog 89 [.ptr false [slChannel false f.Channels, slRows false f.Strokes, slNote false f.Notes], slI false row] true (Bv true) := by
  have hrl := hr.1
  refine fn_ok (fn := Tryz.f89) (nt := 42) Tryz.func89 rfl rfl rfl rfl (by simp [taggedL, tagged, tagChannel, tagI, tagNote, tagRows]) fun B hB => ?_
  refine aw_lens (x := .ptr false [slChannel false f.Channels, slRows false f.Strokes, slNote false f.Notes]) 0 rfl (fun len_f => ?_)
  simp [LenOK, LenL, cChannel, cI, cLI, cNote, cRows, fChannel, fI, fLI, fNote, fRows, slChannel, slI, slLI, slNote, slRows] at len_f
  refine aw_lens (x := slI false row) 1 rfl (fun len_row => ?_)
  simp [LenOK, LenL, cI, fI, slI] at len_row
  refine aR [] [0, 1] [] [.ptr false [slChannel false f.Channels, slRows false f.Strokes, slNote false f.Notes], slI false row] [] [] hB trivial ?_
  refine aw_seq ?_
  refine aR [(7, .dec false)] [0, 1, 13] [] [.ptr false [slChannel false f.Channels, slRows false f.Strokes, slNote false f.Notes], slI false row, Bv false] [] [¬ ((row.length : Int) ≠ (f.Channels.length : Int))] hB ⟨(fun hq => hq (by omega)), trivial⟩ ?_
  refine aw_false rfl ?_
  refine aw_skip ?_
  refine ae_then ?_
  refine aw_seq ?_
  refine aR [] [0, 1, 5] [] [.ptr false [slChannel false f.Channels, slRows false f.Strokes, slNote false f.Notes], slI false row, I 0] [] [] hB trivial ?_
  refine aw_block ?_
  refine aw_loop (fun gn gσ => ∃ (k : Int), gn = ((row.length : Int) - k).toNat ∧ (0 ≤ k ∧ k ≤ (row.length : Int)) ∧ gσ = mkS [(0, .ptr false [slChannel false f.Channels, slRows false f.Strokes, slNote false f.Notes]), (1, slI false row), (5, I k)] []) (((row.length : Int) - 0).toNat) ⟨0, rfl, (by omega), rfl⟩ (fun gn gσ hI => ?_)
  obtain ⟨k, rfl, hi0, rfl⟩ := hI
  refine aw_seq ?_
  refine aw_seq ?_
  by_cases h1 : k < (row.length : Int)
  ·have hk : k.toNat < f.Channels.length := by omega
   have hbd := hr.2 _ hk
   refine aw_r [(3, .dec true)] [0, 1, 5, 17] [] [.ptr false [slChannel false f.Channels, slRows false f.Strokes, slNote false f.Notes], slI false row, I k, Bv true] [] [k < (row.length : Int)] hB ⟨h1, trivial⟩ ?_
   refine ae_then ?_
   refine aw_true rfl ?_
   refine aw_skip ?_
   refine ae_then ?_
   refine aw_seq ?_
   refine aw_block ?_
   refine aR [(20, .call [(true, .any), (true, .any), (true, .any)] true (Bv true))] [0, 1, 5, 41] [] [.ptr false [slChannel false f.Channels, slRows false f.Strokes, slNote false f.Notes], slI false row, I k, Bv false] [] [(0 : Int) ≤ k ∧ k < (row.length : Int), (0 : Int) ≤ k ∧ k < (f.Channels.length : Int), (0 : Int) ≤ k ∧ k < (f.Channels.length : Int), Con Tryz.prog 90 [I (at_ row k.toNat), I ((at_ f.Channels k.toNat).Low), I ((at_ f.Channels k.toNat).High)] true (Bv true) ∧ True] hB ⟨⟨(by omega), (by omega)⟩, ⟨(by omega), (by omega)⟩, ⟨(by omega), (by omega)⟩, ⟨(con_bool (inB_iff.2 hbd) (l00In_ok (at_ row k.toNat) ((at_ f.Channels k.toNat).Low) ((at_ f.Channels k.toNat).High))), trivial⟩, trivial⟩ ?_
   refine aw_false rfl ?_
   refine aw_skip ?_
   refine ae_block 1 ?_
   refine ae_then ?_
   refine aw_r [] [0, 1, 5] [] [.ptr false [slChannel false f.Channels, slRows false f.Strokes, slNote false f.Notes], slI false row, I (k + 1)] [] [inR .i64 (k + 1)] hB ⟨(inR_i64 (by omega) (by omega)), trivial⟩ ?_
   exact ae_again _ (by omega) ⟨(k + 1), rfl, (by omega), rfl⟩
  refine aw_r [(3, .dec false)] [0, 1, 5, 17] [] [.ptr false [slChannel false f.Channels, slRows false f.Strokes, slNote false f.Notes], slI false row, I k, Bv false] [] [¬ (k < (row.length : Int))] hB ⟨h1, trivial⟩ ?_
  refine ae_then ?_
  refine aw_false rfl ?_
  refine aw_exit ?_
  refine ae_exit_then ?_
  refine ae_exit_then ?_
  refine ae_exit_same ?_
  refine ae_then ?_
  refine aR [] [4] [] [Bv true] [] [] hB trivial ?_
  refine aw_ret ?_
  refine ae_ret hB (Bv true) (by kernel_rfl) (.inl rfl) rfl (fun _ => trivial)
theorem l03Place_ok (f : File) (n : Note) (hn : 0 ≤ n.From ∧ n.From < n.To ∧ n.To ≤ (f.Strokes.length : Int)) : Con Tryz.prog 91 [.ptr false [slChannel false f.Channels, slRows false f.Strokes, slNote false f.Notes], .ptr false [I n.From, I n.To, Sv n.Text]] true (Bv true) := by
  refine fn_ok (fn := Tryz.f91) (nt := 33) Tryz.func91 rfl rfl rfl rfl (by simp [taggedL, tagged, tagChannel, tagNote, tagRows]) fun B hB => ?_
  refine aw_lens (x := .ptr false [slChannel false f.Channels, slRows false f.Strokes, slNote false f.Notes]) 0 rfl (fun len_f => ?_)
  simp [LenOK, LenL, cChannel, cI, cLI, cNote, cRows, fChannel, fI, fLI, fNote, fRows, slChannel, slI, slLI, slNote, slRows] at len_f
  refine aR [] [0, 1] [] [.ptr false [slChannel false f.Channels, slRows false f.Strokes, slNote false f.Notes], .ptr false [I n.From, I n.To, Sv n.Text]] [] [] hB trivial ?_
  refine aR [(4, .dec true), (14, .dec true), (26, .dec true)] [4] [] [Bv true] [] [0 ≤ n.From, n.From < n.To, n.To ≤ (f.Strokes.length : Int)] hB ⟨(by omega), (by omega), (by omega), trivial⟩ ?_
  refine aw_ret ?_
  refine ae_ret hB (Bv true) (by kernel_rfl) (.inl rfl) rfl (fun _ => trivial)
theorem l03Ok_ok (f : File) (hf : okFil f) : Con Tryz.prog 39 [.ptr false [slChannel false f.Channels, slRows false f.Strokes, slNote false f.Notes]] true (Bv true) := by
  have hf1 := hf.1
  refine fn_ok (fn := Tryz.f39) (nt := 125) Tryz.func39 rfl rfl rfl rfl (by simp [taggedL, tagged, tagChannel, tagNote, tagRows]) fun B hB => ?_
  refine aw_lens (x := .ptr false [slChannel false f.Channels, slRows false f.Strokes, slNote false f.Notes]) 0 rfl (fun len_f => ?_)
  simp [LenOK, LenL, cChannel, cI, cLI, cNote, cRows, fChannel, fI, fLI, fNote, fRows, slChannel, slI, slLI, slNote, slRows] at len_f
  refine aR [] [0] [] [.ptr false [slChannel false f.Channels, slRows false f.Strokes, slNote false f.Notes]] [] [] hB trivial ?_
  refine aw_seq ?_
  refine aR [] [0, 3] [] [.ptr false [slChannel false f.Channels, slRows false f.Strokes, slNote false f.Notes], I 0] [] [] hB trivial ?_
  refine aw_block ?_
  refine aw_loop (fun gn gσ => ∃ (i : Int), gn = ((f.Channels.length : Int) - i).toNat ∧ (0 ≤ i ∧ i ≤ (f.Channels.length : Int)) ∧ gσ = mkS [(0, .ptr false [slChannel false f.Channels, slRows false f.Strokes, slNote false f.Notes]), (3, I i)] []) (((f.Channels.length : Int) - 0).toNat) ⟨0, rfl, (by omega), rfl⟩ (fun gn gσ hI => ?_)
  obtain ⟨i, rfl, hi0, rfl⟩ := hI
  refine aw_seq ?_
  refine aw_seq ?_
  by_cases h1 : i < (f.Channels.length : Int)
  ·have hi : i.toNat < f.Channels.length := by omega
   have hch := hf.2.1 _ (at_mem hi)
   have hix := idxC_at hf.2.2.1 hi
   refine aw_r [(6, .dec true)] [0, 3, 14] [] [.ptr false [slChannel false f.Channels, slRows false f.Strokes, slNote false f.Notes], I i, Bv true] [] [i < (f.Channels.length : Int)] hB ⟨h1, trivial⟩ ?_
   refine ae_then ?_
   refine aw_true rfl ?_
   refine aw_skip ?_
   refine ae_then ?_
   refine aw_seq ?_
   refine aw_block ?_
   refine aR [(6, .call [(true, .any)] true (Bv true)), (18, .call [(true, .any), (true, .any)] true (I (idxC f.Channels ((at_ f.Channels i.toNat).Name)))), (20, .dec false)] [0, 3, 38] [] [.ptr false [slChannel false f.Channels, slRows false f.Strokes, slNote false f.Notes], I i, Bv false] [] [(0 : Int) ≤ i ∧ i < (f.Channels.length : Int), Con Tryz.prog 87 [.ptr false [Sv ((at_ f.Channels i.toNat).Name), Sv ((at_ f.Channels i.toNat).Unit), I ((at_ f.Channels i.toNat).Low), I ((at_ f.Channels i.toNat).High)]] true (Bv true) ∧ True, (0 : Int) ≤ i ∧ i < (f.Channels.length : Int), Con Tryz.prog 88 [.ptr false [slChannel false f.Channels, slRows false f.Strokes, slNote false f.Notes], Sv ((at_ f.Channels i.toNat).Name)] true (I (idxC f.Channels ((at_ f.Channels i.toNat).Name))) ∧ True, ¬ ((idxC f.Channels ((at_ f.Channels i.toNat).Name)) ≠ i)] hB ⟨⟨(by omega), (by omega)⟩, ⟨(l03Channel_ok (at_ f.Channels i.toNat) hch), trivial⟩, ⟨(by omega), (by omega)⟩, ⟨(l03Find_ok f ((at_ f.Channels i.toNat).Name)), trivial⟩, (fun hq => hq (by rw [hix]; omega)), trivial⟩ ?_
   refine aw_false rfl ?_
   refine aw_skip ?_
   refine ae_block 1 ?_
   refine ae_then ?_
   refine aw_r [] [0, 3] [] [.ptr false [slChannel false f.Channels, slRows false f.Strokes, slNote false f.Notes], I (i + 1)] [] [inR .i64 (i + 1)] hB ⟨(inR_i64 (by omega) (by omega)), trivial⟩ ?_
   exact ae_again _ (by omega) ⟨(i + 1), rfl, (by omega), rfl⟩
  refine aw_r [(6, .dec false)] [0, 3, 14] [] [.ptr false [slChannel false f.Channels, slRows false f.Strokes, slNote false f.Notes], I i, Bv false] [] [¬ (i < (f.Channels.length : Int))] hB ⟨h1, trivial⟩ ?_
  refine ae_then ?_
  refine aw_false rfl ?_
  refine aw_exit ?_
  refine ae_exit_then ?_
  refine ae_exit_then ?_
  refine ae_exit_same ?_
  refine ae_then ?_
  refine aw_seq ?_
  refine aR [] [0, 4] [] [.ptr false [slChannel false f.Channels, slRows false f.Strokes, slNote false f.Notes], I 0] [] [] hB trivial ?_
  refine aw_block ?_
  refine aw_loop (fun gn gσ => ∃ (j : Int), gn = ((f.Strokes.length : Int) - j).toNat ∧ (0 ≤ j ∧ j ≤ (f.Strokes.length : Int)) ∧ gσ = mkS [(0, .ptr false [slChannel false f.Channels, slRows false f.Strokes, slNote false f.Notes]), (4, I j)] []) (((f.Strokes.length : Int) - 0).toNat) ⟨0, rfl, (by omega), rfl⟩ (fun gn gσ hI => ?_)
  obtain ⟨j, rfl, hi0, rfl⟩ := hI
  refine aw_seq ?_
  refine aw_seq ?_
  by_cases h2 : j < (f.Strokes.length : Int)
  ·have hi : j.toNat < f.Strokes.length := by omega
   have hrs := hf.2.2.2.1 _ (at_mem hi)
   have hrn := hrs.1
   refine aw_r [(6, .dec true)] [0, 4, 45] [] [.ptr false [slChannel false f.Channels, slRows false f.Strokes, slNote false f.Notes], I j, Bv true] [] [j < (f.Strokes.length : Int)] hB ⟨h2, trivial⟩ ?_
   refine ae_then ?_
   refine aw_true rfl ?_
   refine aw_skip ?_
   refine ae_then ?_
   refine aw_seq ?_
   refine aw_block ?_
   refine aR [] [0, 4, 5] [] [.ptr false [slChannel false f.Channels, slRows false f.Strokes, slNote false f.Notes], I j, slLI false ((at_ f.Strokes j.toNat).Values)] [] [(0 : Int) ≤ j ∧ j < (f.Strokes.length : Int)] hB ⟨⟨(by omega), (by omega)⟩, trivial⟩ ?_
   refine aw_seq ?_
   refine aR [] [0, 4, 5, 6] [] [.ptr false [slChannel false f.Channels, slRows false f.Strokes, slNote false f.Notes], I j, slLI false ((at_ f.Strokes j.toNat).Values), I 0] [] [] hB trivial ?_
   refine aw_block ?_
   refine aw_loop (fun gn gσ => ∃ (k : Int), gn = (((at_ f.Strokes j.toNat).Values.length : Int) - k).toNat ∧ (0 ≤ k ∧ k ≤ ((at_ f.Strokes j.toNat).Values.length : Int)) ∧ gσ = mkS [(0, .ptr false [slChannel false f.Channels, slRows false f.Strokes, slNote false f.Notes]), (4, I j), (5, slLI false ((at_ f.Strokes j.toNat).Values)), (6, I k)] []) ((((at_ f.Strokes j.toNat).Values.length : Int) - 0).toNat) ⟨0, rfl, (by omega), rfl⟩ (fun gn gσ hI => ?_)
   obtain ⟨k, rfl, hk0, rfl⟩ := hI
   refine aw_seq ?_
   refine aw_seq ?_
   by_cases h3 : k < ((((at_ f.Strokes j.toNat).Values).length) : Int)
   ·have hk : k.toNat < (at_ f.Strokes j.toNat).Values.length := by omega
    have hrw := hrs.2 _ (at_mem hk)
    refine aw_r [(3, .dec true)] [0, 4, 5, 6, 59] [] [.ptr false [slChannel false f.Channels, slRows false f.Strokes, slNote false f.Notes], I j, slLI false ((at_ f.Strokes j.toNat).Values), I k, Bv true] [] [k < ((((at_ f.Strokes j.toNat).Values).length) : Int)] hB ⟨h3, trivial⟩ ?_
    refine ae_then ?_
    refine aw_true rfl ?_
    refine aw_skip ?_
    refine ae_then ?_
    refine aw_seq ?_
    refine aw_block ?_
    refine aR [(5, .call [(true, .any), (true, .any)] true (Bv true))] [0, 4, 5, 6, 68] [] [.ptr false [slChannel false f.Channels, slRows false f.Strokes, slNote false f.Notes], I j, slLI false ((at_ f.Strokes j.toNat).Values), I k, Bv false] [] [(0 : Int) ≤ k ∧ k < ((((at_ f.Strokes j.toNat).Values).length) : Int), Con Tryz.prog 89 [.ptr false [slChannel false f.Channels, slRows false f.Strokes, slNote false f.Notes], slI false (at_ ((at_ f.Strokes j.toNat).Values) k.toNat)] true (Bv true) ∧ True] hB ⟨⟨(by omega), (by omega)⟩, ⟨(l03Row_ok f (at_ ((at_ f.Strokes j.toNat).Values) k.toNat) hrw (by omega)), trivial⟩, trivial⟩ ?_
    refine aw_false rfl ?_
    refine aw_skip ?_
    refine ae_block 5 ?_
    refine ae_then ?_
    refine aw_r [] [0, 4, 5, 6] [] [.ptr false [slChannel false f.Channels, slRows false f.Strokes, slNote false f.Notes], I j, slLI false ((at_ f.Strokes j.toNat).Values), I (k + 1)] [] [inR .i64 (k + 1)] hB ⟨(inR_i64 (by omega) (by omega)), trivial⟩ ?_
    exact ae_again _ (by omega) ⟨(k + 1), rfl, (by omega), rfl⟩
   refine aw_r [(3, .dec false)] [0, 4, 5, 6, 59] [] [.ptr false [slChannel false f.Channels, slRows false f.Strokes, slNote false f.Notes], I j, slLI false ((at_ f.Strokes j.toNat).Values), I k, Bv false] [] [¬ (k < ((((at_ f.Strokes j.toNat).Values).length) : Int))] hB ⟨h3, trivial⟩ ?_
   refine ae_then ?_
   refine aw_false rfl ?_
   refine aw_exit ?_
   refine ae_exit_then ?_
   refine ae_exit_then ?_
   refine ae_exit_same ?_
   refine ae_then ?_
   refine aR [(2, .call [(true, .any), (true, .any), (true, .any)] true (Bv true))] [0, 4, 72] [] [.ptr false [slChannel false f.Channels, slRows false f.Strokes, slNote false f.Notes], I j, Bv false] [] [Con Tryz.prog 90 [I ((((at_ f.Strokes j.toNat).Values).length) : Int), I 1, I 60] true (Bv true) ∧ True] hB ⟨⟨(con_bool (inB_iff.2 (by omega)) (l00In_ok ((((at_ f.Strokes j.toNat).Values).length) : Int) 1 60)), trivial⟩, trivial⟩ ?_
   refine aw_false rfl ?_
   refine aw_skip ?_
   refine ae_block 3 ?_
   refine ae_then ?_
   refine aw_r [] [0, 4] [] [.ptr false [slChannel false f.Channels, slRows false f.Strokes, slNote false f.Notes], I (j + 1)] [] [inR .i64 (j + 1)] hB ⟨(inR_i64 (by omega) (by omega)), trivial⟩ ?_
   exact ae_again _ (by omega) ⟨(j + 1), rfl, (by omega), rfl⟩
  refine aw_r [(6, .dec false)] [0, 4, 45] [] [.ptr false [slChannel false f.Channels, slRows false f.Strokes, slNote false f.Notes], I j, Bv false] [] [¬ (j < (f.Strokes.length : Int))] hB ⟨h2, trivial⟩ ?_
  refine ae_then ?_
  refine aw_false rfl ?_
  refine aw_exit ?_
  refine ae_exit_then ?_
  refine ae_exit_then ?_
  refine ae_exit_same ?_
  refine ae_then ?_
  refine aw_seq ?_
  refine aR [] [0, 7] [] [.ptr false [slChannel false f.Channels, slRows false f.Strokes, slNote false f.Notes], I 0] [] [] hB trivial ?_
  refine aw_block ?_
  refine aw_loop (fun gn gσ => ∃ (n : Int), gn = ((f.Notes.length : Int) - n).toNat ∧ (0 ≤ n ∧ n ≤ (f.Notes.length : Int)) ∧ gσ = mkS [(0, .ptr false [slChannel false f.Channels, slRows false f.Strokes, slNote false f.Notes]), (7, I n)] []) (((f.Notes.length : Int) - 0).toNat) ⟨0, rfl, (by omega), rfl⟩ (fun gn gσ hI => ?_)
  obtain ⟨n, rfl, hi0, rfl⟩ := hI
  refine aw_seq ?_
  refine aw_seq ?_
  by_cases h4 : n < (f.Notes.length : Int)
  ·have hi : n.toNat < f.Notes.length := by omega
   have hnt := hf.2.2.2.2 _ (at_mem hi)
   have hnb := hnt.1
   refine aw_r [(6, .dec true)] [0, 7, 79] [] [.ptr false [slChannel false f.Channels, slRows false f.Strokes, slNote false f.Notes], I n, Bv true] [] [n < (f.Notes.length : Int)] hB ⟨h4, trivial⟩ ?_
   refine ae_then ?_
   refine aw_true rfl ?_
   refine aw_skip ?_
   refine ae_then ?_
   refine aw_seq ?_
   refine aw_block ?_
   refine aR [(7, .call [(true, .any), (true, .any)] true (Bv true)), (18, .call [(true, .any)] true (Bv true))] [0, 7, 102] [] [.ptr false [slChannel false f.Channels, slRows false f.Strokes, slNote false f.Notes], I n, Bv false] [] [(0 : Int) ≤ n ∧ n < (f.Notes.length : Int), Con Tryz.prog 91 [.ptr false [slChannel false f.Channels, slRows false f.Strokes, slNote false f.Notes], .ptr false [I ((at_ f.Notes n.toNat).From), I ((at_ f.Notes n.toNat).To), Sv ((at_ f.Notes n.toNat).Text)]] true (Bv true) ∧ True, (0 : Int) ≤ n ∧ n < (f.Notes.length : Int), Con Tryz.prog 92 [Sv ((at_ f.Notes n.toNat).Text)] true (Bv true) ∧ True] hB ⟨⟨(by omega), (by omega)⟩, ⟨(l03Place_ok f (at_ f.Notes n.toNat) hnb), trivial⟩, ⟨(by omega), (by omega)⟩, ⟨(specIsName_ok ((at_ f.Notes n.toNat).Text) hnt.2), trivial⟩, trivial⟩ ?_
   refine aw_false rfl ?_
   refine aw_skip ?_
   refine ae_block 7 ?_
   refine ae_then ?_
   refine aw_r [] [0, 7] [] [.ptr false [slChannel false f.Channels, slRows false f.Strokes, slNote false f.Notes], I (n + 1)] [] [inR .i64 (n + 1)] hB ⟨(inR_i64 (by omega) (by omega)), trivial⟩ ?_
   exact ae_again _ (by omega) ⟨(n + 1), rfl, (by omega), rfl⟩
  refine aw_r [(6, .dec false)] [0, 7, 79] [] [.ptr false [slChannel false f.Channels, slRows false f.Strokes, slNote false f.Notes], I n, Bv false] [] [¬ (n < (f.Notes.length : Int))] hB ⟨h4, trivial⟩ ?_
  refine ae_then ?_
  refine aw_false rfl ?_
  refine aw_exit ?_
  refine ae_exit_then ?_
  refine ae_exit_then ?_
  refine ae_exit_same ?_
  refine ae_then ?_
  refine aR [(5, .call [(true, .any), (true, .any), (true, .any)] true (Bv true)), (12, .dec true), (20, .dec true)] [2] [] [Bv true] [] [Con Tryz.prog 90 [I (f.Channels.length : Int), I 1, I 6] true (Bv true) ∧ True, (f.Strokes.length : Int) ≤ 16, (f.Notes.length : Int) ≤ 12] hB ⟨⟨(con_bool (inB_iff.2 (by omega)) (l00In_ok (f.Channels.length : Int) 1 6)), trivial⟩, (by omega), (by omega), trivial⟩ ?_
  refine aw_ret ?_
  refine ae_ret hB (Bv true) (by kernel_rfl) (.inl rfl) rfl (fun _ => trivial)
theorem specValidFile_ok (f : File) (hf : okFil f) : Con Tryz.prog 12 [agFile f] true (Bv true) := by
  refine fn_ok (fn := Tryz.f12) (nt := 4) Tryz.func12 rfl rfl rfl rfl (by simp [taggedL, tagged, tagChannel, tagNote, tagRows]) fun B hB => ?_
  refine aw_lens (x := agFile f) 0 rfl (fun len_f => ?_)
  simp [LenOK, LenL, cChannel, cI, cLI, cNote, cRows, fChannel, fI, fLI, fNote, fRows, slChannel, slI, slLI, slNote, slRows] at len_f
  refine aR [(0, .new 1)] [1] [1] [.ref 1 0] [some (bxFile f)] [] hB trivial ?_
  refine aR [(0, .call [(false, .ptr false [slChannel false f.Channels, slRows false f.Strokes, slNote false f.Notes])] true (Bv true))] [2] [] [Bv true] [] [Con Tryz.prog 39 [.ptr false [slChannel false f.Channels, slRows false f.Strokes, slNote false f.Notes]] true (Bv true) ∧ ((false = true → true = true) ∧ AV.idsL [slChannel false f.Channels, slRows false f.Strokes, slNote false f.Notes] = [] ∧ ((false = true → false = true) ∧ 4 = 4 ∧ f.Channels.length = f.Channels.length ∧ ∀ i_, i_ < f.Channels.length → (fChannel f.Channels) i_ = (fChannel f.Channels) i_ ∨ (AV.idsL ((fChannel f.Channels) i_) = [] ∧ leL (fun _ => none) false ((fChannel f.Channels) i_) ((fChannel f.Channels) i_))) ∧ ((false = true → false = true) ∧ 1 = 1 ∧ f.Strokes.length = f.Strokes.length ∧ ∀ i_, i_ < f.Strokes.length → (fRows false f.Strokes) i_ = (fRows false f.Strokes) i_ ∨ (AV.idsL ((fRows false f.Strokes) i_) = [] ∧ leL (fun _ => none) false ((fRows false f.Strokes) i_) ((fRows false f.Strokes) i_))) ∧ ((false = true → false = true) ∧ 3 = 3 ∧ f.Notes.length = f.Notes.length ∧ ∀ i_, i_ < f.Notes.length → (fNote f.Notes) i_ = (fNote f.Notes) i_ ∨ (AV.idsL ((fNote f.Notes) i_) = [] ∧ leL (fun _ => none) false ((fNote f.Notes) i_) ((fNote f.Notes) i_))) ∧ ([] : List AV) = []) ∧ True] hB ⟨⟨(l03Ok_ok f hf), ⟨(fun h => by cases h), rfl, ⟨⟨(fun h => by cases h), rfl, rfl, fun i _ => .inl rfl⟩, ⟨⟨(fun h => by cases h), rfl, rfl, fun i _ => .inl rfl⟩, ⟨⟨(fun h => by cases h), rfl, rfl, fun i _ => .inl rfl⟩, rfl⟩⟩⟩⟩, trivial⟩, trivial⟩ ?_
  refine aw_ret ?_
  refine ae_ret hB (Bv true) (by kernel_rfl) (.inl rfl) rfl (fun _ => trivial)
theorem text_ok (s : l00Src) (list : List ByteArray) (hs : okSrc s) (ha : s.atx ≤ 3999999999999999980) (hl : (0 < list.length ∧ list.length ≤ 1000) ∧ ∀ z ∈ list, z.size ≤ 16) : ∃ (v : ByteArray) (s' : l00Src), (v.size ≤ 16) ∧ (okSrc s') ∧ (s'.code = s.code) ∧ (s.atx + 0 ≤ s'.atx ∧ s'.atx ≤ s.atx + 2) ∧ (v ∈ list) ∧ CallOK Tryz.prog 51 [.ref 7001 0, slS false list] (lookO [(7001, bxl00Src s)]) true (Sv v) (lookO [(7001, bxl00Src s')]) := by
  have hh : ∃ r : ByteArray × l00Src, ((r.1.size ≤ 16) ∧ (okSrc r.2) ∧ (r.2.code = s.code) ∧ (s.atx + 0 ≤ r.2.atx ∧ r.2.atx ≤ s.atx + 2) ∧ (r.1 ∈ list) ∧ (True)) ∧ CallOK Tryz.prog 51 [.ref 7001 0, slS false list] (lookO [(7001, bxl00Src s)]) true (Sv r.1) (lookO [(7001, bxl00Src r.2)]) := by
    refine fn_okX (Φ := fun r : ByteArray × l00Src => (r.1.size ≤ 16) ∧ (okSrc r.2) ∧ (r.2.code = s.code) ∧ (s.atx + 0 ≤ r.2.atx ∧ r.2.atx ≤ s.atx + 2) ∧ (r.1 ∈ list) ∧ (True)) [(7001, bxl00Src s)] (fun r => [(7001, bxl00Src r.2)]) (fn := Tryz.f51) (nt := 12) Tryz.func51 rfl rfl (args := [.ref 7001 0, slS false list]) rfl (allcons (.inr trivial) (allcons (.inl ⟨rfl, tagS false _⟩) allnil)) (res := fun r => Sv r.1) ?_
    refine xR [] [0, 1] [7001] [.ref 7001 0, slS false list] [some (bxl00Src s)] [] trivial ?_
    refine x_seq ?_
    obtain ⟨v_1, s'_1, hx1_0, hx1_1, hx1_2, hx1_3, hc1⟩ := pick_ok s (list.length : Int) (by first | assumption | (simp only [okSrc] at *; simp_all; done)) (by omega)
    refine x_r [(4, .lend [(7001, bxl00Src s, bxl00Src s'_1)] [] [(true, .any), (true, .any)] true (I v_1))] [4] [7001] [Sv (at_ list v_1.toNat)] [some (bxl00Src s'_1)] [CallOK Tryz.prog 49 [.ref 7001 0, I (list.length : Int)] (lookO [(7001, bxl00Src s)]) true (I v_1) (lookO [(7001, bxl00Src s'_1)]) ∧ (((bxl00Src s : Ob) = bxl00Src s ∨ obLe noOb true (bxl00Src s) (bxl00Src s)) ∧ taggedO false (bxl00Src s)) ∧ True, (0 : Int) ≤ v_1 ∧ v_1 < (list.length : Int)] ⟨⟨hc1, ⟨.inl rfl, (by simp [taggedO, taggedL, tagged, tagU8])⟩, trivial⟩, ⟨(by omega), (by omega)⟩, trivial⟩ ?_
    refine xe_then ?_
    refine x_ret ?_
    refine xe_end ((at_ list v_1.toNat), s'_1) (show ((at_ list v_1.toNat).size ≤ 16) ∧ (okSrc s'_1) ∧ (s'_1.code = s.code) ∧ (s.atx + 0 ≤ s'_1.atx ∧ s'_1.atx ≤ s.atx + 2) ∧ ((at_ list v_1.toNat) ∈ list) ∧ (True) from ⟨(by first | omega | rfl | assumption | (dsimp only; first | omega | rfl | assumption) | (simp only [*]; done) | (exact at_mem (by omega)) | (exact hl.2 _ (at_mem (by omega))) | (simp_all; done)), (by first | omega | rfl | assumption | (dsimp only; first | omega | rfl | assumption) | (simp only [*]; done) | (exact at_mem (by omega)) | (exact hl.2 _ (at_mem (by omega))) | (simp_all; done)), (by first | omega | rfl | assumption | (dsimp only; first | omega | rfl | assumption) | (simp only [*]; done) | (exact at_mem (by omega)) | (exact hl.2 _ (at_mem (by omega))) | (simp_all; done)), (by first | omega | rfl | assumption | (dsimp only; first | omega | rfl | assumption) | (simp only [*]; done) | (exact at_mem (by omega)) | (exact hl.2 _ (at_mem (by omega))) | (simp_all; done)), (by first | omega | rfl | assumption | (dsimp only; first | omega | rfl | assumption) | (simp only [*]; done) | (exact at_mem (by omega)) | (exact hl.2 _ (at_mem (by omega))) | (simp_all; done)), trivial⟩) (⟨.inl rfl, trivial⟩) (Sv (at_ list v_1.toNat)) (by kernel_rfl) (.inl rfl) (fun _ => rfl) (fun _ => trivial)
  obtain ⟨⟨v, s'⟩, ⟨hh0, hh1, hh2, hh3, hh4, _⟩, hc⟩ := hh
  exact ⟨v, s', hh0, hh1, hh2, hh3, hh4, hc⟩
theorem among_ok (s : l00Src) (list : List Int) (hs : okSrc s) (ha : s.atx ≤ 3999999999999999980) (hl : 0 < list.length ∧ list.length ≤ 1000) : ∃ (v : Int) (s' : l00Src), (v ∈ list) ∧ (okSrc s') ∧ (s'.code = s.code) ∧ (s.atx + 0 ≤ s'.atx ∧ s'.atx ≤ s.atx + 2) ∧ CallOK Tryz.prog 93 [.ref 7001 0, slI false list] (lookO [(7001, bxl00Src s)]) true (I v) (lookO [(7001, bxl00Src s')]) := by
  have hh : ∃ r : Int × l00Src, ((r.1 ∈ list) ∧ (okSrc r.2) ∧ (r.2.code = s.code) ∧ (s.atx + 0 ≤ r.2.atx ∧ r.2.atx ≤ s.atx + 2) ∧ (True)) ∧ CallOK Tryz.prog 93 [.ref 7001 0, slI false list] (lookO [(7001, bxl00Src s)]) true (I r.1) (lookO [(7001, bxl00Src r.2)]) := by
    refine fn_okX (Φ := fun r : Int × l00Src => (r.1 ∈ list) ∧ (okSrc r.2) ∧ (r.2.code = s.code) ∧ (s.atx + 0 ≤ r.2.atx ∧ r.2.atx ≤ s.atx + 2) ∧ (True)) [(7001, bxl00Src s)] (fun r => [(7001, bxl00Src r.2)]) (fn := Tryz.f93) (nt := 12) Tryz.func93 rfl rfl (args := [.ref 7001 0, slI false list]) rfl (allcons (.inr trivial) (allcons (.inl ⟨rfl, tagI false _⟩) allnil)) (res := fun r => I r.1) ?_
    refine xR [] [0, 1] [7001] [.ref 7001 0, slI false list] [some (bxl00Src s)] [] trivial ?_
    refine x_seq ?_
    obtain ⟨v_1, s'_1, hx1_0, hx1_1, hx1_2, hx1_3, hc1⟩ := pick_ok s (list.length : Int) (by first | assumption | (simp only [okSrc] at *; simp_all; done)) (by omega)
    refine x_r [(4, .lend [(7001, bxl00Src s, bxl00Src s'_1)] [] [(true, .any), (true, .any)] true (I v_1))] [4] [7001] [I (at_ list v_1.toNat)] [some (bxl00Src s'_1)] [CallOK Tryz.prog 49 [.ref 7001 0, I (list.length : Int)] (lookO [(7001, bxl00Src s)]) true (I v_1) (lookO [(7001, bxl00Src s'_1)]) ∧ (((bxl00Src s : Ob) = bxl00Src s ∨ obLe noOb true (bxl00Src s) (bxl00Src s)) ∧ taggedO false (bxl00Src s)) ∧ True, (0 : Int) ≤ v_1 ∧ v_1 < (list.length : Int)] ⟨⟨hc1, ⟨.inl rfl, (by simp [taggedO, taggedL, tagged, tagU8])⟩, trivial⟩, ⟨(by omega), (by omega)⟩, trivial⟩ ?_
    refine xe_then ?_
    refine x_ret ?_
    refine xe_end ((at_ list v_1.toNat), s'_1) (show ((at_ list v_1.toNat) ∈ list) ∧ (okSrc s'_1) ∧ (s'_1.code = s.code) ∧ (s.atx + 0 ≤ s'_1.atx ∧ s'_1.atx ≤ s.atx + 2) ∧ (True) from ⟨(by first | omega | rfl | assumption | (dsimp only; first | omega | rfl | assumption) | (simp only [*]; done) | (exact at_mem (by omega)) | (simp_all; done)), (by first | omega | rfl | assumption | (dsimp only; first | omega | rfl | assumption) | (simp only [*]; done) | (exact at_mem (by omega)) | (simp_all; done)), (by first | omega | rfl | assumption | (dsimp only; first | omega | rfl | assumption) | (simp only [*]; done) | (exact at_mem (by omega)) | (simp_all; done)), (by first | omega | rfl | assumption | (dsimp only; first | omega | rfl | assumption) | (simp only [*]; done) | (exact at_mem (by omega)) | (simp_all; done)), trivial⟩) (⟨.inl rfl, trivial⟩) (I (at_ list v_1.toNat)) (by kernel_rfl) (.inl rfl) (fun _ => rfl) (fun _ => trivial)
  obtain ⟨⟨v, s'⟩, ⟨hh0, hh1, hh2, hh3, _⟩, hc⟩ := hh
  exact ⟨v, s', hh0, hh1, hh2, hh3, hc⟩
def csF (q p : Bool) (lo hi : Int) (u : ByteArray) (T : Int) : List Channel := [⟨if q = true then ⟨#[113]⟩ else ⟨#[120]⟩, ⟨#[109, 109]⟩, lo, hi⟩, ⟨⟨#[121]⟩, ⟨#[109, 109]⟩, -50, 90⟩] ++ [⟨⟨#[116]⟩, u, 0, T⟩] ++ (if p = true then [⟨⟨#[112]⟩, ⟨#[111, 110, 101]⟩, 0, 255⟩] else [])
def okCs (cs : List Channel) : Prop := ∃ (q p : Bool) (lo hi : Int) (u : ByteArray) (T : Int), (-4 ≤ lo ∧ lo ≤ 4) ∧ (100 ≤ hi ∧ hi ≤ 400) ∧ okName u ∧ (900 ≤ T ∧ T ≤ 3600000) ∧ cs = csF q p lo hi u T
theorem okCs_q {cs : List Channel} (h : okCs cs) : 0 < cs.length ∧ okCs (cs.set 0 ⟨⟨#[113]⟩, (at_ cs 0).Unit, (at_ cs 0).Low, (at_ cs 0).High⟩) := by
  obtain ⟨q, p, lo, hi, u, T, h1, h2, h3, h4, rfl⟩ := h
  exact ⟨by simp [csF], true, p, lo, hi, u, T, h1, h2, h3, h4, rfl⟩
theorem okCs_len {cs : List Channel} (h : okCs cs) : 3 ≤ cs.length ∧ cs.length ≤ 4 := by
  obtain ⟨q, p, lo, hi, u, T, _, _, _, _, rfl⟩ := h
  cases p <;> simp [csF]
theorem nmX : okName ⟨#[113]⟩ ∧ okName ⟨#[112]⟩ ∧ okName ⟨#[109, 109]⟩ ∧ okName ⟨#[111, 110, 101]⟩ := by
  refine ⟨?_, ?_, ?_, ?_⟩ <;> exact ⟨by decide, by decide, by decide⟩
theorem okCs_ok {cs : List Channel} (h : okCs cs) : (∀ c ∈ cs, okChan c) ∧ cs.Pairwise fun x y => x.Name ≠ y.Name := by
  obtain ⟨q, p, lo, hi, u, T, h1, h2, h3, h4, rfl⟩ := h
  have a := chX_nm
  have b := nmX
  have hc : ∀ c ∈ csF q true lo hi u T, okChan c := fun c hc => by
    simp only [csF, if_true, List.cons_append, List.nil_append, List.mem_cons, List.not_mem_nil, or_false] at hc
    rcases hc with rfl | rfl | rfl | rfl
    · refine ⟨?_, b.2.2.1, by dsimp only; omega⟩
      show okName (if q = true then ⟨#[113]⟩ else ⟨#[120]⟩)
      split
      · exact b.1
      · exact a.1
    · exact ⟨a.2.1, b.2.2.1, by decide⟩
    · exact ⟨a.2.2.1, h3, by dsimp only; omega⟩
    · exact ⟨b.2.1, b.2.2.2, by decide⟩
  have hp : (csF q true lo hi u T).Pairwise fun x y => x.Name ≠ y.Name := by
    simp only [csF, if_true, List.cons_append, List.nil_append, List.pairwise_cons, List.mem_cons, List.not_mem_nil, or_false, List.Pairwise.nil, and_true]
    refine ⟨fun y hy => ?_, fun y hy => ?_, fun y hy => ?_, fun y hy => by cases hy⟩
    · cases q <;> rcases hy with rfl | rfl | rfl <;> simp
    · rcases hy with rfl | rfl <;> simp
    · subst hy; simp
  cases p
  · have hs : List.Sublist (csF q false lo hi u T) (csF q true lo hi u T) := by
      have e : csF q true lo hi u T = csF q false lo hi u T ++ [⟨⟨#[112]⟩, ⟨#[111, 110, 101]⟩, 0, 255⟩] := by simp [csF]
      rw [e]
      exact List.sublist_append_left _ _
    exact ⟨fun c hx => hc c (hs.subset hx), hp.sublist hs⟩
  · exact ⟨hc, hp⟩
theorem okCs_row {cs : List Channel} (h : okCs cs) {a b t : Int} (ha : 5 ≤ a ∧ a ≤ 84) (hb : -40 ≤ b ∧ b ≤ 79) (ht : 0 ≤ t ∧ t ≤ 900) : (cs.length = 3 → okRw cs [a, b, t]) ∧ (cs.length = 4 → ∀ p : Int, 0 ≤ p ∧ p ≤ 255 → okRw cs ([a, b, t] ++ [p])) := by
  obtain ⟨q, p, lo, hi, u, T, h1, h2, h3, h4, rfl⟩ := h
  constructor
  · intro hl
    cases p
    · refine ⟨rfl, fun k hk => ?_⟩
      have hk3 : k < 3 := hk
      match k, hk3 with
      | 0, _ => show lo ≤ a ∧ a ≤ hi; omega
      | 1, _ => show (-50 : Int) ≤ b ∧ b ≤ 90; omega
      | 2, _ => show (0 : Int) ≤ t ∧ t ≤ T; omega
    · simp [csF] at hl
  · intro hl x hx
    cases p
    · simp [csF] at hl
    · refine ⟨rfl, fun k hk => ?_⟩
      have hk3 : k < 4 := hk
      match k, hk3 with
      | 0, _ => show lo ≤ a ∧ a ≤ hi; omega
      | 1, _ => show (-50 : Int) ≤ b ∧ b ≤ 90; omega
      | 2, _ => show (0 : Int) ≤ t ∧ t ≤ T; omega
      | 3, _ => show (0 : Int) ≤ x ∧ x ≤ 255; omega
theorem okFil_of {cs : List Channel} {ss : List Rows} {ns : List Note} (h : okCs cs) (h1 : ss.length ≤ 16) (h2 : ns.length ≤ 12) (h3 : ∀ r ∈ ss, okRows cs r) (h4 : ∀ n ∈ ns, okNote ss.length n) : okFil ⟨cs, ss, ns⟩ := by
  have hl := okCs_len h
  have ho := okCs_ok h
  exact ⟨⟨⟨by show 1 ≤ cs.length; omega, by show cs.length ≤ 6; omega⟩, h1, h2⟩, ho.1, ho.2, h3, h4⟩
theorem unit_nm {u : ByteArray} (h : u ∈ [(⟨#[109, 115]⟩ : ByteArray), ⟨#[109, 115]⟩, ⟨#[99, 115]⟩, ⟨#[115]⟩, ⟨#[104, 111, 117, 114]⟩]) : okName u := by
  simp only [List.mem_cons, List.not_mem_nil, or_false] at h
  rcases h with rfl | rfl | rfl | rfl | rfl <;> exact ⟨by decide, by decide, by decide⟩
theorem text_nm {u : ByteArray} (h : u ∈ [(⟨#[119, 111, 114, 100]⟩ : ByteArray), ⟨#[97]⟩, ⟨#[120, 45, 50]⟩]) : okName u := by
  simp only [List.mem_cons, List.not_mem_nil, or_false] at h
  rcases h with rfl | rfl | rfl <;> exact ⟨by decide, by decide, by decide⟩
end Go.Proofs.YtecdjaknbiekkaaGreatDoor.Ax
