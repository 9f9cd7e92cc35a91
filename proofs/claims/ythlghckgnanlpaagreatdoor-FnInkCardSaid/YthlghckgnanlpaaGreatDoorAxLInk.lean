/- The statement FnInk: contracts of what it reaches, and its proof. No conditions. -/
import Derived.Test.YthlghckgnanlpaaGreatDoorAxLInk2
import Derived.LaidMore
import Derived.Lay
import Derived.Lib.IndexBytes
import Derived.Lib.ItoaNum
import Derived.Lib.ParseIntBCases
import Derived.Lib.SplitLaws
import Derived.OpenShut
import Derived.SevenTiedAt
import Derived.Stop.Joined
import Derived.Test.YthlghckgnanlpaaGreatDoorAxBd
import Derived.Test.YthlghckgnanlpaaGreatDoorAxGr
import Derived.Test.YthlghckgnanlpaaGreatDoorAxS
import Derived.Test.YthlghckgnanlpaaGreatDoorAxY
namespace Go.Proofs.YthlghckgnanlpaaGreatDoor.Ax
open Go.RowKit Go.ChangeShapes Go.WideShapes
set_option linter.unusedVariables false
set_option linter.unusedSimpArgs false


-- impl.MoveInk
-- impl.mapInk at a closure
theorem mapInk_move (ik : Ink) (dx : Int) (dy : Int) (hx : ∀ s ∈ ik.Strokes, okStroke' s = true) (hl : ik.Strokes.length ≤ 16) (hd : (-4095 ≤ dx ∧ dx ≤ 4095) ∧ -4095 ≤ dy ∧ dy ≤ 4095) : ∃ (ss : List Stroke), (ss = (mpI (mvP dx dy) ik).Strokes) ∧ CallOK Tryz.prog 83 [.agg [slStroke false ik.Strokes], .fn 84 [.ptr false [I dx], .ptr false [I dy]]] (lookO []) false (.agg [.arr 8061]) (lookO [(8061, tOStroke 8062 ss), (8062, tFStroke ss)]) := by
  have hh : ∃ r : (List Stroke), ((r = (mpI (mvP dx dy) ik).Strokes) ∧ (True)) ∧ CallOK Tryz.prog 83 [.agg [slStroke false ik.Strokes], .fn 84 [.ptr false [I dx], .ptr false [I dy]]] (lookO []) false (.agg [.arr 8061]) (lookO [(8061, tOStroke 8062 r), (8062, tFStroke r)]) := by
    refine fn_okX (Φ := fun r : (List Stroke) => (r = (mpI (mvP dx dy) ik).Strokes) ∧ (True)) [] (fun r => [(8061, tOStroke 8062 r), (8062, tFStroke r)]) (fn := Tryz.f83) (nt := 42) Tryz.func83 rfl rfl (args := [.agg [slStroke false ik.Strokes], .fn 84 [.ptr false [I dx], .ptr false [I dy]]]) rfl (allcons (.inl ⟨rfl, by simp [tagged, taggedL, tagStroke]⟩) (allcons (.inl ⟨rfl, by simp [tagged, taggedL]⟩) allnil)) (res := fun r => .agg [.arr 8061]) ?_
    refine xR [(0, .new 2), (1, .new 4)] [1, 2, 4] [2, 4] [.fn 84 [.ptr false [I dx], .ptr false [I dy]], .ref 2 0, .ref 4 0] [some (.box [slStroke false ik.Strokes]), some (.box [nilA])] [] trivial ?_
    refine xR [(0, .new 5)] [1, 2, 4, 5] [2, 4, 5] [.fn 84 [.ptr false [I dx], .ptr false [I dy]], .ref 2 0, .ref 4 0, .ref 5 0] [some (.box [slStroke false ik.Strokes]), some (.box [nilA]), some (.box [nilA])] [] trivial ?_
    refine x_seq ?_
    refine xR [] [1, 4, 5, 12, 13, 14] [4, 5] [.fn 84 [.ptr false [I dx], .ptr false [I dy]], .ref 4 0, .ref 5 0, slStroke false ik.Strokes, I (ik.Strokes.length : Int), I 0] [some (.box [nilA]), some (.box [nilA])] [] trivial ?_
    refine x_block ?_
    refine x_nilC 5 0 750 1 (fun _ => []) rfl (by kernel_rfl) ?_
    refine x_fam 8062 3 (fun _ => 0) (fun _ _ => []) (by kernel_rfl) ?_
    refine x_weak [] (T := [(1, .fn 84 [.ptr false [I dx], .ptr false [I dy]]), (4, .ref 4 0), (5, .ref 5 0), (12, slStroke false ik.Strokes), (13, I (ik.Strokes.length : Int)), (14, I 0)]) (O := [(4, .box [nilA]), (5, .box [.arr 750]), (750, tOStroke 8062 ([] : List Stroke)), (8062, tFStroke ([] : List Stroke))]) rfl (⟨.inl rfl, .inl rfl, .inl rfl, .inl rfl, .inl rfl, .inl rfl, trivial⟩) (⟨.inl rfl, .inl rfl, .inr ⟨rfl, rfl, fun i hi => absurd hi (Nat.not_lt_zero _)⟩, .inr ⟨rfl, rfl, fun p hp => absurd hp (Nat.not_lt_zero _)⟩, trivial⟩) ?_
    refine x_loop (X := Int × (List Stroke)) (fun x => mkS [(1, .fn 84 [.ptr false [I dx], .ptr false [I dy]]), (4, .ref 4 0), (5, .ref 5 0), (12, slStroke false ik.Strokes), (13, I (ik.Strokes.length : Int)), (14, I x.1)] [(4, .box [nilA]), (5, .box [.arr 750]), (750, tOStroke 8062 x.2), (8062, tFStroke x.2)]) (fun x => (0 ≤ x.1 ∧ x.1 ≤ (ik.Strokes.length : Int)) ∧ ((x.2.length : Int) = x.1) ∧ (x.2 = (ik.Strokes.take x.1.toNat).map (mpS (mvP dx dy))) ∧ True) (fun x => ((ik.Strokes.length : Int) - x.1).toNat) (0, ([] : List Stroke)) rfl (show (0 ≤ (0 : Int) ∧ (0 : Int) ≤ (ik.Strokes.length : Int)) ∧ ((([] : List Stroke).length : Int) = (0 : Int)) ∧ (([] : List Stroke) = (ik.Strokes.take (0 : Int).toNat).map (mpS (mvP dx dy))) ∧ True from ⟨(by omega), (by rfl), (by rfl), trivial⟩) (fun x hI => ?_)
    obtain ⟨t14, ss⟩ := x
    obtain ⟨hi0, hl0, hs0, _⟩ : (0 ≤ t14 ∧ t14 ≤ (ik.Strokes.length : Int)) ∧ ((ss.length : Int) = t14) ∧ (ss = (ik.Strokes.take t14.toNat).map (mpS (mvP dx dy))) ∧ True := hI
    show XW _ _ _ _ (mkS [(1, .fn 84 [.ptr false [I dx], .ptr false [I dy]]), (4, .ref 4 0), (5, .ref 5 0), (12, slStroke false ik.Strokes), (13, I (ik.Strokes.length : Int)), (14, I t14)] [(4, .box [nilA]), (5, .box [.arr 750]), (750, tOStroke 8062 ss), (8062, tFStroke ss)]) _ _
    refine x_seq ?_
    by_cases h1 : t14 < (ik.Strokes.length : Int)
    ·have hi : t14.toNat < ik.Strokes.length := by omega
     have hos := hx _ (at_mem hi)
     have hol := okS_len hos
     refine x_r [(0, .dec true)] [1, 4, 5, 12, 13, 14, 15] [4, 5, 750, 8062] [.fn 84 [.ptr false [I dx], .ptr false [I dy]], .ref 4 0, .ref 5 0, slStroke false ik.Strokes, I (ik.Strokes.length : Int), I t14, Bv true] [some (.box [nilA]), some (.box [.arr 750]), some (tOStroke 8062 ss), some (tFStroke ss)] [t14 < (ik.Strokes.length : Int)] ⟨h1, trivial⟩ ?_
     refine xe_then ?_
     refine x_seq ?_
     refine x_true rfl ?_
     refine x_skip ?_
     refine xe_then ?_
     refine x_seq ?_
     refine x_block ?_
     refine xR [(2, .new 7)] [1, 4, 5, 7, 12, 13, 14] [4, 5, 7, 750, 8062] [.fn 84 [.ptr false [I dx], .ptr false [I dy]], .ref 4 0, .ref 5 0, .ref 7 0, slStroke false ik.Strokes, I (ik.Strokes.length : Int), I t14] [some (.box [nilA]), some (.box [.arr 750]), some (.box [slPoint false ((at_ ik.Strokes t14.toNat).Points)]), some (tOStroke 8062 ss), some (tFStroke ss)] [(0 : Int) ≤ t14 ∧ t14 < (ik.Strokes.length : Int)] ⟨⟨(by omega), (by omega)⟩, trivial⟩ ?_
     refine xR [(0, .new 8)] [1, 4, 5, 7, 8, 12, 13, 14] [4, 5, 7, 8, 750, 8062] [.fn 84 [.ptr false [I dx], .ptr false [I dy]], .ref 4 0, .ref 5 0, .ref 7 0, .ref 8 0, slStroke false ik.Strokes, I (ik.Strokes.length : Int), I t14] [some (.box [nilA]), some (.box [.arr 750]), some (.box [slPoint false ((at_ ik.Strokes t14.toNat).Points)]), some (.box [nilA]), some (tOStroke 8062 ss), some (tFStroke ss)] [] trivial ?_
     refine x_seq ?_
     refine xR [] [1, 4, 5, 8, 12, 13, 14, 19, 20, 21] [4, 5, 8, 750, 8062] [.fn 84 [.ptr false [I dx], .ptr false [I dy]], .ref 4 0, .ref 5 0, .ref 8 0, slStroke false ik.Strokes, I (ik.Strokes.length : Int), I t14, slPoint false ((at_ ik.Strokes t14.toNat).Points), I ((((at_ ik.Strokes t14.toNat).Points).length) : Int), I 0] [some (.box [nilA]), some (.box [.arr 750]), some (.box [nilA]), some (tOStroke 8062 ss), some (tFStroke ss)] [] trivial ?_
     refine x_block ?_
     refine x_nilC 8 0 780 3 (fun _ => []) rfl (by kernel_rfl) ?_
     refine x_weak [] (T := [(1, .fn 84 [.ptr false [I dx], .ptr false [I dy]]), (4, .ref 4 0), (5, .ref 5 0), (8, .ref 8 0), (12, slStroke false ik.Strokes), (13, I (ik.Strokes.length : Int)), (14, I t14), (19, slPoint false ((at_ ik.Strokes t14.toNat).Points)), (20, I ((((at_ ik.Strokes t14.toNat).Points).length) : Int)), (21, I 0)]) (O := [(4, .box [nilA]), (5, .box [.arr 750]), (8, .box [.arr 780]), (750, tOStroke 8062 ss), (780, tAPoint ([] : List Point)), (8062, tFStroke ss)]) rfl (⟨.inl rfl, .inl rfl, .inl rfl, .inl rfl, .inl rfl, .inl rfl, .inl rfl, .inl rfl, .inl rfl, .inl rfl, trivial⟩) (⟨.inl rfl, .inl rfl, .inl rfl, .inl rfl, .inr ⟨rfl, (by first | rfl | (simp; done) | (simp; omega) | omega), fun i_ hi_ => absurd hi_ (Nat.not_lt_zero _)⟩, .inl rfl, trivial⟩) ?_
     refine x_loop (X := Int × (List Point)) (fun x => mkS [(1, .fn 84 [.ptr false [I dx], .ptr false [I dy]]), (4, .ref 4 0), (5, .ref 5 0), (8, .ref 8 0), (12, slStroke false ik.Strokes), (13, I (ik.Strokes.length : Int)), (14, I t14), (19, slPoint false ((at_ ik.Strokes t14.toNat).Points)), (20, I ((((at_ ik.Strokes t14.toNat).Points).length) : Int)), (21, I x.1)] [(4, .box [nilA]), (5, .box [.arr 750]), (8, .box [.arr 780]), (750, tOStroke 8062 ss), (780, tAPoint x.2), (8062, tFStroke ss)]) (fun x => (0 ≤ x.1 ∧ x.1 ≤ ((at_ ik.Strokes t14.toNat).Points.length : Int)) ∧ ((x.2.length : Int) = x.1) ∧ (x.2 = ((at_ ik.Strokes t14.toNat).Points.take x.1.toNat).map (mvP dx dy)) ∧ True) (fun x => (((at_ ik.Strokes t14.toNat).Points.length : Int) - x.1).toNat) (0, ([] : List Point)) rfl (show (0 ≤ (0 : Int) ∧ (0 : Int) ≤ ((at_ ik.Strokes t14.toNat).Points.length : Int)) ∧ ((([] : List Point).length : Int) = (0 : Int)) ∧ (([] : List Point) = ((at_ ik.Strokes t14.toNat).Points.take (0 : Int).toNat).map (mvP dx dy)) ∧ True from ⟨(by omega), (by rfl), (by rfl), trivial⟩) (fun x hI => ?_)
     obtain ⟨t21, pts⟩ := x
     obtain ⟨hk0, hm0, hp1, _⟩ : (0 ≤ t21 ∧ t21 ≤ ((at_ ik.Strokes t14.toNat).Points.length : Int)) ∧ ((pts.length : Int) = t21) ∧ (pts = ((at_ ik.Strokes t14.toNat).Points.take t21.toNat).map (mvP dx dy)) ∧ True := hI
     show XW _ _ _ _ (mkS [(1, .fn 84 [.ptr false [I dx], .ptr false [I dy]]), (4, .ref 4 0), (5, .ref 5 0), (8, .ref 8 0), (12, slStroke false ik.Strokes), (13, I (ik.Strokes.length : Int)), (14, I t14), (19, slPoint false ((at_ ik.Strokes t14.toNat).Points)), (20, I ((((at_ ik.Strokes t14.toNat).Points).length) : Int)), (21, I t21)] [(4, .box [nilA]), (5, .box [.arr 750]), (8, .box [.arr 780]), (750, tOStroke 8062 ss), (780, tAPoint pts), (8062, tFStroke ss)]) _ _
     refine x_seq ?_
     by_cases h2 : t21 < ((((at_ ik.Strokes t14.toNat).Points).length) : Int)
     ·have hk : t21.toNat < (at_ ik.Strokes t14.toNat).Points.length := by omega
      have hpo := okS_at hos hk
      refine x_r [(0, .dec true)] [1, 4, 5, 8, 12, 13, 14, 19, 20, 21, 22] [4, 5, 8, 750, 780, 8062] [.fn 84 [.ptr false [I dx], .ptr false [I dy]], .ref 4 0, .ref 5 0, .ref 8 0, slStroke false ik.Strokes, I (ik.Strokes.length : Int), I t14, slPoint false ((at_ ik.Strokes t14.toNat).Points), I ((((at_ ik.Strokes t14.toNat).Points).length) : Int), I t21, Bv true] [some (.box [nilA]), some (.box [.arr 750]), some (.box [.arr 780]), some (tOStroke 8062 ss), some (tAPoint pts), some (tFStroke ss)] [t21 < ((((at_ ik.Strokes t14.toNat).Points).length) : Int)] ⟨h2, trivial⟩ ?_
      refine xe_then ?_
      refine x_seq ?_
      refine x_true rfl ?_
      refine x_skip ?_
      refine xe_then ?_
      refine x_seq ?_
      refine x_block ?_
      refine xR [(2, .new 10)] [1, 4, 5, 8, 10, 12, 13, 14, 19, 20, 21] [4, 5, 8, 10, 750, 780, 8062] [.fn 84 [.ptr false [I dx], .ptr false [I dy]], .ref 4 0, .ref 5 0, .ref 8 0, .ref 10 0, slStroke false ik.Strokes, I (ik.Strokes.length : Int), I t14, slPoint false ((at_ ik.Strokes t14.toNat).Points), I ((((at_ ik.Strokes t14.toNat).Points).length) : Int), I t21] [some (.box [nilA]), some (.box [.arr 750]), some (.box [.arr 780]), some (bxPoint (at_ ((at_ ik.Strokes t14.toNat).Points) t21.toNat)), some (tOStroke 8062 ss), some (tAPoint pts), some (tFStroke ss)] [(0 : Int) ≤ t21 ∧ t21 < ((((at_ ik.Strokes t14.toNat).Points).length) : Int)] ⟨⟨(by omega), (by omega)⟩, trivial⟩ ?_
      refine x_r [(4, .call [(true, .any), (true, .any), (true, .any)] true (agPoint (mvP dx dy (at_ ((at_ ik.Strokes t14.toNat).Points) t21.toNat)))), (5, .new 30), (6, .new 31)] [1, 4, 5, 8, 12, 13, 14, 19, 20, 21] [4, 5, 8, 31, 750, 8062] [.fn 84 [.ptr false [I dx], .ptr false [I dy]], .ref 4 0, .ref 5 0, .ref 8 0, slStroke false ik.Strokes, I (ik.Strokes.length : Int), I t14, slPoint false ((at_ ik.Strokes t14.toNat).Points), I ((((at_ ik.Strokes t14.toNat).Points).length) : Int), I t21] [some (.box [nilA]), some (.box [.arr 750]), some (.box [.arr 31]), some (.arr 3 (pts.length + 1) (catF pts.length (fPoint pts) (litF [I ((mvP dx dy (at_ ((at_ ik.Strokes t14.toNat).Points) t21.toNat)).X), I ((mvP dx dy (at_ ((at_ ik.Strokes t14.toNat).Points) t21.toNat)).Y), I ((mvP dx dy (at_ ((at_ ik.Strokes t14.toNat).Points) t21.toNat)).T)] 3))), some (tOStroke 8062 ss), some (tFStroke ss)] [Con Tryz.prog 84 [agPoint (at_ ((at_ ik.Strokes t14.toNat).Points) t21.toNat), .ptr false [I dx], .ptr false [I dy]] true (agPoint (mvP dx dy (at_ ((at_ ik.Strokes t14.toNat).Points) t21.toNat))) ∧ True, (pts.length + 1) * 24 ≤ 140737488355328] ⟨⟨(moveInk1_ok (at_ ((at_ ik.Strokes t14.toNat).Points) t21.toNat) dx dy hd hpo), trivial⟩, (by omega), trivial⟩ ?_
      refine xe_block 3 ?_
      refine xe_then ?_
      refine x_r [] [1, 4, 5, 8, 12, 13, 14, 19, 20, 21] [4, 5, 8, 31, 750, 8062] [.fn 84 [.ptr false [I dx], .ptr false [I dy]], .ref 4 0, .ref 5 0, .ref 8 0, slStroke false ik.Strokes, I (ik.Strokes.length : Int), I t14, slPoint false ((at_ ik.Strokes t14.toNat).Points), I ((((at_ ik.Strokes t14.toNat).Points).length) : Int), I (t21 + 1)] [some (.box [nilA]), some (.box [.arr 750]), some (.box [.arr 31]), some (.arr 3 (pts.length + 1) (catF pts.length (fPoint pts) (litF [I ((mvP dx dy (at_ ((at_ ik.Strokes t14.toNat).Points) t21.toNat)).X), I ((mvP dx dy (at_ ((at_ ik.Strokes t14.toNat).Points) t21.toNat)).Y), I ((mvP dx dy (at_ ((at_ ik.Strokes t14.toNat).Points) t21.toNat)).T)] 3))), some (tOStroke 8062 ss), some (tFStroke ss)] [inR .i64 (t21 + 1)] ⟨(inR_i64 (by omega) (by omega)), trivial⟩ ?_
      refine xe_weak [(780, 31)] (T := [(1, .fn 84 [.ptr false [I dx], .ptr false [I dy]]), (4, .ref 4 0), (5, .ref 5 0), (8, .ref 8 0), (12, slStroke false ik.Strokes), (13, I (ik.Strokes.length : Int)), (14, I t14), (19, slPoint false ((at_ ik.Strokes t14.toNat).Points)), (20, I ((((at_ ik.Strokes t14.toNat).Points).length) : Int)), (21, I (t21 + 1))]) (O := [(4, .box [nilA]), (5, .box [.arr 750]), (8, .box [.arr 780]), (750, tOStroke 8062 ss), (780, tAPoint (pts ++ [(mvP dx dy (at_ ((at_ ik.Strokes t14.toNat).Points) t21.toNat))])), (8062, tFStroke ss)]) rfl (⟨.inl rfl, .inl rfl, .inl rfl, .inl rfl, .inl rfl, .inl rfl, .inl rfl, .inl rfl, .inl rfl, .inl rfl, trivial⟩) (⟨.inl rfl, .inl rfl, .inl rfl, .inl rfl, .inr ⟨rfl, (by first | rfl | (simp; done) | (simp; omega) | omega), fun i_ hi_ => .inl (cat_snoc (enc := cPoint) (xs := pts) rfl i_ hi_)⟩, .inl rfl, trivial⟩) (xe_again ((t21 + 1), (pts ++ [(mvP dx dy (at_ ((at_ ik.Strokes t14.toNat).Points) t21.toNat))])) rfl (show (0 ≤ (t21 + 1) ∧ (t21 + 1) ≤ ((at_ ik.Strokes t14.toNat).Points.length : Int)) ∧ (((pts ++ [(mvP dx dy (at_ ((at_ ik.Strokes t14.toNat).Points) t21.toNat))]).length : Int) = (t21 + 1)) ∧ ((pts ++ [(mvP dx dy (at_ ((at_ ik.Strokes t14.toNat).Points) t21.toNat))]) = ((at_ ik.Strokes t14.toNat).Points.take (t21 + 1).toNat).map (mvP dx dy)) ∧ True from ⟨(by omega), (by simp; omega), (by rw [hp1]; exact (mapTake_succ (by omega) hk rfl).symm), trivial⟩) (by first | (show ((((at_ ik.Strokes t14.toNat).Points.length : Int) - (t21 + 1)).toNat : Nat) < (((at_ ik.Strokes t14.toNat).Points.length : Int) - t21).toNat; omega) | (dsimp only; omega)))
     refine x_r [(0, .dec false)] [1, 4, 5, 8, 12, 13, 14, 19, 20, 21, 22] [4, 5, 8, 750, 780, 8062] [.fn 84 [.ptr false [I dx], .ptr false [I dy]], .ref 4 0, .ref 5 0, .ref 8 0, slStroke false ik.Strokes, I (ik.Strokes.length : Int), I t14, slPoint false ((at_ ik.Strokes t14.toNat).Points), I ((((at_ ik.Strokes t14.toNat).Points).length) : Int), I t21, Bv false] [some (.box [nilA]), some (.box [.arr 750]), some (.box [.arr 780]), some (tOStroke 8062 ss), some (tAPoint pts), some (tFStroke ss)] [¬ (t21 < ((((at_ ik.Strokes t14.toNat).Points).length) : Int))] ⟨h2, trivial⟩ ?_
     refine xe_then ?_
     refine x_seq ?_
     refine x_false rfl ?_
     refine x_exit ?_
     refine xe_exit_then ?_
     refine xe_loop_exit ?_
     refine xe_exit_same ?_
     refine xe_then ?_
     refine x_r [(3, .new 37), (4, .new 38)] [1, 4, 5, 12, 13, 14] [4, 5, 38, 780, 8062] [.fn 84 [.ptr false [I dx], .ptr false [I dy]], .ref 4 0, .ref 5 0, slStroke false ik.Strokes, I (ik.Strokes.length : Int), I t14] [some (.box [nilA]), some (.box [.arr 38]), some (.oar [8062, 780] 1 (ss.length + 1) (catF ss.length (oStroke 8062 ss) (litF [.arr 780] 1))), some (tAPoint pts), some (tFStroke ss)] [(ss.length + 1) * 24 ≤ 140737488355328] ⟨(by omega), trivial⟩ ?_
     refine xe_block 1 ?_
     refine xe_then ?_
     refine x_r [] [1, 4, 5, 12, 13, 14] [4, 5, 38, 780, 8062] [.fn 84 [.ptr false [I dx], .ptr false [I dy]], .ref 4 0, .ref 5 0, slStroke false ik.Strokes, I (ik.Strokes.length : Int), I (t14 + 1)] [some (.box [nilA]), some (.box [.arr 38]), some (.oar [8062, 780] 1 (ss.length + 1) (catF ss.length (oStroke 8062 ss) (litF [.arr 780] 1))), some (tAPoint pts), some (tFStroke ss)] [inR .i64 (t14 + 1)] ⟨(inR_i64 (by omega) (by omega)), trivial⟩ ?_
     refine xe_join 780 8062 rfl rfl rfl ?_
     refine xe_weak [(750, 38)] (T := [(1, .fn 84 [.ptr false [I dx], .ptr false [I dy]]), (4, .ref 4 0), (5, .ref 5 0), (12, slStroke false ik.Strokes), (13, I (ik.Strokes.length : Int)), (14, I (t14 + 1))]) (O := [(4, .box [nilA]), (5, .box [.arr 750]), (750, tOStroke 8062 (ss ++ [(Stroke.mk pts)])), (8062, tFStroke (ss ++ [(Stroke.mk pts)]))]) rfl (⟨.inl rfl, .inl rfl, .inl rfl, .inl rfl, .inl rfl, .inl rfl, trivial⟩) (⟨.inl rfl, .inl rfl, .inr ⟨rfl, rfl, (by simp), fun i hi => .inl (ocatStroke rfl rfl rfl i hi)⟩, .inr (fcatStroke (Stroke.mk pts) (by first | rfl | (simp; done)) (fun i_ hi_ => (by first | rfl | fail))), trivial⟩) (xe_again ((t14 + 1), (ss ++ [(Stroke.mk pts)])) rfl (show (0 ≤ (t14 + 1) ∧ (t14 + 1) ≤ (ik.Strokes.length : Int)) ∧ (((ss ++ [(Stroke.mk pts)]).length : Int) = (t14 + 1)) ∧ ((ss ++ [(Stroke.mk pts)]) = (ik.Strokes.take (t14 + 1).toNat).map (mpS (mvP dx dy))) ∧ True from ⟨(by omega), (by simp; omega), (by rw [hs0]; exact (mapTake_succ (by omega) hi (by rw [hp1]; unfold mpS; rw [map_all (by omega)])).symm), trivial⟩) (by first | (show (((ik.Strokes.length : Int) - (t14 + 1)).toNat : Nat) < ((ik.Strokes.length : Int) - t14).toNat; omega) | (dsimp only; omega)))
    refine x_r [(0, .dec false)] [1, 4, 5, 12, 13, 14, 15] [4, 5, 750, 8062] [.fn 84 [.ptr false [I dx], .ptr false [I dy]], .ref 4 0, .ref 5 0, slStroke false ik.Strokes, I (ik.Strokes.length : Int), I t14, Bv false] [some (.box [nilA]), some (.box [.arr 750]), some (tOStroke 8062 ss), some (tFStroke ss)] [¬ (t14 < (ik.Strokes.length : Int))] ⟨h1, trivial⟩ ?_
    refine xe_then ?_
    refine x_seq ?_
    refine x_false rfl ?_
    refine x_exit ?_
    refine xe_exit_then ?_
    refine xe_loop_exit ?_
    refine xe_exit_same ?_
    refine xe_then ?_
    refine xR [] [4] [4, 750, 8062] [.ref 4 0] [some (.box [.arr 750]), some (tOStroke 8062 ss), some (tFStroke ss)] [] trivial ?_
    refine x_ret ?_
    refine xe_weak [(8061, 750)] (T := [(4, .ref 4 0)]) (O := [(4, .box [.arr 8061]), (8061, tOStroke 8062 ss), (8062, tFStroke ss)]) rfl (⟨.inl rfl, trivial⟩) (⟨.inl rfl, .inl rfl, .inl rfl, trivial⟩) ?_
    refine xe_end ss (show (ss = (mpI (mvP dx dy) ik).Strokes) ∧ (True) from ⟨(by rw [hs0]; unfold mpI; rw [map_all (by omega)]), trivial⟩) (⟨.inl rfl, .inl rfl, trivial⟩) (.agg [.arr 8061]) (by kernel_rfl) (.inl rfl) (fun h => by cases h) (fun h => by cases h)
  obtain ⟨ss, ⟨hh0, _⟩, hc⟩ := hh
  exact ⟨ss, hh0, hc⟩

theorem implMoveInk_ok (ik : Ink) (dx : Int) (dy : Int) (ok : okInk' ik = true) (hd : (-4095 ≤ dx ∧ dx ≤ 4095) ∧ -4095 ≤ dy ∧ dy ≤ 4095) : ∃ (v : Ink) (c : Int), (v = (mvR dx dy ik).1) ∧ (c = (mvR dx dy ik).2) ∧ Con Tryz.prog 18 [.agg [slStroke false ik.Strokes], I dx, I dy] true (.tup [.agg [slStroke true v.Strokes], I c]) := by
  have hil := okI_len ok
  have hh : ∃ r : Ink × Int, ((r.1 = (mvR dx dy ik).1) ∧ (r.2 = (mvR dx dy ik).2) ∧ (True)) ∧ CallOK Tryz.prog 18 [.agg [slStroke false ik.Strokes], I dx, I dy] (lookO []) true (.tup [.agg [slStroke true r.1.Strokes], I r.2]) (lookO []) := by
    refine fn_okX (Φ := fun r : Ink × Int => (r.1 = (mvR dx dy ik).1) ∧ (r.2 = (mvR dx dy ik).2) ∧ (True)) [] (fun r => []) (fn := Tryz.f18) (nt := 35) Tryz.func18 rfl rfl (args := [.agg [slStroke false ik.Strokes], I dx, I dy]) rfl (allcons (.inl ⟨rfl, by simp [tagged, taggedL, tagStroke]⟩) (allcons (.inl ⟨rfl, trivial⟩) (allcons (.inl ⟨rfl, trivial⟩) allnil))) (res := fun r => .tup [.agg [slStroke true r.1.Strokes], I r.2]) ?_
    refine xR [(0, .new 3), (1, .new 4), (2, .new 5), (3, .new 6)] [3, 4, 5, 6] [3, 4, 5, 6] [.ref 3 0, .ref 4 0, .ref 5 0, .ref 6 0] [some (.box [slStroke false ik.Strokes]), some (.box [I dx]), some (.box [I dy]), some (.box [nilA])] [] trivial ?_
    refine x_seq ?_
    refine xR [(1, .call [(true, .any)] true (Bv true))] [3, 4, 5, 6, 11] [3, 4, 5, 6] [.ref 3 0, .ref 4 0, .ref 5 0, .ref 6 0, Bv false] [some (.box [slStroke false ik.Strokes]), some (.box [I dx]), some (.box [I dy]), some (.box [nilA])] [Con Tryz.prog 13 [.agg [slStroke false ik.Strokes]] true (Bv true) ∧ True] ⟨⟨(con_bool ok (ValidInk_ok ik)), trivial⟩, trivial⟩ ?_
    refine x_false rfl ?_
    refine x_skip ?_
    refine xe_then ?_
    refine x_seq ?_
    refine x_seq ?_
    by_cases h1 : (ik.Strokes.length : Int) = 0
    ·have hmv : mvR dx dy ik = (⟨[]⟩, 0) := by rw [mvR, if_pos h1]
     refine x_r [(3, .dec true)] [3, 4, 5, 6, 16] [3, 4, 5, 6] [.ref 3 0, .ref 4 0, .ref 5 0, .ref 6 0, Bv true] [some (.box [slStroke false ik.Strokes]), some (.box [I dx]), some (.box [I dy]), some (.box [nilA])] [(ik.Strokes.length : Int) = 0] ⟨h1, trivial⟩ ?_
     refine xe_then ?_
     refine x_true rfl ?_
     refine xR [] [6, 7] [6] [.ref 6 0, I 0] [some (.box [nilA])] [] trivial ?_
     refine x_ret ?_
     refine xe_ret_then ?_
     refine xe_end ((Ink.mk ([] : List Stroke)), 0) (show ((Ink.mk ([] : List Stroke)) = (mvR dx dy ik).1) ∧ (0 = (mvR dx dy ik).2) ∧ (True) from ⟨(by first | (rw [hmv]; done) | (rw [hmv]; simp only [hx1_0]; done)), (by first | (rw [hmv]; done) | (rw [hmv]; simp only [hx1_0]; done)), trivial⟩) (trivial) (.tup [.agg [nilA], I 0]) (by kernel_rfl) (.inr ⟨⟨⟨rfl, rfl⟩, rfl⟩, ⟨rfl, rfl⟩⟩) (fun _ => rfl) (fun _ => (by simp [tagged, taggedL, tagStroke]))
    have hn0 := h1
    refine x_r [(3, .dec false)] [3, 4, 5, 6, 16] [3, 4, 5, 6] [.ref 3 0, .ref 4 0, .ref 5 0, .ref 6 0, Bv false] [some (.box [slStroke false ik.Strokes]), some (.box [I dx]), some (.box [I dy]), some (.box [nilA])] [¬ ((ik.Strokes.length : Int) = 0)] ⟨h1, trivial⟩ ?_
    refine xe_then ?_
    refine x_false rfl ?_
    refine x_skip ?_
    refine xe_then ?_
    refine x_seq ?_
    refine xR [(1, .call [(true, .any), (true, .any), (true, .any)] true (Bv true)), (5, .call [(true, .any), (true, .any), (true, .any)] true (Bv true))] [3, 4, 5, 6, 25] [3, 4, 5, 6] [.ref 3 0, .ref 4 0, .ref 5 0, .ref 6 0, Bv false] [some (.box [slStroke false ik.Strokes]), some (.box [I dx]), some (.box [I dy]), some (.box [nilA])] [Con Tryz.prog 80 [I dx, I (-4095), I 4095] true (Bv true) ∧ True, Con Tryz.prog 80 [I dy, I (-4095), I 4095] true (Bv true) ∧ True] ⟨⟨(con_bool (inB_iff.2 (by omega)) (within_ok dx (-4095) 4095)), trivial⟩, ⟨(con_bool (inB_iff.2 (by omega)) (within_ok dy (-4095) 4095)), trivial⟩, trivial⟩ ?_
    refine x_false rfl ?_
    refine x_skip ?_
    refine xe_then ?_
    refine x_seq ?_
    obtain ⟨ss_1, hx1_0, hc1⟩ := mapInk_move ik dx dy (okI_mem ok) (by omega) hd
    refine x_r [(2, .lendT [] [(8061, tOStroke 8062 ss_1), (8062, tFStroke ss_1)] [(true, .any), (false, .fn 84 [.ptr false [I dx], .ptr false [I dy]])] false (.agg [.arr 8061])), (3, .new 8)] [6, 8] [6, 8, 8061, 8062] [.ref 6 0, .ref 8 0] [some (.box [nilA]), some (.box [.arr 8061]), some (tOStroke 8062 ss_1), some (tFStroke ss_1)] [CallOK Tryz.prog 83 [.agg [slStroke false ik.Strokes], .fn 84 [.ptr false [I dx], .ptr false [I dy]]] (lookO []) false (.agg [.arr 8061]) (lookO [(8061, tOStroke 8062 ss_1), (8062, tFStroke ss_1)]) ∧ allTag [(8061, tOStroke 8062 ss_1), (8062, tFStroke ss_1)] ∧ tagged true (.agg [.arr 8061]) ∧ (84 = 84 ∧ ((false = true → true = true) ∧ AV.idsL [I dx] = [] ∧ (valOf (I dx) = valOf (I dx)) ∧ ([] : List AV) = []) ∧ ((false = true → true = true) ∧ AV.idsL [I dy] = [] ∧ (valOf (I dy) = valOf (I dy)) ∧ ([] : List AV) = []) ∧ ([] : List AV) = []) ∧ True] ⟨⟨hc1, ⟨(by intro i_ _; simp [oStroke, oStrokec, taggedL, tagged]), (fun _ _ _ _ => tagcPoint true _), trivial⟩, (by simp [tagged, taggedL]), ⟨rfl, ⟨⟨(fun h => by cases h), rfl, ⟨rfl, rfl⟩⟩, ⟨⟨(fun h => by cases h), rfl, ⟨rfl, rfl⟩⟩, rfl⟩⟩⟩, trivial⟩, trivial⟩ ?_
    refine xe_then ?_
    refine x_seq ?_
    refine x_seq ?_
    rcases Bool.eq_false_or_eq_true (okInk' (Ink.mk ss_1)) with h2 | h2
    ·have hok2 : okInk' (mpI (mvP dx dy) ik) = true := by have q := h2; simp only [hx1_0] at q; first | exact q | simpa using q
     have hmv : mvR dx dy ik = (mpI (mvP dx dy) ik, 0) := by rw [mvR, if_neg hn0, hok2]; rfl
     refine x_r [(1, .call [(false, .agg [slStroke false ss_1])] true (Bv true))] [6, 8, 32] [6, 8, 8061, 8062] [.ref 6 0, .ref 8 0, Bv false] [some (.box [nilA]), some (.box [.arr 8061]), some (tOStroke 8062 ss_1), some (tFStroke ss_1)] [Con Tryz.prog 13 [.agg [slStroke false ss_1]] true (Bv true) ∧ (((false = true → true = true) ∧ 1 = 1 ∧ ss_1.length = ss_1.length ∧ ∀ i_, i_ < ss_1.length → AV.idsL ((fStroke false ss_1) i_) = [] ∧ leL (lookO [(8062, tFStroke ss_1)]) true ((oStroke 8062 ss_1) i_) ((fStroke false ss_1) i_)) ∧ ([] : List AV) = []) ∧ True] ⟨⟨(con_bool h2 (ValidInk_ok (Ink.mk ss_1))), ⟨⟨(fun h => by cases h), rfl, rfl, oleStroke _ _ rfl⟩, rfl⟩, trivial⟩, trivial⟩ ?_
     refine xe_then ?_
     refine x_false rfl ?_
     refine x_skip ?_
     refine xe_then ?_
     refine xR [] [6, 7] [6, 8061, 8062] [.ref 6 0, I 0] [some (.box [.arr 8061]), some (tOStroke 8062 ss_1), some (tFStroke ss_1)] [] trivial ?_
     refine x_ret ?_
     refine xe_end ((Ink.mk ss_1), 0) (show ((Ink.mk ss_1) = (mvR dx dy ik).1) ∧ (0 = (mvR dx dy ik).2) ∧ (True) from ⟨(by first | (rw [hmv]; done) | (rw [hmv]; simp only [hx1_0]; done)), (by first | (rw [hmv]; done) | (rw [hmv]; simp only [hx1_0]; done)), trivial⟩) (trivial) (.tup [.agg [.arr 8061], I 0]) (by kernel_rfl) (.inr ⟨⟨⟨(fun _ => rfl), rfl, rfl, oleStroke _ _ rfl⟩, rfl⟩, ⟨rfl, rfl⟩⟩) (fun _ => rfl) (fun _ => (by simp [tagged, taggedL, tagStroke]))
    have hok2 : okInk' (mpI (mvP dx dy) ik) = false := by have q := h2; simp only [hx1_0] at q; first | exact q | simpa using q
    have hmv : mvR dx dy ik = (⟨[]⟩, 2) := by rw [mvR, if_neg hn0, hok2]; rfl
    refine x_r [(1, .call [(false, .agg [slStroke false ss_1])] true (Bv false))] [6, 8, 32] [6, 8, 8061, 8062] [.ref 6 0, .ref 8 0, Bv true] [some (.box [nilA]), some (.box [.arr 8061]), some (tOStroke 8062 ss_1), some (tFStroke ss_1)] [Con Tryz.prog 13 [.agg [slStroke false ss_1]] true (Bv false) ∧ (((false = true → true = true) ∧ 1 = 1 ∧ ss_1.length = ss_1.length ∧ ∀ i_, i_ < ss_1.length → AV.idsL ((fStroke false ss_1) i_) = [] ∧ leL (lookO [(8062, tFStroke ss_1)]) true ((oStroke 8062 ss_1) i_) ((fStroke false ss_1) i_)) ∧ ([] : List AV) = []) ∧ True] ⟨⟨(con_bool h2 (ValidInk_ok (Ink.mk ss_1))), ⟨⟨(fun h => by cases h), rfl, rfl, oleStroke _ _ rfl⟩, rfl⟩, trivial⟩, trivial⟩ ?_
    refine xe_then ?_
    refine x_true rfl ?_
    refine xR [] [6, 7] [6] [.ref 6 0, I 2] [some (.box [nilA])] [] trivial ?_
    refine x_ret ?_
    refine xe_ret_then ?_
    refine xe_end ((Ink.mk ([] : List Stroke)), 2) (show ((Ink.mk ([] : List Stroke)) = (mvR dx dy ik).1) ∧ (2 = (mvR dx dy ik).2) ∧ (True) from ⟨(by first | (rw [hmv]; done) | (rw [hmv]; simp only [hx1_0]; done)), (by first | (rw [hmv]; done) | (rw [hmv]; simp only [hx1_0]; done)), trivial⟩) (trivial) (.tup [.agg [nilA], I 2]) (by kernel_rfl) (.inr ⟨⟨⟨rfl, rfl⟩, rfl⟩, ⟨rfl, rfl⟩⟩) (fun _ => rfl) (fun _ => (by simp [tagged, taggedL, tagStroke]))
  obtain ⟨⟨v, c⟩, ⟨hh0, hh1, _⟩, hc⟩ := hh
  exact ⟨v, c, hh0, hh1, hc⟩


-- impl.joinBoxes
theorem joinBoxes_ok (a : Box) (b : Box) : Con Tryz.prog 157 [agBox a, agBox b] true (agBox (joinB a b)) := by
  refine fn_ok (fn := Tryz.f157) (nt := 26) Tryz.func157 rfl rfl rfl rfl (by simp [taggedL, tagged]) fun B hB => ?_
  refine aR [(0, .new 2), (1, .new 3), (2, .new 4)] [2, 3, 4] [2, 3, 4] [.ref 2 0, .ref 3 0, .ref 4 0] [some (bxBox a), some (bxBox b), some (.box [I 0, I 0, I 0, I 0])] [] hB trivial ?_
  refine aR [] [4] [4] [.ref 4 0] [some (.box [I (min a.X1 b.X1), I (min a.Y1 b.Y1), I (max a.X2 b.X2), I (max a.Y2 b.Y2)])] [] hB trivial ?_
  refine aw_ret ?_
  refine ae_ret hB (.agg [I (min a.X1 b.X1), I (min a.Y1 b.Y1), I (max a.X2 b.X2), I (max a.Y2 b.Y2)]) (by kernel_rfl) (.inl (by first | rfl | (refine congrArg Bv ?_; simp [*]; done) | (refine congrArg Bv ?_; simp [*]; omega) | (refine congrArg Bv ?_; simp_all []; done) | (refine congrArg Bv ?_; simp_all []; omega))) rfl (fun _ => (by simp [tagged, taggedL]))


-- impl.boxOfStroke
theorem boxOfStroke_ok (s : Stroke) (ok : okStroke' s = true) : Con Tryz.prog 156 [.agg [slPoint false s.Points]] true (agBox (boxS s.Points s.Points.length)) := by
  have hln := okS_len ok
  refine fn_ok (fn := Tryz.f156) (nt := 38) Tryz.func156 rfl rfl rfl rfl (by simp [taggedL, tagged, tagPoint]) fun B hB => ?_
  refine aw_lens (x := .agg [slPoint false s.Points]) 0 rfl (fun len_s => ?_)
  simp [LenOK, LenL, cPoint, fPoint, slPoint] at len_s
  refine aR [(0, .new 1), (1, .new 2)] [1, 2] [1, 2] [.ref 1 0, .ref 2 0] [some (.box [slPoint false s.Points]), some (.box [I 0, I 0, I 0, I 0])] [] hB trivial ?_
  refine aR [(1, .call [(true, .any)] true (agPoint (at_ s.Points 0))), (2, .new 3)] [1, 2, 3] [1, 2, 3] [.ref 1 0, .ref 2 0, .ref 3 0] [some (.box [slPoint false s.Points]), some (.box [I 0, I 0, I 0, I 0]), some (bxPoint (at_ s.Points 0))] [Con Tryz.prog 78 [.agg [slPoint false s.Points]] true (agPoint (at_ s.Points 0)) ∧ True] hB ⟨⟨(firstOf_ok s ok), trivial⟩, trivial⟩ ?_
  refine aR [(9, .new 4)] [1, 2, 4] [1, 2, 4] [.ref 1 0, .ref 2 0, .ref 4 0] [some (.box [slPoint false s.Points]), some (.box [I 0, I 0, I 0, I 0]), some (.box [I ((at_ s.Points 0).X), I ((at_ s.Points 0).Y), I ((at_ s.Points 0).X), I ((at_ s.Points 0).Y)])] [] hB trivial ?_
  refine aw_seq ?_
  refine aR [] [2, 4, 19, 20, 21] [2, 4] [.ref 2 0, .ref 4 0, slPoint false s.Points, I (s.Points.length : Int), I 0] [some (.box [I 0, I 0, I 0, I 0]), some (.box [I ((at_ s.Points 0).X), I ((at_ s.Points 0).Y), I ((at_ s.Points 0).X), I ((at_ s.Points 0).Y)])] [] hB trivial ?_
  refine aw_block ?_
  refine aw_loop (fun gn gσ => ∃ (t21 : Int) (x1 : Int) (y1 : Int) (x2 : Int) (y2 : Int), gn = ((s.Points.length : Int) - t21).toNat ∧ (0 ≤ t21 ∧ t21 ≤ (s.Points.length : Int)) ∧ (Box.mk x1 y1 x2 y2 = boxS s.Points t21.toNat) ∧ gσ = mkS [(2, .ref 2 0), (4, .ref 4 0), (19, slPoint false s.Points), (20, I (s.Points.length : Int)), (21, I t21)] [(2, .box [I 0, I 0, I 0, I 0]), (4, .box [I x1, I y1, I x2, I y2])]) (((s.Points.length : Int) - 0).toNat) ⟨0, (at_ s.Points 0).X, (at_ s.Points 0).Y, (at_ s.Points 0).X, (at_ s.Points 0).Y, rfl, (by omega), (by first | rfl | exact (boxS_one _).symm), rfl⟩ (fun gn gσ hI => ?_)
  obtain ⟨t21, x1, y1, x2, y2, rfl, hi0, hb1, rfl⟩ := hI
  refine aw_seq ?_
  by_cases h1 : t21 < (s.Points.length : Int)
  ·have hi : t21.toNat < s.Points.length := by omega
   refine aw_r [(0, .dec true)] [2, 4, 19, 20, 21, 22] [2, 4] [.ref 2 0, .ref 4 0, slPoint false s.Points, I (s.Points.length : Int), I t21, Bv true] [some (.box [I 0, I 0, I 0, I 0]), some (.box [I x1, I y1, I x2, I y2])] [t21 < (s.Points.length : Int)] hB ⟨h1, trivial⟩ ?_
   refine ae_then ?_
   refine aw_seq ?_
   refine aw_true rfl ?_
   refine aw_skip ?_
   refine ae_then ?_
   refine aw_seq ?_
   refine aw_block ?_
   refine aR [(2, .new 6)] [2, 4, 6, 19, 20, 21] [2, 4, 6] [.ref 2 0, .ref 4 0, .ref 6 0, slPoint false s.Points, I (s.Points.length : Int), I t21] [some (.box [I 0, I 0, I 0, I 0]), some (.box [I x1, I y1, I x2, I y2]), some (bxPoint (at_ s.Points t21.toNat))] [(0 : Int) ≤ t21 ∧ t21 < (s.Points.length : Int)] hB ⟨⟨(by omega), (by omega)⟩, trivial⟩ ?_
   refine aw_r [(10, .call [(true, .any), (true, .any)] true (agBox (joinB (Box.mk x1 y1 x2 y2) (Box.mk ((at_ s.Points t21.toNat).X) ((at_ s.Points t21.toNat).Y) ((at_ s.Points t21.toNat).X) ((at_ s.Points t21.toNat).Y)))))] [2, 4, 19, 20, 21] [2, 4] [.ref 2 0, .ref 4 0, slPoint false s.Points, I (s.Points.length : Int), I t21] [some (.box [I 0, I 0, I 0, I 0]), some (bxBox (joinB (Box.mk x1 y1 x2 y2) (Box.mk ((at_ s.Points t21.toNat).X) ((at_ s.Points t21.toNat).Y) ((at_ s.Points t21.toNat).X) ((at_ s.Points t21.toNat).Y))))] [Con Tryz.prog 157 [.agg [I x1, I y1, I x2, I y2], .agg [I ((at_ s.Points t21.toNat).X), I ((at_ s.Points t21.toNat).Y), I ((at_ s.Points t21.toNat).X), I ((at_ s.Points t21.toNat).Y)]] true (agBox (joinB (Box.mk x1 y1 x2 y2) (Box.mk ((at_ s.Points t21.toNat).X) ((at_ s.Points t21.toNat).Y) ((at_ s.Points t21.toNat).X) ((at_ s.Points t21.toNat).Y)))) ∧ True] hB ⟨⟨(joinBoxes_ok (Box.mk x1 y1 x2 y2) (Box.mk ((at_ s.Points t21.toNat).X) ((at_ s.Points t21.toNat).Y) ((at_ s.Points t21.toNat).X) ((at_ s.Points t21.toNat).Y))), trivial⟩, trivial⟩ ?_
   refine ae_block 1 ?_
   refine ae_then ?_
   refine aw_r [] [2, 4, 19, 20, 21] [2, 4] [.ref 2 0, .ref 4 0, slPoint false s.Points, I (s.Points.length : Int), I (t21 + 1)] [some (.box [I 0, I 0, I 0, I 0]), some (bxBox (joinB (Box.mk x1 y1 x2 y2) (Box.mk ((at_ s.Points t21.toNat).X) ((at_ s.Points t21.toNat).Y) ((at_ s.Points t21.toNat).X) ((at_ s.Points t21.toNat).Y))))] [inR .i64 (t21 + 1)] hB ⟨(inR_i64 (by omega) (by omega)), trivial⟩ ?_
   refine ae_weak hB [] (T := [(2, .ref 2 0), (4, .ref 4 0), (19, slPoint false s.Points), (20, I (s.Points.length : Int)), (21, I (t21 + 1))]) (O := [(2, .box [I 0, I 0, I 0, I 0]), (4, .box [I ((joinB (Box.mk x1 y1 x2 y2) (Box.mk ((at_ s.Points t21.toNat).X) ((at_ s.Points t21.toNat).Y) ((at_ s.Points t21.toNat).X) ((at_ s.Points t21.toNat).Y))).X1), I ((joinB (Box.mk x1 y1 x2 y2) (Box.mk ((at_ s.Points t21.toNat).X) ((at_ s.Points t21.toNat).Y) ((at_ s.Points t21.toNat).X) ((at_ s.Points t21.toNat).Y))).Y1), I ((joinB (Box.mk x1 y1 x2 y2) (Box.mk ((at_ s.Points t21.toNat).X) ((at_ s.Points t21.toNat).Y) ((at_ s.Points t21.toNat).X) ((at_ s.Points t21.toNat).Y))).X2), I ((joinB (Box.mk x1 y1 x2 y2) (Box.mk ((at_ s.Points t21.toNat).X) ((at_ s.Points t21.toNat).Y) ((at_ s.Points t21.toNat).X) ((at_ s.Points t21.toNat).Y))).Y2)])]) rfl (⟨.inl rfl, .inl rfl, .inl rfl, .inl rfl, .inl rfl, trivial⟩) (⟨.inl rfl, .inr ⟨rfl, ⟨rfl, ⟨rfl, ⟨rfl, rfl⟩⟩⟩⟩, trivial⟩) (ae_again _ (by omega) ⟨(t21 + 1), (joinB (Box.mk x1 y1 x2 y2) (Box.mk ((at_ s.Points t21.toNat).X) ((at_ s.Points t21.toNat).Y) ((at_ s.Points t21.toNat).X) ((at_ s.Points t21.toNat).Y))).X1, (joinB (Box.mk x1 y1 x2 y2) (Box.mk ((at_ s.Points t21.toNat).X) ((at_ s.Points t21.toNat).Y) ((at_ s.Points t21.toNat).X) ((at_ s.Points t21.toNat).Y))).Y1, (joinB (Box.mk x1 y1 x2 y2) (Box.mk ((at_ s.Points t21.toNat).X) ((at_ s.Points t21.toNat).Y) ((at_ s.Points t21.toNat).X) ((at_ s.Points t21.toNat).Y))).X2, (joinB (Box.mk x1 y1 x2 y2) (Box.mk ((at_ s.Points t21.toNat).X) ((at_ s.Points t21.toNat).Y) ((at_ s.Points t21.toNat).X) ((at_ s.Points t21.toNat).Y))).Y2, rfl, (by omega), (by rw [boxS_succ (by omega), ← hb1]; rfl), rfl⟩)
  have hie : t21.toNat = s.Points.length := by omega
  rw [hie] at hb1
  refine aw_r [(0, .dec false)] [2, 4, 19, 20, 21, 22] [2, 4] [.ref 2 0, .ref 4 0, slPoint false s.Points, I (s.Points.length : Int), I t21, Bv false] [some (.box [I 0, I 0, I 0, I 0]), some (.box [I x1, I y1, I x2, I y2])] [¬ (t21 < (s.Points.length : Int))] hB ⟨h1, trivial⟩ ?_
  refine ae_then ?_
  refine aw_seq ?_
  refine aw_false rfl ?_
  refine aw_exit ?_
  refine ae_exit_then ?_
  refine ae_exit_then ?_
  refine ae_exit_same ?_
  refine ae_then ?_
  refine aR [] [2] [2] [.ref 2 0] [some (.box [I x1, I y1, I x2, I y2])] [] hB trivial ?_
  refine aw_ret ?_
  refine ae_ret hB (.agg [I x1, I y1, I x2, I y2]) (by kernel_rfl) (.inl (by rw [← hb1])) rfl (fun _ => (by simp [tagged, taggedL]))


-- impl.boxOfInk
theorem boxOfInk_ok (ik : Ink) (ok : okInk' ik = true) (h0 : 1 ≤ ik.Strokes.length) : Con Tryz.prog 85 [.agg [slStroke false ik.Strokes]] true (agBox (inkB ik.Strokes ik.Strokes.length)) := by
  refine fn_ok (fn := Tryz.f85) (nt := 24) Tryz.func85 rfl rfl rfl rfl (by simp [taggedL, tagged, tagStroke]) fun B hB => ?_
  refine aw_lens (x := .agg [slStroke false ik.Strokes]) 0 rfl (fun len_ik => ?_)
  simp [LenOK, LenL, cPoint, cStroke, fPoint, fStroke, slPoint, slStroke] at len_ik
  refine aR [(0, .new 1), (1, .new 2)] [1, 2] [1, 2] [.ref 1 0, .ref 2 0] [some (.box [slStroke false ik.Strokes]), some (.box [I 0, I 0, I 0, I 0])] [] hB trivial ?_
  refine aR [(4, .call [(true, .any)] true (agBox (boxS (at_ ik.Strokes 0).Points (at_ ik.Strokes 0).Points.length))), (5, .new 3)] [1, 2, 3] [1, 2, 3] [.ref 1 0, .ref 2 0, .ref 3 0] [some (.box [slStroke false ik.Strokes]), some (.box [I 0, I 0, I 0, I 0]), some (bxBox (boxS (at_ ik.Strokes 0).Points (at_ ik.Strokes 0).Points.length))] [(0 : Int) ≤ 0 ∧ 0 < (ik.Strokes.length : Int), Con Tryz.prog 156 [.agg [slPoint false ((at_ ik.Strokes 0).Points)]] true (agBox (boxS (at_ ik.Strokes 0).Points (at_ ik.Strokes 0).Points.length)) ∧ True] hB ⟨⟨(by omega), (by omega)⟩, ⟨(boxOfStroke_ok (at_ ik.Strokes 0) (okI_all ok _ (by omega))), trivial⟩, trivial⟩ ?_
  refine aw_seq ?_
  refine aR [] [2, 3, 12, 13, 14] [2, 3] [.ref 2 0, .ref 3 0, slStroke false ik.Strokes, I (ik.Strokes.length : Int), I 0] [some (.box [I 0, I 0, I 0, I 0]), some (bxBox (boxS (at_ ik.Strokes 0).Points (at_ ik.Strokes 0).Points.length))] [] hB trivial ?_
  refine aw_block ?_
  refine aw_weak hB [] (T := [(2, .ref 2 0), (3, .ref 3 0), (12, slStroke false ik.Strokes), (13, I (ik.Strokes.length : Int)), (14, I 0)]) (O := [(2, .box [I 0, I 0, I 0, I 0]), (3, .box [I ((boxS (at_ ik.Strokes 0).Points (at_ ik.Strokes 0).Points.length).X1), I ((boxS (at_ ik.Strokes 0).Points (at_ ik.Strokes 0).Points.length).Y1), I ((boxS (at_ ik.Strokes 0).Points (at_ ik.Strokes 0).Points.length).X2), I ((boxS (at_ ik.Strokes 0).Points (at_ ik.Strokes 0).Points.length).Y2)])]) rfl (⟨.inl rfl, .inl rfl, .inl rfl, .inl rfl, .inl rfl, trivial⟩) (⟨.inl rfl, .inr ⟨rfl, ⟨rfl, ⟨rfl, ⟨rfl, rfl⟩⟩⟩⟩, trivial⟩) ?_
  refine aw_loop (fun gn gσ => ∃ (t14 : Int) (x1 : Int) (y1 : Int) (x2 : Int) (y2 : Int), gn = ((ik.Strokes.length : Int) - t14).toNat ∧ (0 ≤ t14 ∧ t14 ≤ (ik.Strokes.length : Int)) ∧ (Box.mk x1 y1 x2 y2 = inkB ik.Strokes t14.toNat) ∧ gσ = mkS [(2, .ref 2 0), (3, .ref 3 0), (12, slStroke false ik.Strokes), (13, I (ik.Strokes.length : Int)), (14, I t14)] [(2, .box [I 0, I 0, I 0, I 0]), (3, .box [I x1, I y1, I x2, I y2])]) (((ik.Strokes.length : Int) - 0).toNat) ⟨0, (boxS (at_ ik.Strokes 0).Points (at_ ik.Strokes 0).Points.length).X1, (boxS (at_ ik.Strokes 0).Points (at_ ik.Strokes 0).Points.length).Y1, (boxS (at_ ik.Strokes 0).Points (at_ ik.Strokes 0).Points.length).X2, (boxS (at_ ik.Strokes 0).Points (at_ ik.Strokes 0).Points.length).Y2, rfl, (by omega), (by first | rfl | exact (inkB_one _).symm), rfl⟩ (fun gn gσ hI => ?_)
  obtain ⟨t14, x1, y1, x2, y2, rfl, hi0, hb1, rfl⟩ := hI
  refine aw_seq ?_
  by_cases h1 : t14 < (ik.Strokes.length : Int)
  ·have hi : t14.toNat < ik.Strokes.length := by omega
   refine aw_r [(0, .dec true)] [2, 3, 12, 13, 14, 15] [2, 3] [.ref 2 0, .ref 3 0, slStroke false ik.Strokes, I (ik.Strokes.length : Int), I t14, Bv true] [some (.box [I 0, I 0, I 0, I 0]), some (.box [I x1, I y1, I x2, I y2])] [t14 < (ik.Strokes.length : Int)] hB ⟨h1, trivial⟩ ?_
   refine ae_then ?_
   refine aw_seq ?_
   refine aw_true rfl ?_
   refine aw_skip ?_
   refine ae_then ?_
   refine aw_seq ?_
   refine aw_block ?_
   refine aR [(2, .new 5)] [2, 3, 5, 12, 13, 14] [2, 3, 5] [.ref 2 0, .ref 3 0, .ref 5 0, slStroke false ik.Strokes, I (ik.Strokes.length : Int), I t14] [some (.box [I 0, I 0, I 0, I 0]), some (.box [I x1, I y1, I x2, I y2]), some (.box [slPoint false ((at_ ik.Strokes t14.toNat).Points)])] [(0 : Int) ≤ t14 ∧ t14 < (ik.Strokes.length : Int)] hB ⟨⟨(by omega), (by omega)⟩, trivial⟩ ?_
   refine aw_r [(2, .call [(true, .any)] true (agBox (boxS (at_ ik.Strokes t14.toNat).Points (at_ ik.Strokes t14.toNat).Points.length))), (3, .call [(true, .any), (true, .any)] true (agBox (joinB (Box.mk x1 y1 x2 y2) (boxS (at_ ik.Strokes t14.toNat).Points (at_ ik.Strokes t14.toNat).Points.length))))] [2, 3, 12, 13, 14] [2, 3] [.ref 2 0, .ref 3 0, slStroke false ik.Strokes, I (ik.Strokes.length : Int), I t14] [some (.box [I 0, I 0, I 0, I 0]), some (bxBox (joinB (Box.mk x1 y1 x2 y2) (boxS (at_ ik.Strokes t14.toNat).Points (at_ ik.Strokes t14.toNat).Points.length)))] [Con Tryz.prog 156 [.agg [slPoint false ((at_ ik.Strokes t14.toNat).Points)]] true (agBox (boxS (at_ ik.Strokes t14.toNat).Points (at_ ik.Strokes t14.toNat).Points.length)) ∧ True, Con Tryz.prog 157 [.agg [I x1, I y1, I x2, I y2], agBox (boxS (at_ ik.Strokes t14.toNat).Points (at_ ik.Strokes t14.toNat).Points.length)] true (agBox (joinB (Box.mk x1 y1 x2 y2) (boxS (at_ ik.Strokes t14.toNat).Points (at_ ik.Strokes t14.toNat).Points.length))) ∧ True] hB ⟨⟨(boxOfStroke_ok (at_ ik.Strokes t14.toNat) (okI_all ok _ (by omega))), trivial⟩, ⟨(joinBoxes_ok (Box.mk x1 y1 x2 y2) (boxS (at_ ik.Strokes t14.toNat).Points (at_ ik.Strokes t14.toNat).Points.length)), trivial⟩, trivial⟩ ?_
   refine ae_block 1 ?_
   refine ae_then ?_
   refine aw_r [] [2, 3, 12, 13, 14] [2, 3] [.ref 2 0, .ref 3 0, slStroke false ik.Strokes, I (ik.Strokes.length : Int), I (t14 + 1)] [some (.box [I 0, I 0, I 0, I 0]), some (bxBox (joinB (Box.mk x1 y1 x2 y2) (boxS (at_ ik.Strokes t14.toNat).Points (at_ ik.Strokes t14.toNat).Points.length)))] [inR .i64 (t14 + 1)] hB ⟨(inR_i64 (by omega) (by omega)), trivial⟩ ?_
   refine ae_weak hB [] (T := [(2, .ref 2 0), (3, .ref 3 0), (12, slStroke false ik.Strokes), (13, I (ik.Strokes.length : Int)), (14, I (t14 + 1))]) (O := [(2, .box [I 0, I 0, I 0, I 0]), (3, .box [I ((joinB (Box.mk x1 y1 x2 y2) (boxS (at_ ik.Strokes t14.toNat).Points (at_ ik.Strokes t14.toNat).Points.length)).X1), I ((joinB (Box.mk x1 y1 x2 y2) (boxS (at_ ik.Strokes t14.toNat).Points (at_ ik.Strokes t14.toNat).Points.length)).Y1), I ((joinB (Box.mk x1 y1 x2 y2) (boxS (at_ ik.Strokes t14.toNat).Points (at_ ik.Strokes t14.toNat).Points.length)).X2), I ((joinB (Box.mk x1 y1 x2 y2) (boxS (at_ ik.Strokes t14.toNat).Points (at_ ik.Strokes t14.toNat).Points.length)).Y2)])]) rfl (⟨.inl rfl, .inl rfl, .inl rfl, .inl rfl, .inl rfl, trivial⟩) (⟨.inl rfl, .inr ⟨rfl, ⟨rfl, ⟨rfl, ⟨rfl, rfl⟩⟩⟩⟩, trivial⟩) (ae_again _ (by omega) ⟨(t14 + 1), (joinB (Box.mk x1 y1 x2 y2) (boxS (at_ ik.Strokes t14.toNat).Points (at_ ik.Strokes t14.toNat).Points.length)).X1, (joinB (Box.mk x1 y1 x2 y2) (boxS (at_ ik.Strokes t14.toNat).Points (at_ ik.Strokes t14.toNat).Points.length)).Y1, (joinB (Box.mk x1 y1 x2 y2) (boxS (at_ ik.Strokes t14.toNat).Points (at_ ik.Strokes t14.toNat).Points.length)).X2, (joinB (Box.mk x1 y1 x2 y2) (boxS (at_ ik.Strokes t14.toNat).Points (at_ ik.Strokes t14.toNat).Points.length)).Y2, rfl, (by omega), (by rw [inkB_succ (by omega), ← hb1]; rfl), rfl⟩)
  have hie : t14.toNat = ik.Strokes.length := by omega
  rw [hie] at hb1
  refine aw_r [(0, .dec false)] [2, 3, 12, 13, 14, 15] [2, 3] [.ref 2 0, .ref 3 0, slStroke false ik.Strokes, I (ik.Strokes.length : Int), I t14, Bv false] [some (.box [I 0, I 0, I 0, I 0]), some (.box [I x1, I y1, I x2, I y2])] [¬ (t14 < (ik.Strokes.length : Int))] hB ⟨h1, trivial⟩ ?_
  refine ae_then ?_
  refine aw_seq ?_
  refine aw_false rfl ?_
  refine aw_exit ?_
  refine ae_exit_then ?_
  refine ae_exit_then ?_
  refine ae_exit_same ?_
  refine ae_then ?_
  refine aR [] [2] [2] [.ref 2 0] [some (.box [I x1, I y1, I x2, I y2])] [] hB trivial ?_
  refine aw_ret ?_
  refine ae_ret hB (.agg [I x1, I y1, I x2, I y2]) (by kernel_rfl) (.inl (by rw [← hb1])) rfl (fun _ => (by simp [tagged, taggedL]))


-- impl.BoxOfInk
theorem implBoxOfInk_ok (ik : Ink) : Con Tryz.prog 19 [.agg [slStroke false ik.Strokes]] true (.tup [agBox ((bxiR ik).1), I ((bxiR ik).2)]) := by
  refine fn_ok (fn := Tryz.f19) (nt := 15) Tryz.func19 rfl rfl rfl rfl (by simp [taggedL, tagged, tagStroke]) fun B hB => ?_
  refine aw_lens (x := .agg [slStroke false ik.Strokes]) 0 rfl (fun len_ik => ?_)
  simp [LenOK, LenL, cPoint, cStroke, fPoint, fStroke, slPoint, slStroke] at len_ik
  refine aR [(0, .new 1), (1, .new 2)] [1, 2] [1, 2] [.ref 1 0, .ref 2 0] [some (.box [slStroke false ik.Strokes]), some (.box [I 0, I 0, I 0, I 0])] [] hB trivial ?_
  refine aw_seq ?_
  refine aw_seq ?_
  rcases Bool.eq_false_or_eq_true (okInk' ik) with h1 | h1
  ·refine aw_r [(1, .call [(true, .any)] true (Bv true))] [1, 2, 6] [1, 2] [.ref 1 0, .ref 2 0, Bv false] [some (.box [slStroke false ik.Strokes]), some (.box [I 0, I 0, I 0, I 0])] [Con Tryz.prog 13 [.agg [slStroke false ik.Strokes]] true (Bv true) ∧ True] hB ⟨⟨(con_bool h1 (ValidInk_ok ik)), trivial⟩, trivial⟩ ?_
   refine ae_then ?_
   refine aw_false rfl ?_
   refine aw_skip ?_
   refine ae_then ?_
   refine aw_seq ?_
   refine aw_seq ?_
   by_cases h2 : (ik.Strokes.length : Int) = 0
   ·have hst := bxi_st h1 h2
    refine aw_r [(3, .dec true)] [1, 2, 11] [1, 2] [.ref 1 0, .ref 2 0, Bv true] [some (.box [slStroke false ik.Strokes]), some (.box [I 0, I 0, I 0, I 0])] [(ik.Strokes.length : Int) = 0] hB ⟨h2, trivial⟩ ?_
    refine ae_then ?_
    refine aw_true rfl ?_
    refine aR [] [2, 3] [2] [.ref 2 0, I 6] [some (.box [I 0, I 0, I 0, I 0])] [] hB trivial ?_
    refine aw_ret ?_
    refine ae_ret_then ?_
    refine ae_ret hB (.tup [.agg [I 0, I 0, I 0, I 0], I 6]) (by kernel_rfl) (.inl (by rw [hst])) rfl (fun _ => (by simp [tagged, taggedL]))
   have hst := bxi_yes h1 h2
   refine aw_r [(3, .dec false)] [1, 2, 11] [1, 2] [.ref 1 0, .ref 2 0, Bv false] [some (.box [slStroke false ik.Strokes]), some (.box [I 0, I 0, I 0, I 0])] [¬ ((ik.Strokes.length : Int) = 0)] hB ⟨h2, trivial⟩ ?_
   refine ae_then ?_
   refine aw_false rfl ?_
   refine aw_skip ?_
   refine ae_then ?_
   refine aR [(1, .call [(true, .any)] true (agBox (inkB ik.Strokes ik.Strokes.length)))] [2, 3] [2] [.ref 2 0, I 0] [some (bxBox (inkB ik.Strokes ik.Strokes.length))] [Con Tryz.prog 85 [.agg [slStroke false ik.Strokes]] true (agBox (inkB ik.Strokes ik.Strokes.length)) ∧ True] hB ⟨⟨(boxOfInk_ok ik h1 (by omega)), trivial⟩, trivial⟩ ?_
   refine aw_ret ?_
   refine ae_ret hB (.tup [agBox (inkB ik.Strokes ik.Strokes.length), I 0]) (by kernel_rfl) (.inl (by rw [hst])) rfl (fun _ => (by simp [tagged, taggedL]))
  have hst := bxi_inv h1
  refine aw_r [(1, .call [(true, .any)] true (Bv false))] [1, 2, 6] [1, 2] [.ref 1 0, .ref 2 0, Bv true] [some (.box [slStroke false ik.Strokes]), some (.box [I 0, I 0, I 0, I 0])] [Con Tryz.prog 13 [.agg [slStroke false ik.Strokes]] true (Bv false) ∧ True] hB ⟨⟨(con_bool h1 (ValidInk_ok ik)), trivial⟩, trivial⟩ ?_
  refine ae_then ?_
  refine aw_true rfl ?_
  refine aR [] [2, 3] [2] [.ref 2 0, I 1] [some (.box [I 0, I 0, I 0, I 0])] [] hB trivial ?_
  refine aw_ret ?_
  refine ae_ret_then ?_
  refine ae_ret hB (.tup [.agg [I 0, I 0, I 0, I 0], I 1]) (by kernel_rfl) (.inl (by rw [hst])) rfl (fun _ => (by simp [tagged, taggedL]))


section
variable {f : Point → Point}
theorem mpS_okP {s : Stroke} (ok : okStroke' s = true) (hp : ∀ j, j < s.Points.length → okP (f (at_ s.Points j)) = true) (hT : ∀ p, (f p).T = p.T) : okStroke' (mpS f s) = true := by
  have hl := okS_len ok
  simp only [okStroke', Bool.and_eq_true, decide_eq_true_eq, mpS_len]
  refine ⟨hl, allN_iff.2 fun j hj => ?_⟩
  unfold okPt
  rw [mpS_at hj, hp j hj, Bool.true_and]
  by_cases h0 : j = 0
  · simp [h0]
  · have h := okS_T ok hj (by omega)
    rw [mpS_at (by omega), hT, hT, decide_eq_true h, Bool.or_true]
theorem mpI_ok {x : Ink} (ok : okInk' x = true) (hp : ∀ i, i < x.Strokes.length → ∀ j, j < (at_ x.Strokes i).Points.length → okP (f (at_ (at_ x.Strokes i).Points j)) = true) (hT : ∀ p, (f p).T = p.T) : okInk' (mpI f x) = true := by
  have hl := okI_len ok
  have ha := ok
  simp only [okInk', Bool.and_eq_true, decide_eq_true_eq] at ha
  simp only [okInk', Bool.and_eq_true, decide_eq_true_eq, mpI_len]
  refine ⟨hl, allN_iff.2 fun i hi => ?_⟩
  have h1 := allN_get ha.2 hi
  have ho := okSA_ok h1
  have hs := okS_len ho
  unfold okSA at h1 ⊢
  rw [mpI_at hi, mpS_okP ho (hp i hi) hT, Bool.true_and]
  rw [Bool.and_eq_true] at h1
  by_cases h0 : i = 0
  · simp [h0]
  · have h2 := h1.2
    rw [decide_eq_false h0, Bool.false_or, decide_eq_true_eq] at h2 ⊢
    have ho2 := okS_len (okI_all ok (i - 1) (by omega))
    rw [mpI_at (by omega), mpS_at (by omega), hT]
    unfold lastT at h2 ⊢
    rw [mpS_len, mpS_at (by omega), hT]; exact h2
variable {fx fy : Int → Int}
def mapB (fx fy : Int → Int) (b : Box) : Box := ⟨fx b.X1, fy b.Y1, fx b.X2, fy b.Y2⟩
theorem map_join (hx : ∀ a b, a ≤ b → fx a ≤ fx b) (hy : ∀ a b, a ≤ b → fy a ≤ fy b) (a b : Box) : joinB (mapB fx fy a) (mapB fx fy b) = mapB fx fy (joinB a b) := by
  have mn : ∀ {g : Int → Int}, (∀ a b, a ≤ b → g a ≤ g b) → ∀ a b, min (g a) (g b) = g (min a b) := fun hg a b => by
    rcases Int.le_total a b with h | h
    · rw [Int.min_eq_left h, Int.min_eq_left (hg _ _ h)]
    · rw [Int.min_eq_right h, Int.min_eq_right (hg _ _ h)]
  have mx : ∀ {g : Int → Int}, (∀ a b, a ≤ b → g a ≤ g b) → ∀ a b, max (g a) (g b) = g (max a b) := fun hg a b => by
    rcases Int.le_total a b with h | h
    · rw [Int.max_eq_right h, Int.max_eq_right (hg _ _ h)]
    · rw [Int.max_eq_left h, Int.max_eq_left (hg _ _ h)]
  simp only [joinB, mapB, mn hx, mn hy, mx hx, mx hy]
theorem mpS_box (hf : ∀ p, f p = ⟨fx p.X, fy p.Y, p.T⟩) (hx : ∀ a b, a ≤ b → fx a ≤ fx b) (hy : ∀ a b, a ≤ b → fy a ≤ fy b) {s : Stroke} (h1 : 1 ≤ s.Points.length) : ∀ k, k ≤ s.Points.length → boxS (mpS f s).Points k = mapB fx fy (boxS s.Points k)
  | 0, _ => by rw [boxS, boxS, mpS_at (by omega), hf]; rfl
  | k + 1, h => by
    rw [boxS, boxS, mpS_box hf hx hy h1 k (by omega), mpS_at (by omega), hf, ← map_join hx hy]; rfl
theorem mpI_box (hf : ∀ p, f p = ⟨fx p.X, fy p.Y, p.T⟩) (hx : ∀ a b, a ≤ b → fx a ≤ fx b) (hy : ∀ a b, a ≤ b → fy a ≤ fy b) {x : Ink} (ok : okInk' x = true) (h0 : 1 ≤ x.Strokes.length) : ∀ k, k ≤ x.Strokes.length → inkB (mpI f x).Strokes k = mapB fx fy (inkB x.Strokes k)
  | 0, _ => by
    have := okS_len (okI_all ok 0 (by omega))
    rw [inkB, inkB, mpI_at (by omega), skB, mpS_len, mpS_box hf hx hy (by omega) _ (Nat.le_refl _)]; rfl
  | k + 1, h => by
    have := okS_len (okI_all ok k (by omega))
    rw [inkB, inkB, mpI_box hf hx hy ok h0 k (by omega), mpI_at (by omega), skB, mpS_len, mpS_box hf hx hy (by omega) _ (Nat.le_refl _), map_join hx hy]; rfl
end
theorem pt_box {x : Ink} {i j : Nat} (hi : i < x.Strokes.length) (hj : j < (at_ x.Strokes i).Points.length) : ((inkB x.Strokes x.Strokes.length).X1 ≤ (at_ (at_ x.Strokes i).Points j).X ∧ (at_ (at_ x.Strokes i).Points j).X ≤ (inkB x.Strokes x.Strokes.length).X2) ∧ (inkB x.Strokes x.Strokes.length).Y1 ≤ (at_ (at_ x.Strokes i).Points j).Y ∧ (at_ (at_ x.Strokes i).Points j).Y ≤ (inkB x.Strokes x.Strokes.length).Y2 := by
  have h1 := inkB_has x.Strokes _ i hi
  have h2 := box_has (at_ x.Strokes i).Points _ j hj
  unfold inBox skB at h1; omega
/-- What is known of ink that is fitted. -/
theorem fit_facts {x : Ink} {n : Int} (h : (fitR x n).2 = 0) : okInk' (fitA x n) = true ∧ fitA (fitA x n) n = fitA x n ∧ ((fitA x n).Strokes.length = x.Strokes.length) ∧
    (((inkB x.Strokes x.Strokes.length).X1 = (inkB x.Strokes x.Strokes.length).X2 ∧ (inkB x.Strokes x.Strokes.length).Y1 = (inkB x.Strokes x.Strokes.length).Y2) ∨
      max ((inkB (fitA x n).Strokes x.Strokes.length).X2 - (inkB (fitA x n).Strokes x.Strokes.length).X1) ((inkB (fitA x n).Strokes x.Strokes.length).Y2 - (inkB (fitA x n).Strokes x.Strokes.length).Y1) = n) := by
  obtain ⟨ok, hn, h0, _⟩ := fitR_ok h
  have hn' := inB_iff.1 hn
  have hB := inkB_ok ok (by omega) x.Strokes.length (Nat.le_refl _)
  have hs := side_bd hB
  have hlen : (fitA x n).Strokes.length = x.Strokes.length := mpI_len _ _
  generalize hb : inkB x.Strokes x.Strokes.length = b at *
  have hd : 0 < sideB b := by omega
  have hf : ∀ p, fitP b (sideB b) n p = ⟨(fun z => nearI ((z - b.X1) * n) (sideB b)) p.X, (fun z => nearI ((z - b.Y1) * n) (sideB b)) p.Y, p.T⟩ := fun p => rfl
  have hx : ∀ u v, u ≤ v → (fun z => nearI ((z - b.X1) * n) (sideB b)) u ≤ (fun z => nearI ((z - b.X1) * n) (sideB b)) v := fun u v huv => near_mono hd (Int.mul_le_mul_of_nonneg_right (by omega) (by omega))
  have hy : ∀ u v, u ≤ v → (fun z => nearI ((z - b.Y1) * n) (sideB b)) u ≤ (fun z => nearI ((z - b.Y1) * n) (sideB b)) v := fun u v huv => near_mono hd (Int.mul_le_mul_of_nonneg_right (by omega) (by omega))
  have hA : fitA x n = mpI (fitP b (sideB b) n) x := by unfold fitA; rw [hb]
  have hbox : inkB (fitA x n).Strokes x.Strokes.length = mapB (fun z => nearI ((z - b.X1) * n) (sideB b)) (fun z => nearI ((z - b.Y1) * n) (sideB b)) b := by
    rw [hA, mpI_box hf hx hy ok (by omega) _ (Nat.le_refl _), hb]
  have hrng : ∀ z, 0 ≤ z → z ≤ sideB b → 0 ≤ nearI (z * n) (sideB b) ∧ nearI (z * n) (sideB b) ≤ n := fun z h1 h2 => by
    rw [Int.mul_comm]; exact (near_between hd h1 h2).1 (by omega)
  have hpt : ∀ i, i < x.Strokes.length → ∀ j, j < (at_ x.Strokes i).Points.length → okP (fitP b (sideB b) n (at_ (at_ x.Strokes i).Points j)) = true := fun i hi j hj => by
    have hp := pt_box hi hj
    rw [hb] at hp
    have h1 := hrng _ (by omega : 0 ≤ (at_ (at_ x.Strokes i).Points j).X - b.X1) (by omega)
    have h2 := hrng _ (by omega : 0 ≤ (at_ (at_ x.Strokes i).Points j).Y - b.Y1) (by omega)
    have h3 := okP_iff.1 (okS_at (okI_all ok i hi) hj)
    rw [okP_iff]
    simp only [fitP]; omega
  have hok : okInk' (fitA x n) = true := by rw [hA]; exact mpI_ok ok hpt (fun p => rfl)
  have hz : nearI ((b.X1 - b.X1) * n) (sideB b) = 0 := by rw [Int.sub_self, Int.zero_mul]; have := near_zero (x := 0) hd; rwa [Int.mul_zero] at this
  have hz2 : nearI ((b.Y1 - b.Y1) * n) (sideB b) = 0 := by rw [Int.sub_self, Int.zero_mul]; have := near_zero (x := 0) hd; rwa [Int.mul_zero] at this
  have hw := hrng (b.X2 - b.X1) (by unfold okBox at hB; omega) hs.2.1
  have hh := hrng (b.Y2 - b.Y1) (by unfold okBox at hB; omega) hs.2.2
  -- the second time
  have key : ∀ d', (∀ i, i < x.Strokes.length → ∀ j, j < (at_ x.Strokes i).Points.length → fitP ⟨0, 0, (mapB (fun z => nearI ((z - b.X1) * n) (sideB b)) (fun z => nearI ((z - b.Y1) * n) (sideB b)) b).X2, (mapB (fun z => nearI ((z - b.X1) * n) (sideB b)) (fun z => nearI ((z - b.Y1) * n) (sideB b)) b).Y2⟩ d' n (fitP b (sideB b) n (at_ (at_ x.Strokes i).Points j)) = fitP b (sideB b) n (at_ (at_ x.Strokes i).Points j)) →
      sideB (mapB (fun z => nearI ((z - b.X1) * n) (sideB b)) (fun z => nearI ((z - b.Y1) * n) (sideB b)) b) = d' → fitA (fitA x n) n = fitA x n := fun d' h1 h2 => by
    have hAA : ∀ y : Ink, fitA y n = mpI (fitP (inkB y.Strokes y.Strokes.length) (sideB (inkB y.Strokes y.Strokes.length)) n) y := fun y => rfl
    rw [hAA (fitA x n), hlen, hbox, h2]
    have e : mapB (fun z => nearI ((z - b.X1) * n) (sideB b)) (fun z => nearI ((z - b.Y1) * n) (sideB b)) b = ⟨0, 0, (mapB (fun z => nearI ((z - b.X1) * n) (sideB b)) (fun z => nearI ((z - b.Y1) * n) (sideB b)) b).X2, (mapB (fun z => nearI ((z - b.X1) * n) (sideB b)) (fun z => nearI ((z - b.Y1) * n) (sideB b)) b).Y2⟩ := by
      simp only [mapB, hz, hz2]
    rw [e, hA]
    unfold mpI
    simp only [List.map_map, Ink.mk.injEq]
    refine List.map_congr_left fun s hs => ?_
    obtain ⟨i, hi, es⟩ := List.getElem_of_mem hs
    unfold mpS
    simp only [Function.comp, List.map_map, Stroke.mk.injEq]
    refine List.map_congr_left fun p hp => ?_
    obtain ⟨j, hj, ep⟩ := List.getElem_of_mem hp
    have hat : at_ x.Strokes i = s := by rw [at_eq hi]; exact es
    have := h1 i hi j (by rw [hat]; exact hj)
    rw [hat, at_eq hj, ep] at this
    exact this
  refine ⟨hok, ?_, hlen, ?_⟩
  · by_cases hdeg : b.X1 = b.X2 ∧ b.Y1 = b.Y2
    · refine key 1 (fun i hi j hj => ?_) ?_
      · have hp := pt_box hi hj
        rw [hb] at hp
        have e1 : (at_ (at_ x.Strokes i).Points j).X - b.X1 = 0 := by omega
        have e2 : (at_ (at_ x.Strokes i).Points j).Y - b.Y1 = 0 := by omega
        have hz1 : nearI (0 * n) (sideB b) = 0 := by rw [Int.zero_mul]; have := near_zero (x := 0) hd; rwa [Int.mul_zero] at this
        have hz3 : nearI (0 * n) 1 = 0 := by rw [Int.zero_mul]; decide
        simp only [fitP, e1, e2, hz1, Int.sub_zero, hz3]
      · have e1 : b.X2 - b.X1 = 0 := by omega
        have e2 : b.Y2 - b.Y1 = 0 := by omega
        have hz1 : nearI (0 * n) (sideB b) = 0 := by rw [Int.zero_mul]; have := near_zero (x := 0) hd; rwa [Int.mul_zero] at this
        simp only [sideB, mapB, e1, e2]
        simp only [sideB, e1, e2] at hz hz2 hz1
        rw [hz, hz2, hz1]
        decide
    · have hside : sideB (mapB (fun z => nearI ((z - b.X1) * n) (sideB b)) (fun z => nearI ((z - b.Y1) * n) (sideB b)) b) = n := by
        have hmax : sideB b = b.X2 - b.X1 ∨ sideB b = b.Y2 - b.Y1 := by unfold okBox at hB; unfold sideB; omega
        have hfull : nearI (sideB b * n) (sideB b) = n := by rw [Int.mul_comm]; exact near_full hd
        rcases hmax with e | e
        · have e2 : nearI ((b.X2 - b.X1) * n) (sideB b) = n := by rw [← e]; exact hfull
          show max 1 (max (nearI ((b.X2 - b.X1) * n) (sideB b) - nearI ((b.X1 - b.X1) * n) (sideB b)) (nearI ((b.Y2 - b.Y1) * n) (sideB b) - nearI ((b.Y1 - b.Y1) * n) (sideB b))) = n
          rw [hz, hz2, e2]; omega
        · have e2 : nearI ((b.Y2 - b.Y1) * n) (sideB b) = n := by rw [← e]; exact hfull
          show max 1 (max (nearI ((b.X2 - b.X1) * n) (sideB b) - nearI ((b.X1 - b.X1) * n) (sideB b)) (nearI ((b.Y2 - b.Y1) * n) (sideB b) - nearI ((b.Y1 - b.Y1) * n) (sideB b))) = n
          rw [hz, hz2, e2]; omega
      refine key n (fun i hi j hj => ?_) hside
      simp only [fitP, Int.sub_zero, near_full (show 0 < n by omega)]
  · by_cases hdeg : b.X1 = b.X2 ∧ b.Y1 = b.Y2
    · exact .inl hdeg
    · right
      rw [hbox]
      have hmax : sideB b = b.X2 - b.X1 ∨ sideB b = b.Y2 - b.Y1 := by unfold okBox at hB; unfold sideB; omega
      have hfull : nearI (sideB b * n) (sideB b) = n := by rw [Int.mul_comm]; exact near_full hd
      show max (nearI ((b.X2 - b.X1) * n) (sideB b) - nearI ((b.X1 - b.X1) * n) (sideB b)) (nearI ((b.Y2 - b.Y1) * n) (sideB b) - nearI ((b.Y1 - b.Y1) * n) (sideB b)) = n
      rw [hz, hz2]
      rcases hmax with e | e
      · have e2 : nearI ((b.X2 - b.X1) * n) (sideB b) = n := by rw [← e]; exact hfull
        rw [e2]; omega
      · have e2 : nearI ((b.Y2 - b.Y1) * n) (sideB b) = n := by rw [← e]; exact hfull
        rw [e2]; omega
theorem cen_in {x : Ink} (ok : okInk' x = true) (h0 : ¬ (x.Strokes.length : Int) = 0) : (bxiR x).2 = 0 ∧ (bxiR x).1 = inkB x.Strokes x.Strokes.length ∧ (inkB x.Strokes x.Strokes.length).X1 ≤ (cenR x).1.X ∧ (cenR x).1.X ≤ (inkB x.Strokes x.Strokes.length).X2 := by
  have hb := cnI_bd (x := x) (fun j hj => inkB_has x.Strokes _ j hj) _ (Nat.le_refl _)
  have hc := ctI_bd ok _ (Nat.le_refl _)
  have e : cenR x = (⟨nearI (cnI x.Strokes x.Strokes.length).1 (ctI x.Strokes x.Strokes.length), nearI (cnI x.Strokes x.Strokes.length).2 (ctI x.Strokes x.Strokes.length)⟩, 0) := by rw [cenR, if_pos ok, if_neg h0]
  have e2 : bxiR x = (inkB x.Strokes x.Strokes.length, 0) := by rw [bxiR, if_pos ok, if_neg h0]
  rw [e, e2]
  exact ⟨rfl, rfl, near_mean (by omega) hb.1.1 hb.1.2⟩
theorem base_in {x : Ink} (ok : okInk' x = true) (h0 : ¬ (x.Strokes.length : Int) = 0) : (inkB x.Strokes x.Strokes.length).Y1 ≤ (ovR (fun b => b.Y2) x).1 ∧ (ovR (fun b => b.Y2) x).1 ≤ (inkB x.Strokes x.Strokes.length).Y2 := by
  rw [ovR_yes ok h0]
  have hm := medI_mem (xs := x.Strokes.map fun s => (skB s).Y2) (by simp; omega)
  obtain ⟨s, hs, e⟩ := List.mem_map.1 hm
  obtain ⟨j, hj, es⟩ := List.getElem_of_mem hs
  have hat : at_ x.Strokes j = s := by rw [at_eq hj]; exact es
  have h1 := inkB_has x.Strokes _ j hj
  have h2 := boxS_all (okI_all ok j hj)
  rw [hat] at h1 h2
  unfold inBox at h1
  show _ ≤ medI _ ∧ medI _ ≤ _
  rw [← e]
  have h3 : (skB s).Y1 ≤ (skB s).Y2 := h2.2.2.1
  omega

theorem mv_nil {dx dy : Int} {x : Ink} (h : (x.Strokes.length : Int) = 0) : mvR dx dy x = (⟨[]⟩, 0) := by rw [mvR, if_pos h]
theorem mv_some {dx dy : Int} {x : Ink} (h : ¬ (x.Strokes.length : Int) = 0) (h2 : (mvR dx dy x).2 = 0) : mvR dx dy x = (mpI (mvP dx dy) x, 0) ∧ okInk' (mpI (mvP dx dy) x) = true := by
  unfold mvR at *
  rw [if_neg h] at *
  by_cases e : okInk' (mpI (mvP dx dy) x) = true
  · rw [if_pos e]; exact ⟨rfl, e⟩
  · rw [if_neg e] at h2; cases h2
theorem mv_bad {dx dy : Int} {x : Ink} (h2 : ¬ (mvR dx dy x).2 = 0) : (mvR dx dy x).2 = 2 ∧ 0 < (x.Strokes.length : Int) := by
  unfold mvR at *
  by_cases h : (x.Strokes.length : Int) = 0
  · rw [if_pos h] at h2; exact absurd rfl h2
  · rw [if_neg h] at *
    by_cases e : okInk' (mpI (mvP dx dy) x) = true
    · rw [if_pos e] at h2; exact absurd rfl h2
    · rw [if_neg e]; exact ⟨rfl, by omega⟩
theorem mv_twice {dx : Int} {x : Ink} (ok : okInk' x = true) (h2 : (mvR dx 0 x).2 = 0) : okInk' (mvR dx 0 x).1 = true ∧ mvR (-dx) 0 (mvR dx 0 x).1 = (x, 0) := by
  by_cases h : (x.Strokes.length : Int) = 0
  · have hx : x = ⟨[]⟩ := by
      cases x with
      | mk ss => have : ss = [] := List.length_eq_zero_iff.1 (by simpa using h)
                 rw [this]
    rw [mv_nil h]
    subst hx
    exact ⟨rfl, mv_nil rfl⟩
  · have q := mv_some h h2
    rw [q.1]
    refine ⟨q.2, ?_⟩
    have hl : ¬ ((mpI (mvP dx 0) x).Strokes.length : Int) = 0 := by simpa [mpI] using h
    show mvR (-dx) 0 (mpI (mvP dx 0) x) = (x, 0)
    rw [mvR, if_neg hl, mv_back, if_pos ok]
theorem mv_boxes {dx : Int} {x : Ink} (ok : okInk' x = true) (h : ¬ (x.Strokes.length : Int) = 0) (h2 : (mvR dx 0 x).2 = 0) :
    (bxiR x).2 = 0 ∧ (bxiR (mvR dx 0 x).1).2 = 0 ∧ (bxiR (mvR dx 0 x).1).1 = ⟨(bxiR x).1.X1 + dx, (bxiR x).1.Y1, (bxiR x).1.X2 + dx, (bxiR x).1.Y2⟩ := by
  have q := mv_some h h2
  have hl : ¬ ((mpI (mvP dx 0) x).Strokes.length : Int) = 0 := by simpa [mpI] using h
  have hl2 : (mpI (mvP dx 0) x).Strokes.length = x.Strokes.length := by simp [mpI]
  rw [q.1]
  show _ ∧ (bxiR (mpI (mvP dx 0) x)).2 = 0 ∧ (bxiR (mpI (mvP dx 0) x)).1 = _
  rw [bxi_yes q.2 hl, bxi_yes ok h, hl2, mpI_box (f := mvP dx 0) (fx := fun a => a + dx) (fy := fun a => a) (fun p => by simp [mvP]) (fun a b h => by omega) (fun a b h => h) ok (by omega) _ (Nat.le_refl _)]
  exact ⟨rfl, rfl, rfl⟩
theorem mv_boxes0 {dx : Int} {x : Ink} (ok : okInk' x = true) (h : (x.Strokes.length : Int) = 0) : (bxiR x).2 = 6 ∧ (bxiR (mvR dx 0 x).1).2 = 6 := by
  rw [bxi_st ok h, mv_nil h]
  exact ⟨rfl, rfl⟩
theorem pt_bds {x : Ink} (ok : okInk' x = true) {k : Nat} (hk : k ≤ x.Strokes.length) : (0 ≤ (ptcR ⟨x.Strokes.take k⟩).1 ∧ (ptcR ⟨x.Strokes.take k⟩).1 ≤ 1000) ∧ 0 ≤ (ptcR ⟨x.Strokes.drop k⟩).1 ∧ (ptcR ⟨x.Strokes.drop k⟩).1 ≤ 1000 := by
  have o1 := okI_take ok k
  have o2 := okI_drop ok k
  rw [ptc_yes o1, ptc_yes o2]
  have b1 := ctI_bd o1 _ (Nat.le_refl _)
  have b2 := ctI_bd o2 _ (Nat.le_refl _)
  have l1 := okI_len o1
  have l2 := okI_len o2
  simp only at *
  omega
theorem bxi_bd {x : Ink} (ok : okInk' x = true) (h : ¬ (x.Strokes.length : Int) = 0) : okBox (bxiR x).1 := by
  rw [bxi_yes ok h]
  exact inkB_ok ok (by omega) _ (Nat.le_refl _)
theorem take_app {x : Ink} {i : Int} (h0 : 0 ≤ i) (hi : i.toNat < x.Strokes.length) : x.Strokes.take i.toNat ++ [at_ x.Strokes i.toNat] = x.Strokes.take (i + 1).toNat := (take_succ_at h0 hi rfl).symm
theorem pt_parts {x : Ink} (ok : okInk' x = true) {k : Nat} (hk : k ≤ x.Strokes.length) : (ptcR ⟨x.Strokes.take k⟩).1 + (ptcR ⟨x.Strokes.drop k⟩).1 = (ptcR x).1 ∧ (ptcR ⟨x.Strokes.take k⟩).2 = 0 ∧ (ptcR ⟨x.Strokes.drop k⟩).2 = 0 ∧ (ptcR x).2 = 0 := by
  rw [ptc_yes ok, ptc_yes (okI_take ok k), ptc_yes (okI_drop ok k)]
  refine ⟨?_, rfl, rfl, rfl⟩
  show ctI (x.Strokes.take k) (x.Strokes.take k).length + ctI (x.Strokes.drop k) (x.Strokes.drop k).length = ctI x.Strokes x.Strokes.length
  rw [List.length_take, Nat.min_eq_left hk, ctI_take _ _ (Nat.le_refl _), List.length_drop, ctI_drop, show k + (x.Strokes.length - k) = x.Strokes.length from by omega]

-- laws.FnInk
theorem fnInk_con (code : List Int) (more : List Int) (ok_code : ∀ y ∈ code, inR .u8 y) (ok_more : ∀ y ∈ more, inR .u8 y) : Con Tryz.prog 3 [slU8 false code, slU8 false more] true (Bv true) := by
  refine fn_ok (fn := Tryz.f3) (nt := 216) Tryz.func3 rfl rfl rfl rfl (by simp [taggedL, tagged, tagU8]) fun B hB => ?_
  refine aw_lens (x := slU8 false code) 0 rfl (fun len_code => ?_)
  simp [LenOK, LenL, cU8, fU8, slU8] at len_code
  refine aw_lens (x := slU8 false more) 1 rfl (fun len_more => ?_)
  simp [LenOK, LenL, cU8, fU8, slU8] at len_more
  refine aR [] [0, 1] [] [slU8 false code, slU8 false more] [] [] hB trivial ?_
  refine aw_seq ?_
  refine aw_seq ?_
  rcases Bool.eq_false_or_eq_true (decide (3000 < (code.length : Int) ∨ 3000 < (more.length : Int))) with h1 | h1
  ·refine aw_r [(2, .call [(true, .any), (true, .any)] true (Bv true))] [0, 1, 35] [] [slU8 false code, slU8 false more, Bv true] [] [Con Tryz.prog 8 [slU8 false code, slU8 false more] true (Bv true) ∧ True] hB ⟨⟨(con_bool h1 (a2Long_ok code more)), trivial⟩, trivial⟩ ?_
   refine ae_then ?_
   refine aw_true rfl ?_
   refine aR [] [4] [] [Bv true] [] [] hB trivial ?_
   refine aw_ret ?_
   refine ae_ret_then ?_
   refine ae_ret hB (Bv true) (by kernel_rfl) (.inl rfl) rfl (fun _ => trivial)
  have hc : (∀ j, j < code.length → 0 ≤ at_ code j ∧ at_ code j ≤ 255) ∧ code.length ≤ 4611686018427387904 := ⟨fun j hj => ok_code _ (at_mem hj), by first | omega | (simp at h1; omega)⟩
  have hmore : (∀ j, j < more.length → 0 ≤ at_ more j ∧ at_ more j ≤ 255) ∧ more.length ≤ 4611686018427387904 := ⟨fun j hj => ok_more _ (at_mem hj), by first | omega | (simp at h1; omega)⟩
  refine aw_r [(2, .call [(true, .any), (true, .any)] true (Bv false))] [0, 1, 35] [] [slU8 false code, slU8 false more, Bv false] [] [Con Tryz.prog 8 [slU8 false code, slU8 false more] true (Bv false) ∧ True] hB ⟨⟨(con_bool h1 (a2Long_ok code more)), trivial⟩, trivial⟩ ?_
  refine ae_then ?_
  refine aw_false rfl ?_
  refine aw_skip ?_
  refine ae_then ?_
  refine aw_seq ?_
  obtain ⟨ik_1, hx1_0, hx1_1, hc1⟩ := A2Ink_ok code (by assumption)
  have hok := hx1_0
  have hl6 := hx1_1
  have hkb := a2At_bd more 0 (n := (ik_1.Strokes.length : Int) + 1) (by omega)
  have hdb := a2At_bd more 1 (n := 256) (by decide)
  obtain ⟨kk, hkk⟩ : ∃ kk : Nat, a2AtI more 0 ((ik_1.Strokes.length : Int) + 1) = kk := ⟨(a2AtI more 0 ((ik_1.Strokes.length : Int) + 1)).toNat, by omega⟩
  have hpp := pt_parts hok (k := kk) (by omega)
  refine aw_r [(1, .call [(true, .any)] true (.agg [slStroke true ik_1.Strokes])), (2, .new 5)] [1, 5] [5] [slU8 false more, .ref 5 0] [some (.box [slStroke true ik_1.Strokes])] [Con Tryz.prog 9 [slU8 false code] true (.agg [slStroke true ik_1.Strokes]) ∧ True] hB ⟨⟨hc1, trivial⟩, trivial⟩ ?_
  refine ae_then ?_
  refine aw_seq ?_
  obtain ⟨v_2, c_2, hx2_0, hx2_1, hc2⟩ := ReadInk_ok (inkTx ik_1) ⟨ik_1, hok, rfl⟩
  have hrv : v_2 = ik_1 := by rw [hx2_0]; exact rdInk_tx hok
  refine aw_r [(1, .call [(false, .agg [slStroke false ik_1.Strokes])] true (Sv (inkTx ik_1))), (2, .call [(true, .any)] true (.tup [.agg [slStroke true v_2.Strokes], Bv c_2])), (6, .new 6)] [1, 5, 6, 7] [5, 6] [slU8 false more, .ref 5 0, .ref 6 0, Bv c_2] [some (.box [slStroke true ik_1.Strokes]), some (.box [slStroke true v_2.Strokes])] [Con Tryz.prog 11 [.agg [slStroke false ik_1.Strokes]] true (Sv (inkTx ik_1)) ∧ (((false = true → true = true) ∧ 1 = 1 ∧ ik_1.Strokes.length = ik_1.Strokes.length ∧ ∀ i_, i_ < ik_1.Strokes.length → (fStroke true ik_1.Strokes) i_ = (fStroke false ik_1.Strokes) i_ ∨ (AV.idsL ((fStroke false ik_1.Strokes) i_) = [] ∧ leL (fun _ => none) false ((fStroke true ik_1.Strokes) i_) ((fStroke false ik_1.Strokes) i_))) ∧ ([] : List AV) = []) ∧ True, Con Tryz.prog 10 [Sv (inkTx ik_1)] true (.tup [.agg [slStroke true v_2.Strokes], Bv c_2]) ∧ True] hB ⟨⟨(InkText_ok ik_1), ⟨⟨(fun h => by cases h), rfl, rfl, fun i _ => .inr ⟨idsStroke _ _, leStroke _ _ _⟩⟩, rfl⟩, trivial⟩, ⟨hc2, trivial⟩, trivial⟩ ?_
  refine ae_then ?_
  refine aw_seq ?_
  refine aw_seq ?_
  obtain rfl : c_2 = true := hx2_1
  refine aw_r [(5, .call [(false, .agg [slStroke false v_2.Strokes]), (false, .agg [slStroke false ik_1.Strokes])] true (Bv true)), (10, .call [(false, .agg [slStroke false ik_1.Strokes])] true (Bv true))] [1, 5, 56] [5] [slU8 false more, .ref 5 0, Bv false] [some (.box [slStroke true ik_1.Strokes])] [Con Tryz.prog 12 [.agg [slStroke false v_2.Strokes], .agg [slStroke false ik_1.Strokes]] true (Bv true) ∧ (((false = true → true = true) ∧ 1 = 1 ∧ v_2.Strokes.length = v_2.Strokes.length ∧ ∀ i_, i_ < v_2.Strokes.length → (fStroke true v_2.Strokes) i_ = (fStroke false v_2.Strokes) i_ ∨ (AV.idsL ((fStroke false v_2.Strokes) i_) = [] ∧ leL (fun _ => none) false ((fStroke true v_2.Strokes) i_) ((fStroke false v_2.Strokes) i_))) ∧ ([] : List AV) = []) ∧ (((false = true → true = true) ∧ 1 = 1 ∧ ik_1.Strokes.length = ik_1.Strokes.length ∧ ∀ i_, i_ < ik_1.Strokes.length → (fStroke true ik_1.Strokes) i_ = (fStroke false ik_1.Strokes) i_ ∨ (AV.idsL ((fStroke false ik_1.Strokes) i_) = [] ∧ leL (fun _ => none) false ((fStroke true ik_1.Strokes) i_) ((fStroke false ik_1.Strokes) i_))) ∧ ([] : List AV) = []) ∧ True, Con Tryz.prog 13 [.agg [slStroke false ik_1.Strokes]] true (Bv true) ∧ (((false = true → true = true) ∧ 1 = 1 ∧ ik_1.Strokes.length = ik_1.Strokes.length ∧ ∀ i_, i_ < ik_1.Strokes.length → (fStroke true ik_1.Strokes) i_ = (fStroke false ik_1.Strokes) i_ ∨ (AV.idsL ((fStroke false ik_1.Strokes) i_) = [] ∧ leL (fun _ => none) false ((fStroke true ik_1.Strokes) i_) ((fStroke false ik_1.Strokes) i_))) ∧ ([] : List AV) = []) ∧ True] hB ⟨⟨(con_bool (sameI_of (by first | exact hrv | exact hagx | (rw [hrv]; exact (congrArg Prod.fst hmk.2)))) (specSameInk_ok v_2 ik_1)), ⟨⟨(fun h => by cases h), rfl, rfl, fun i _ => .inr ⟨idsStroke _ _, leStroke _ _ _⟩⟩, rfl⟩, ⟨⟨(fun h => by cases h), rfl, rfl, fun i _ => .inr ⟨idsStroke _ _, leStroke _ _ _⟩⟩, rfl⟩, trivial⟩, ⟨(con_bool hok (ValidInk_ok ik_1)), ⟨⟨(fun h => by cases h), rfl, rfl, fun i _ => .inr ⟨idsStroke _ _, leStroke _ _ _⟩⟩, rfl⟩, trivial⟩, trivial⟩ ?_
  refine ae_then ?_
  refine aw_false rfl ?_
  refine aw_skip ?_
  refine ae_then ?_
  refine aR [] [1, 5, 8] [5] [slU8 false more, .ref 5 0, I (ik_1.Strokes.length : Int)] [some (.box [slStroke true ik_1.Strokes])] [] hB trivial ?_
  refine aR [(3, .call [(true, .any), (true, .any), (true, .any)] true (I (a2AtI more 0 ((ik_1.Strokes.length : Int) + 1))))] [1, 5, 8, 9] [5] [slU8 false more, .ref 5 0, I (ik_1.Strokes.length : Int), I (a2AtI more 0 ((ik_1.Strokes.length : Int) + 1))] [some (.box [slStroke true ik_1.Strokes])] [inR .i64 ((ik_1.Strokes.length : Int) + 1), Con Tryz.prog 14 [slU8 false more, I 0, I ((ik_1.Strokes.length : Int) + 1)] true (I (a2AtI more 0 ((ik_1.Strokes.length : Int) + 1))) ∧ True] hB ⟨(inR_i64 (by omega) (by omega)), ⟨(a2At_ok more 0 ((ik_1.Strokes.length : Int) + 1) hmore.1 (by omega)), trivial⟩, trivial⟩ ?_
  refine aw_seq ?_
  obtain ⟨v_3, c_3, hx3_0, hx3_1, hc3⟩ := CutInk_ok ik_1 0 (a2AtI more 0 ((ik_1.Strokes.length : Int) + 1)) hok (by omega)
  have hfirst : v_3 = ⟨ik_1.Strokes.take kk⟩ := by rw [hx3_0, hkk]; rfl
  refine aw_r [(2, .call [(false, .agg [slStroke false ik_1.Strokes]), (true, .any), (true, .any)] true (.tup [.agg [slStroke true v_3.Strokes], I c_3])), (6, .new 10)] [1, 5, 8, 9, 10, 11] [5, 10] [slU8 false more, .ref 5 0, I (ik_1.Strokes.length : Int), I (a2AtI more 0 ((ik_1.Strokes.length : Int) + 1)), .ref 10 0, I c_3] [some (.box [slStroke true ik_1.Strokes]), some (.box [slStroke true v_3.Strokes])] [Con Tryz.prog 15 [.agg [slStroke false ik_1.Strokes], I 0, I (a2AtI more 0 ((ik_1.Strokes.length : Int) + 1))] true (.tup [.agg [slStroke true v_3.Strokes], I c_3]) ∧ (((false = true → true = true) ∧ 1 = 1 ∧ ik_1.Strokes.length = ik_1.Strokes.length ∧ ∀ i_, i_ < ik_1.Strokes.length → (fStroke true ik_1.Strokes) i_ = (fStroke false ik_1.Strokes) i_ ∨ (AV.idsL ((fStroke false ik_1.Strokes) i_) = [] ∧ leL (fun _ => none) false ((fStroke true ik_1.Strokes) i_) ((fStroke false ik_1.Strokes) i_))) ∧ ([] : List AV) = []) ∧ True] hB ⟨⟨hc3, ⟨⟨(fun h => by cases h), rfl, rfl, fun i _ => .inr ⟨idsStroke _ _, leStroke _ _ _⟩⟩, rfl⟩, trivial⟩, trivial⟩ ?_
  refine ae_then ?_
  refine aR [(1, .new 12)] [1, 5, 8, 9, 10, 11, 12] [5, 10, 12] [slU8 false more, .ref 5 0, I (ik_1.Strokes.length : Int), I (a2AtI more 0 ((ik_1.Strokes.length : Int) + 1)), .ref 10 0, I c_3, .ref 12 0] [some (.box [slStroke true ik_1.Strokes]), some (.box [slStroke true v_3.Strokes]), some (.box [slStroke true v_3.Strokes])] [] hB trivial ?_
  refine aw_seq ?_
  refine aR [] [1, 5, 8, 9, 10, 11, 12, 13] [5, 10, 12] [slU8 false more, .ref 5 0, I (ik_1.Strokes.length : Int), I (a2AtI more 0 ((ik_1.Strokes.length : Int) + 1)), .ref 10 0, I c_3, .ref 12 0, I (a2AtI more 0 ((ik_1.Strokes.length : Int) + 1))] [some (.box [slStroke true ik_1.Strokes]), some (.box [slStroke true v_3.Strokes]), some (.box [slStroke true v_3.Strokes])] [] hB trivial ?_
  refine aw_block ?_
  refine aw_loop (fun gn gσ => ∃ (i : Int) (again : Ink), gn = ((ik_1.Strokes.length : Int) - i).toNat ∧ (0 ≤ i ∧ (kk : Int) ≤ i ∧ i ≤ (ik_1.Strokes.length : Int)) ∧ (again = ⟨ik_1.Strokes.take i.toNat⟩) ∧ gσ = mkS [(1, slU8 false more), (5, .ref 5 0), (8, I (ik_1.Strokes.length : Int)), (9, I (a2AtI more 0 ((ik_1.Strokes.length : Int) + 1))), (10, .ref 10 0), (11, I c_3), (12, .ref 12 0), (13, I i)] [(5, .box [slStroke true ik_1.Strokes]), (10, .box [slStroke true v_3.Strokes]), (12, .box [slStroke true again.Strokes])]) (((ik_1.Strokes.length : Int) - (a2AtI more 0 ((ik_1.Strokes.length : Int) + 1))).toNat) ⟨(a2AtI more 0 ((ik_1.Strokes.length : Int) + 1)), v_3, rfl, (by omega), (by rw [hfirst, hkk]; rfl), rfl⟩ (fun gn gσ hI => ?_)
  obtain ⟨i, again, rfl, hi0, hag, rfl⟩ := hI
  refine aw_seq ?_
  refine aw_seq ?_
  by_cases h2 : i < (ik_1.Strokes.length : Int)
  ·have hi : i.toNat < ik_1.Strokes.length := by omega
   refine aw_r [(2, .dec true)] [1, 5, 8, 9, 10, 11, 12, 13, 74] [5, 10, 12] [slU8 false more, .ref 5 0, I (ik_1.Strokes.length : Int), I (a2AtI more 0 ((ik_1.Strokes.length : Int) + 1)), .ref 10 0, I c_3, .ref 12 0, I i, Bv true] [some (.box [slStroke true ik_1.Strokes]), some (.box [slStroke true v_3.Strokes]), some (.box [slStroke true again.Strokes])] [i < (ik_1.Strokes.length : Int)] hB ⟨h2, trivial⟩ ?_
   refine ae_then ?_
   refine aw_true rfl ?_
   refine aw_skip ?_
   refine ae_then ?_
   refine aw_seq ?_
   refine aw_block ?_
   refine aw_seq ?_
   obtain ⟨v_4, c_4, hx4_0, hx4_1, hc4⟩ := AddStroke_ok again (at_ ik_1.Strokes i.toNat) (by rw [hag]; exact okI_take hok _) (okI_all hok _ hi) (by rw [hag]; show okInk' ⟨ik_1.Strokes.take i.toNat ++ [at_ ik_1.Strokes i.toNat]⟩ = true; rw [take_app hi0.1 hi]; exact okI_take hok _) (by rw [hag]; show (ik_1.Strokes.take i.toNat).length < 16; rw [List.length_take]; omega)
   have hnx : v_4 = ⟨ik_1.Strokes.take (i + 1).toNat⟩ := by rw [hx4_0, hag]; exact congrArg Ink.mk (take_app hi0.1 hi)
   refine aw_r [(6, .call [(false, .agg [slStroke false again.Strokes]), (false, .agg [slPoint false ((at_ ik_1.Strokes i.toNat).Points)])] true (.tup [.agg [slStroke true v_4.Strokes], I c_4])), (10, .new 14)] [1, 5, 8, 9, 10, 11, 12, 13, 14, 15] [5, 10, 12, 14] [slU8 false more, .ref 5 0, I (ik_1.Strokes.length : Int), I (a2AtI more 0 ((ik_1.Strokes.length : Int) + 1)), .ref 10 0, I c_3, .ref 12 0, I i, .ref 14 0, I c_4] [some (.box [slStroke true ik_1.Strokes]), some (.box [slStroke true v_3.Strokes]), some (.box [slStroke true again.Strokes]), some (.box [slStroke true v_4.Strokes])] [(0 : Int) ≤ i ∧ i < (ik_1.Strokes.length : Int), Con Tryz.prog 16 [.agg [slStroke false again.Strokes], .agg [slPoint false ((at_ ik_1.Strokes i.toNat).Points)]] true (.tup [.agg [slStroke true v_4.Strokes], I c_4]) ∧ (((false = true → true = true) ∧ 1 = 1 ∧ again.Strokes.length = again.Strokes.length ∧ ∀ i_, i_ < again.Strokes.length → (fStroke true again.Strokes) i_ = (fStroke false again.Strokes) i_ ∨ (AV.idsL ((fStroke false again.Strokes) i_) = [] ∧ leL (fun _ => none) false ((fStroke true again.Strokes) i_) ((fStroke false again.Strokes) i_))) ∧ ([] : List AV) = []) ∧ (((false = true → true = true) ∧ 3 = 3 ∧ (((at_ ik_1.Strokes i.toNat).Points).length) = (((at_ ik_1.Strokes i.toNat).Points).length) ∧ ∀ i_, i_ < (((at_ ik_1.Strokes i.toNat).Points).length) → (fPoint ((at_ ik_1.Strokes i.toNat).Points)) i_ = (fPoint ((at_ ik_1.Strokes i.toNat).Points)) i_ ∨ (AV.idsL ((fPoint ((at_ ik_1.Strokes i.toNat).Points)) i_) = [] ∧ leL (fun _ => none) false ((fPoint ((at_ ik_1.Strokes i.toNat).Points)) i_) ((fPoint ((at_ ik_1.Strokes i.toNat).Points)) i_))) ∧ ([] : List AV) = []) ∧ True] hB ⟨⟨(by omega), (by omega)⟩, ⟨hc4, ⟨⟨(fun h => by cases h), rfl, rfl, fun i _ => .inr ⟨idsStroke _ _, leStroke _ _ _⟩⟩, rfl⟩, ⟨⟨(fun h => by cases h), rfl, rfl, fun i _ => .inl rfl⟩, rfl⟩, trivial⟩, trivial⟩ ?_
   refine ae_then ?_
   refine aw_seq ?_
   refine aR [(1, .dec false)] [1, 5, 8, 9, 10, 11, 12, 13, 14, 88] [5, 10, 12, 14] [slU8 false more, .ref 5 0, I (ik_1.Strokes.length : Int), I (a2AtI more 0 ((ik_1.Strokes.length : Int) + 1)), .ref 10 0, I c_3, .ref 12 0, I i, .ref 14 0, Bv false] [some (.box [slStroke true ik_1.Strokes]), some (.box [slStroke true v_3.Strokes]), some (.box [slStroke true again.Strokes]), some (.box [slStroke true v_4.Strokes])] [¬ (c_4 ≠ 0)] hB ⟨(fun hq => hq hx4_1), trivial⟩ ?_
   refine aw_false rfl ?_
   refine aw_skip ?_
   refine ae_then ?_
   refine aw_r [] [1, 5, 8, 9, 10, 11, 12, 13] [5, 10, 12] [slU8 false more, .ref 5 0, I (ik_1.Strokes.length : Int), I (a2AtI more 0 ((ik_1.Strokes.length : Int) + 1)), .ref 10 0, I c_3, .ref 12 0, I i] [some (.box [slStroke true ik_1.Strokes]), some (.box [slStroke true v_3.Strokes]), some (.box [slStroke true v_4.Strokes])] [] hB trivial ?_
   refine ae_block 1 ?_
   refine ae_then ?_
   refine aw_r [] [1, 5, 8, 9, 10, 11, 12, 13] [5, 10, 12] [slU8 false more, .ref 5 0, I (ik_1.Strokes.length : Int), I (a2AtI more 0 ((ik_1.Strokes.length : Int) + 1)), .ref 10 0, I c_3, .ref 12 0, I (i + 1)] [some (.box [slStroke true ik_1.Strokes]), some (.box [slStroke true v_3.Strokes]), some (.box [slStroke true v_4.Strokes])] [inR .i64 (i + 1)] hB ⟨(inR_i64 (by omega) (by omega)), trivial⟩ ?_
   exact ae_again _ (by omega) ⟨(i + 1), v_4, rfl, (by omega), (by exact hnx), rfl⟩
  have hie : i.toNat = ik_1.Strokes.length := by omega
  have hagx : again = ik_1 := by rw [hag, hie, List.take_length]
  refine aw_r [(2, .dec false)] [1, 5, 8, 9, 10, 11, 12, 13, 74] [5, 10, 12] [slU8 false more, .ref 5 0, I (ik_1.Strokes.length : Int), I (a2AtI more 0 ((ik_1.Strokes.length : Int) + 1)), .ref 10 0, I c_3, .ref 12 0, I i, Bv false] [some (.box [slStroke true ik_1.Strokes]), some (.box [slStroke true v_3.Strokes]), some (.box [slStroke true again.Strokes])] [¬ (i < (ik_1.Strokes.length : Int))] hB ⟨h2, trivial⟩ ?_
  refine ae_then ?_
  refine aw_false rfl ?_
  refine aw_exit ?_
  refine ae_exit_then ?_
  refine ae_exit_then ?_
  refine ae_exit_same ?_
  refine ae_then ?_
  refine aR [(1, .call [(false, .agg [slStroke false ik_1.Strokes])] true (.tup [I ((ptcR ik_1).1), I ((ptcR ik_1).2)]))] [1, 5, 8, 9, 10, 11, 12, 16, 17] [5, 10, 12] [slU8 false more, .ref 5 0, I (ik_1.Strokes.length : Int), I (a2AtI more 0 ((ik_1.Strokes.length : Int) + 1)), .ref 10 0, I c_3, .ref 12 0, I ((ptcR ik_1).1), I ((ptcR ik_1).2)] [some (.box [slStroke true ik_1.Strokes]), some (.box [slStroke true v_3.Strokes]), some (.box [slStroke true again.Strokes])] [Con Tryz.prog 17 [.agg [slStroke false ik_1.Strokes]] true (.tup [I ((ptcR ik_1).1), I ((ptcR ik_1).2)]) ∧ (((false = true → true = true) ∧ 1 = 1 ∧ ik_1.Strokes.length = ik_1.Strokes.length ∧ ∀ i_, i_ < ik_1.Strokes.length → (fStroke true ik_1.Strokes) i_ = (fStroke false ik_1.Strokes) i_ ∨ (AV.idsL ((fStroke false ik_1.Strokes) i_) = [] ∧ leL (fun _ => none) false ((fStroke true ik_1.Strokes) i_) ((fStroke false ik_1.Strokes) i_))) ∧ ([] : List AV) = []) ∧ True] hB ⟨⟨(PointCount_ok ik_1), ⟨⟨(fun h => by cases h), rfl, rfl, fun i _ => .inr ⟨idsStroke _ _, leStroke _ _ _⟩⟩, rfl⟩, trivial⟩, trivial⟩ ?_
  refine aR [(1, .call [(false, .agg [slStroke false v_3.Strokes])] true (.tup [I ((ptcR v_3).1), I ((ptcR v_3).2)]))] [1, 5, 8, 9, 11, 12, 16, 17, 18, 19] [5, 12] [slU8 false more, .ref 5 0, I (ik_1.Strokes.length : Int), I (a2AtI more 0 ((ik_1.Strokes.length : Int) + 1)), I c_3, .ref 12 0, I ((ptcR ik_1).1), I ((ptcR ik_1).2), I ((ptcR v_3).1), I ((ptcR v_3).2)] [some (.box [slStroke true ik_1.Strokes]), some (.box [slStroke true again.Strokes])] [Con Tryz.prog 17 [.agg [slStroke false v_3.Strokes]] true (.tup [I ((ptcR v_3).1), I ((ptcR v_3).2)]) ∧ (((false = true → true = true) ∧ 1 = 1 ∧ v_3.Strokes.length = v_3.Strokes.length ∧ ∀ i_, i_ < v_3.Strokes.length → (fStroke true v_3.Strokes) i_ = (fStroke false v_3.Strokes) i_ ∨ (AV.idsL ((fStroke false v_3.Strokes) i_) = [] ∧ leL (fun _ => none) false ((fStroke true v_3.Strokes) i_) ((fStroke false v_3.Strokes) i_))) ∧ ([] : List AV) = []) ∧ True] hB ⟨⟨(PointCount_ok v_3), ⟨⟨(fun h => by cases h), rfl, rfl, fun i _ => .inr ⟨idsStroke _ _, leStroke _ _ _⟩⟩, rfl⟩, trivial⟩, trivial⟩ ?_
  refine aw_seq ?_
  obtain ⟨v_5, c_5, hx5_0, hx5_1, hc5⟩ := CutInk_ok ik_1 (a2AtI more 0 ((ik_1.Strokes.length : Int) + 1)) (ik_1.Strokes.length : Int) hok (by omega)
  have hrest : v_5 = ⟨ik_1.Strokes.drop kk⟩ := by rw [hx5_0, hkk]; simp
  have hpb := pt_bds hok (k := kk) (by omega)
  rw [← hfirst, ← hrest] at hpb
  refine aw_r [(3, .call [(false, .agg [slStroke false ik_1.Strokes]), (true, .any), (true, .any)] true (.tup [.agg [slStroke true v_5.Strokes], I c_5])), (7, .new 20)] [1, 5, 8, 11, 12, 16, 17, 18, 19, 20, 21] [5, 12, 20] [slU8 false more, .ref 5 0, I (ik_1.Strokes.length : Int), I c_3, .ref 12 0, I ((ptcR ik_1).1), I ((ptcR ik_1).2), I ((ptcR v_3).1), I ((ptcR v_3).2), .ref 20 0, I c_5] [some (.box [slStroke true ik_1.Strokes]), some (.box [slStroke true again.Strokes]), some (.box [slStroke true v_5.Strokes])] [Con Tryz.prog 15 [.agg [slStroke false ik_1.Strokes], I (a2AtI more 0 ((ik_1.Strokes.length : Int) + 1)), I (ik_1.Strokes.length : Int)] true (.tup [.agg [slStroke true v_5.Strokes], I c_5]) ∧ (((false = true → true = true) ∧ 1 = 1 ∧ ik_1.Strokes.length = ik_1.Strokes.length ∧ ∀ i_, i_ < ik_1.Strokes.length → (fStroke true ik_1.Strokes) i_ = (fStroke false ik_1.Strokes) i_ ∨ (AV.idsL ((fStroke false ik_1.Strokes) i_) = [] ∧ leL (fun _ => none) false ((fStroke true ik_1.Strokes) i_) ((fStroke false ik_1.Strokes) i_))) ∧ ([] : List AV) = []) ∧ True] hB ⟨⟨hc5, ⟨⟨(fun h => by cases h), rfl, rfl, fun i _ => .inr ⟨idsStroke _ _, leStroke _ _ _⟩⟩, rfl⟩, trivial⟩, trivial⟩ ?_
  refine ae_then ?_
  refine aR [(1, .call [(false, .agg [slStroke false v_5.Strokes])] true (.tup [I ((ptcR v_5).1), I ((ptcR v_5).2)]))] [1, 5, 8, 11, 12, 16, 17, 18, 19, 21, 22, 23] [5, 12] [slU8 false more, .ref 5 0, I (ik_1.Strokes.length : Int), I c_3, .ref 12 0, I ((ptcR ik_1).1), I ((ptcR ik_1).2), I ((ptcR v_3).1), I ((ptcR v_3).2), I c_5, I ((ptcR v_5).1), I ((ptcR v_5).2)] [some (.box [slStroke true ik_1.Strokes]), some (.box [slStroke true again.Strokes])] [Con Tryz.prog 17 [.agg [slStroke false v_5.Strokes]] true (.tup [I ((ptcR v_5).1), I ((ptcR v_5).2)]) ∧ (((false = true → true = true) ∧ 1 = 1 ∧ v_5.Strokes.length = v_5.Strokes.length ∧ ∀ i_, i_ < v_5.Strokes.length → (fStroke true v_5.Strokes) i_ = (fStroke false v_5.Strokes) i_ ∨ (AV.idsL ((fStroke false v_5.Strokes) i_) = [] ∧ leL (fun _ => none) false ((fStroke true v_5.Strokes) i_) ((fStroke false v_5.Strokes) i_))) ∧ ([] : List AV) = []) ∧ True] hB ⟨⟨(PointCount_ok v_5), ⟨⟨(fun h => by cases h), rfl, rfl, fun i _ => .inr ⟨idsStroke _ _, leStroke _ _ _⟩⟩, rfl⟩, trivial⟩, trivial⟩ ?_
  refine aw_seq ?_
  refine aR [(1, .dec false), (5, .call [(false, .agg [slStroke false again.Strokes]), (false, .agg [slStroke false ik_1.Strokes])] true (Bv true)), (10, .dec false), (14, .dec false), (18, .dec false), (22, .dec false), (29, .dec false)] [1, 5, 8, 142] [5] [slU8 false more, .ref 5 0, I (ik_1.Strokes.length : Int), Bv false] [some (.box [slStroke true ik_1.Strokes])] [¬ (c_3 ≠ 0), Con Tryz.prog 12 [.agg [slStroke false again.Strokes], .agg [slStroke false ik_1.Strokes]] true (Bv true) ∧ (((false = true → true = true) ∧ 1 = 1 ∧ again.Strokes.length = again.Strokes.length ∧ ∀ i_, i_ < again.Strokes.length → (fStroke true again.Strokes) i_ = (fStroke false again.Strokes) i_ ∨ (AV.idsL ((fStroke false again.Strokes) i_) = [] ∧ leL (fun _ => none) false ((fStroke true again.Strokes) i_) ((fStroke false again.Strokes) i_))) ∧ ([] : List AV) = []) ∧ (((false = true → true = true) ∧ 1 = 1 ∧ ik_1.Strokes.length = ik_1.Strokes.length ∧ ∀ i_, i_ < ik_1.Strokes.length → (fStroke true ik_1.Strokes) i_ = (fStroke false ik_1.Strokes) i_ ∨ (AV.idsL ((fStroke false ik_1.Strokes) i_) = [] ∧ leL (fun _ => none) false ((fStroke true ik_1.Strokes) i_) ((fStroke false ik_1.Strokes) i_))) ∧ ([] : List AV) = []) ∧ True, ¬ (((ptcR ik_1).2) ≠ 0), ¬ (((ptcR v_3).2) ≠ 0), ¬ (c_5 ≠ 0), ¬ (((ptcR v_5).2) ≠ 0), inR .i64 (((ptcR v_3).1) + ((ptcR v_5).1)), ¬ ((((ptcR v_3).1) + ((ptcR v_5).1)) ≠ ((ptcR ik_1).1))] hB ⟨(fun hq => hq hx3_1), ⟨(con_bool (sameI_of (by first | exact hrv | exact hagx | (rw [hrv]; exact (congrArg Prod.fst hmk.2)))) (specSameInk_ok again ik_1)), ⟨⟨(fun h => by cases h), rfl, rfl, fun i _ => .inr ⟨idsStroke _ _, leStroke _ _ _⟩⟩, rfl⟩, ⟨⟨(fun h => by cases h), rfl, rfl, fun i _ => .inr ⟨idsStroke _ _, leStroke _ _ _⟩⟩, rfl⟩, trivial⟩, (fun hq => hq (by first | exact hpp.2.2.2 | (rw [hfirst]; exact hpp.2.1) | (rw [hrest]; exact hpp.2.2.1))), (fun hq => hq (by first | exact hpp.2.2.2 | (rw [hfirst]; exact hpp.2.1) | (rw [hrest]; exact hpp.2.2.1))), (fun hq => hq hx5_1), (fun hq => hq (by first | exact hpp.2.2.2 | (rw [hfirst]; exact hpp.2.1) | (rw [hrest]; exact hpp.2.2.1))), (inR_i64 (by omega) (by omega)), (fun hq => hq (by rw [hfirst, hrest]; exact hpp.1)), trivial⟩ ?_
  refine aw_false rfl ?_
  refine aw_skip ?_
  refine ae_then ?_
  refine aR [(1, .call [(true, .any), (true, .any), (true, .any)] true (I (a2AtI more 1 256)))] [5, 8, 24] [5] [.ref 5 0, I (ik_1.Strokes.length : Int), I (a2AtI more 1 256)] [some (.box [slStroke true ik_1.Strokes])] [Con Tryz.prog 14 [slU8 false more, I 1, I 256] true (I (a2AtI more 1 256)) ∧ True] hB ⟨⟨(a2At_ok more 1 256 hmore.1 (by omega)), trivial⟩, trivial⟩ ?_
  refine aw_seq ?_
  obtain ⟨v_6, c_6, hx6_0, hx6_1, hc6⟩ := implMoveInk_ok ik_1 (a2AtI more 1 256) 0 hok (by omega)
  refine aw_r [(2, .call [(false, .agg [slStroke false ik_1.Strokes]), (true, .any), (true, .any)] true (.tup [.agg [slStroke true v_6.Strokes], I c_6])), (6, .new 25)] [5, 8, 24, 25, 26] [5, 25] [.ref 5 0, I (ik_1.Strokes.length : Int), I (a2AtI more 1 256), .ref 25 0, I c_6] [some (.box [slStroke true ik_1.Strokes]), some (.box [slStroke true v_6.Strokes])] [Con Tryz.prog 18 [.agg [slStroke false ik_1.Strokes], I (a2AtI more 1 256), I 0] true (.tup [.agg [slStroke true v_6.Strokes], I c_6]) ∧ (((false = true → true = true) ∧ 1 = 1 ∧ ik_1.Strokes.length = ik_1.Strokes.length ∧ ∀ i_, i_ < ik_1.Strokes.length → (fStroke true ik_1.Strokes) i_ = (fStroke false ik_1.Strokes) i_ ∨ (AV.idsL ((fStroke false ik_1.Strokes) i_) = [] ∧ leL (fun _ => none) false ((fStroke true ik_1.Strokes) i_) ((fStroke false ik_1.Strokes) i_))) ∧ ([] : List AV) = []) ∧ True] hB ⟨⟨hc6, ⟨⟨(fun h => by cases h), rfl, rfl, fun i _ => .inr ⟨idsStroke _ _, leStroke _ _ _⟩⟩, rfl⟩, trivial⟩, trivial⟩ ?_
  refine ae_then ?_
  refine aw_seq ?_
  refine aw_seq ?_
  by_cases h3 : c_6 = 0
  ·have h60 : (mvR (a2AtI more 1 256) 0 ik_1).2 = 0 := by rw [← hx6_1]; exact h3
   have hmk := mv_twice hok h60
   rw [← hx6_0] at hmk
   refine aw_r [(1, .dec false)] [5, 8, 24, 25, 26, 152] [5, 25] [.ref 5 0, I (ik_1.Strokes.length : Int), I (a2AtI more 1 256), .ref 25 0, I c_6, Bv false] [some (.box [slStroke true ik_1.Strokes]), some (.box [slStroke true v_6.Strokes])] [¬ (c_6 ≠ 0)] hB ⟨(fun hq => hq h3), trivial⟩ ?_
   refine ae_then ?_
   refine aw_false rfl ?_
   refine aw_skip ?_
   refine ae_then ?_
   refine aw_seq ?_
   obtain ⟨v_7, c_7, hx7_0, hx7_1, hc7⟩ := implMoveInk_ok v_6 (-(a2AtI more 1 256)) 0 hmk.1 (by omega)
   refine aw_r [(3, .call [(false, .agg [slStroke false v_6.Strokes]), (true, .any), (true, .any)] true (.tup [.agg [slStroke true v_7.Strokes], I c_7])), (7, .new 27)] [5, 8, 24, 25, 27, 28] [5, 25, 27] [.ref 5 0, I (ik_1.Strokes.length : Int), I (a2AtI more 1 256), .ref 25 0, .ref 27 0, I c_7] [some (.box [slStroke true ik_1.Strokes]), some (.box [slStroke true v_6.Strokes]), some (.box [slStroke true v_7.Strokes])] [inR .i64 (-(a2AtI more 1 256)), Con Tryz.prog 18 [.agg [slStroke false v_6.Strokes], I (-(a2AtI more 1 256)), I 0] true (.tup [.agg [slStroke true v_7.Strokes], I c_7]) ∧ (((false = true → true = true) ∧ 1 = 1 ∧ v_6.Strokes.length = v_6.Strokes.length ∧ ∀ i_, i_ < v_6.Strokes.length → (fStroke true v_6.Strokes) i_ = (fStroke false v_6.Strokes) i_ ∨ (AV.idsL ((fStroke false v_6.Strokes) i_) = [] ∧ leL (fun _ => none) false ((fStroke true v_6.Strokes) i_) ((fStroke false v_6.Strokes) i_))) ∧ ([] : List AV) = []) ∧ True] hB ⟨(inR_i64 (by omega) (by omega)), ⟨hc7, ⟨⟨(fun h => by cases h), rfl, rfl, fun i _ => .inr ⟨idsStroke _ _, leStroke _ _ _⟩⟩, rfl⟩, trivial⟩, trivial⟩ ?_
   refine ae_then ?_
   refine aw_seq ?_
   refine aR [(1, .dec false), (5, .call [(false, .agg [slStroke false v_7.Strokes]), (false, .agg [slStroke false ik_1.Strokes])] true (Bv true))] [5, 8, 24, 25, 173] [5, 25] [.ref 5 0, I (ik_1.Strokes.length : Int), I (a2AtI more 1 256), .ref 25 0, Bv false] [some (.box [slStroke true ik_1.Strokes]), some (.box [slStroke true v_6.Strokes])] [¬ (c_7 ≠ 0), Con Tryz.prog 12 [.agg [slStroke false v_7.Strokes], .agg [slStroke false ik_1.Strokes]] true (Bv true) ∧ (((false = true → true = true) ∧ 1 = 1 ∧ v_7.Strokes.length = v_7.Strokes.length ∧ ∀ i_, i_ < v_7.Strokes.length → (fStroke true v_7.Strokes) i_ = (fStroke false v_7.Strokes) i_ ∨ (AV.idsL ((fStroke false v_7.Strokes) i_) = [] ∧ leL (fun _ => none) false ((fStroke true v_7.Strokes) i_) ((fStroke false v_7.Strokes) i_))) ∧ ([] : List AV) = []) ∧ (((false = true → true = true) ∧ 1 = 1 ∧ ik_1.Strokes.length = ik_1.Strokes.length ∧ ∀ i_, i_ < ik_1.Strokes.length → (fStroke true ik_1.Strokes) i_ = (fStroke false ik_1.Strokes) i_ ∨ (AV.idsL ((fStroke false ik_1.Strokes) i_) = [] ∧ leL (fun _ => none) false ((fStroke true ik_1.Strokes) i_) ((fStroke false ik_1.Strokes) i_))) ∧ ([] : List AV) = []) ∧ True] hB ⟨(fun hq => hq (by rw [hx7_1]; exact congrArg Prod.snd hmk.2)), ⟨(con_bool (sameI_of (by first | exact hrv | exact hagx | (rw [hx7_0]; exact (congrArg Prod.fst hmk.2)))) (specSameInk_ok v_7 ik_1)), ⟨⟨(fun h => by cases h), rfl, rfl, fun i _ => .inr ⟨idsStroke _ _, leStroke _ _ _⟩⟩, rfl⟩, ⟨⟨(fun h => by cases h), rfl, rfl, fun i _ => .inr ⟨idsStroke _ _, leStroke _ _ _⟩⟩, rfl⟩, trivial⟩, trivial⟩ ?_
   refine aw_false rfl ?_
   refine aw_skip ?_
   refine ae_then ?_
   refine aR [(1, .call [(false, .agg [slStroke false ik_1.Strokes])] true (.tup [agBox ((bxiR ik_1).1), I ((bxiR ik_1).2)])), (5, .new 29)] [8, 24, 25, 29, 30] [25, 29] [I (ik_1.Strokes.length : Int), I (a2AtI more 1 256), .ref 25 0, .ref 29 0, I ((bxiR ik_1).2)] [some (.box [slStroke true v_6.Strokes]), some (bxBox ((bxiR ik_1).1))] [Con Tryz.prog 19 [.agg [slStroke false ik_1.Strokes]] true (.tup [agBox ((bxiR ik_1).1), I ((bxiR ik_1).2)]) ∧ (((false = true → true = true) ∧ 1 = 1 ∧ ik_1.Strokes.length = ik_1.Strokes.length ∧ ∀ i_, i_ < ik_1.Strokes.length → (fStroke true ik_1.Strokes) i_ = (fStroke false ik_1.Strokes) i_ ∨ (AV.idsL ((fStroke false ik_1.Strokes) i_) = [] ∧ leL (fun _ => none) false ((fStroke true ik_1.Strokes) i_) ((fStroke false ik_1.Strokes) i_))) ∧ ([] : List AV) = []) ∧ True] hB ⟨⟨(implBoxOfInk_ok ik_1), ⟨⟨(fun h => by cases h), rfl, rfl, fun i _ => .inr ⟨idsStroke _ _, leStroke _ _ _⟩⟩, rfl⟩, trivial⟩, trivial⟩ ?_
   refine aR [(1, .call [(false, .agg [slStroke false v_6.Strokes])] true (.tup [agBox ((bxiR v_6).1), I ((bxiR v_6).2)])), (5, .new 31)] [8, 24, 29, 30, 31, 32] [29, 31] [I (ik_1.Strokes.length : Int), I (a2AtI more 1 256), .ref 29 0, I ((bxiR ik_1).2), .ref 31 0, I ((bxiR v_6).2)] [some (bxBox ((bxiR ik_1).1)), some (bxBox ((bxiR v_6).1))] [Con Tryz.prog 19 [.agg [slStroke false v_6.Strokes]] true (.tup [agBox ((bxiR v_6).1), I ((bxiR v_6).2)]) ∧ (((false = true → true = true) ∧ 1 = 1 ∧ v_6.Strokes.length = v_6.Strokes.length ∧ ∀ i_, i_ < v_6.Strokes.length → (fStroke true v_6.Strokes) i_ = (fStroke false v_6.Strokes) i_ ∨ (AV.idsL ((fStroke false v_6.Strokes) i_) = [] ∧ leL (fun _ => none) false ((fStroke true v_6.Strokes) i_) ((fStroke false v_6.Strokes) i_))) ∧ ([] : List AV) = []) ∧ True] hB ⟨⟨(implBoxOfInk_ok v_6), ⟨⟨(fun h => by cases h), rfl, rfl, fun i _ => .inr ⟨idsStroke _ _, leStroke _ _ _⟩⟩, rfl⟩, trivial⟩, trivial⟩ ?_
   refine aw_seq ?_
   refine aw_seq ?_
   by_cases h4 : (ik_1.Strokes.length : Int) = 0
   ·have hb0 := mv_boxes0 (dx := a2AtI more 1 256) hok h4
    rw [← hx6_0] at hb0
    refine aw_r [(1, .dec true)] [24, 29, 30, 31, 32, 185] [29, 31] [I (a2AtI more 1 256), .ref 29 0, I ((bxiR ik_1).2), .ref 31 0, I ((bxiR v_6).2), Bv true] [some (bxBox ((bxiR ik_1).1)), some (bxBox ((bxiR v_6).1))] [(ik_1.Strokes.length : Int) = 0] hB ⟨h4, trivial⟩ ?_
    refine ae_then ?_
    refine aw_true rfl ?_
    refine aR [(1, .dec true), (5, .dec true)] [4] [] [Bv true] [] [((bxiR ik_1).2) = 6, ((bxiR v_6).2) = ((bxiR ik_1).2)] hB ⟨hb0.1, (by rw [hb0.1]; exact hb0.2), trivial⟩ ?_
    refine aw_ret ?_
    refine ae_ret_then ?_
    refine ae_ret hB (Bv true) (by kernel_rfl) (.inl rfl) rfl (fun _ => trivial)
   have hbd := bxi_bd hok h4
   unfold okBox at hbd
   have hb1 := mv_boxes hok h4 h60
   rw [← hx6_0] at hb1
   refine aw_r [(1, .dec false)] [24, 29, 30, 31, 32, 185] [29, 31] [I (a2AtI more 1 256), .ref 29 0, I ((bxiR ik_1).2), .ref 31 0, I ((bxiR v_6).2), Bv false] [some (bxBox ((bxiR ik_1).1)), some (bxBox ((bxiR v_6).1))] [¬ ((ik_1.Strokes.length : Int) = 0)] hB ⟨h4, trivial⟩ ?_
   refine ae_then ?_
   refine aw_false rfl ?_
   refine aw_skip ?_
   refine ae_then ?_
   refine aR [(1, .dec true), (4, .dec true), (21, .dec true)] [4] [] [Bv true] [] [((bxiR ik_1).2) = 0, ((bxiR v_6).2) = 0, inR .i64 ((((bxiR ik_1).1).X1) + (a2AtI more 1 256)), inR .i64 ((((bxiR ik_1).1).X2) + (a2AtI more 1 256)), (((bxiR v_6).1).X1) = ((((bxiR ik_1).1).X1) + (a2AtI more 1 256)) ∧ (((bxiR v_6).1).Y1) = (((bxiR ik_1).1).Y1) ∧ (((bxiR v_6).1).X2) = ((((bxiR ik_1).1).X2) + (a2AtI more 1 256)) ∧ (((bxiR v_6).1).Y2) = (((bxiR ik_1).1).Y2) ∧ True] hB ⟨hb1.1, hb1.2.1, (inR_i64 (by omega) (by omega)), (inR_i64 (by omega) (by omega)), (by rw [hb1.2.2]; exact ⟨rfl, rfl, rfl, rfl, trivial⟩), trivial⟩ ?_
   refine aw_ret ?_
   refine ae_ret hB (Bv true) (by kernel_rfl) (.inl rfl) rfl (fun _ => trivial)
  have h6b := mv_bad (x := ik_1) (dx := a2AtI more 1 256) (dy := 0) (by rw [← hx6_1]; exact h3)
  refine aw_r [(1, .dec true)] [5, 8, 24, 25, 26, 152] [5, 25] [.ref 5 0, I (ik_1.Strokes.length : Int), I (a2AtI more 1 256), .ref 25 0, I c_6, Bv true] [some (.box [slStroke true ik_1.Strokes]), some (.box [slStroke true v_6.Strokes])] [c_6 ≠ 0] hB ⟨h3, trivial⟩ ?_
  refine ae_then ?_
  refine aw_true rfl ?_
  refine aR [(1, .dec true), (4, .dec true)] [4] [] [Bv true] [] [c_6 = 2, 0 < (ik_1.Strokes.length : Int)] hB ⟨(by rw [hx6_1]; exact h6b.1), h6b.2, trivial⟩ ?_
  refine aw_ret ?_
  refine ae_ret_then ?_
  refine ae_ret hB (Bv true) (by kernel_rfl) (.inl rfl) rfl (fun _ => trivial)


/-! ### the row -/

theorem opens_t22 : OpensA Tryz.prog 22 (cLU8 false) (fun xs => ∀ y ∈ xs, inR .u8 y) :=
  opensA_slice (c := cU8) (sz := 1) Tryz.underlying22 (by kernel_rfl) (by decide) (fun x => ⟨rfl, by simp [oneA, cU8]⟩) (opensA_int Tryz.underlying5)

namespace fnInk
set_option maxRecDepth 100000 in
theorem lifted (os : Os) (started : os.Started) (H : Type) (enc : TypeId × Value → H) :
    ReturnsInHanded {} Tryz.checked os 3 .any (fun w args => (Rows.fnInkSpec.pre enc Tryz.prog Tryz.f3 Rows.fnInkRow.domain false w args ∧ laidMetH Tryz.prog Rows.fnInkRow.laid w) ∧ sizedMet enc Tryz.prog Tryz.f3 (OpenSpec.ofChange Rows.fnInkSpec) false w args)
      (Rows.fnInkSpec.post enc Tryz.prog Tryz.f3 false true false false) := by
  refine returnsInHanded_of_change_and (C := Tryz.checked) (X := fun w _ => laidMetH Tryz.prog Rows.fnInkRow.laid w) (fun _ _ _ hh h => h.of_heap hh) Tryz.own started (by kernel_rfl) Tryz.func3
    (ChangeSpec.witness_shaped (enc := enc) (C := Tryz.checked) (os := os) (X := fun w _ => laidMetH Tryz.prog Rows.fnInkRow.laid w) false (World.laidAll Tryz.prog os Rows.fnInkRow.laid) #[.slice none 0 0, .slice none 0 0] 8 (World.laidAll_os _ _ _)
      (World.shaped_of_ZipB (by kernel_rfl) (by kernel_rfl)) (by kernel_rfl) (by kernel_rfl) (by kernel_rfl)
      (by rw [MakeChecks.laidMetH_plain _ _ _ (by kernel_rfl)]; exact laidMet_laidAll _ (by kernel_rfl) (by kernel_rfl))) ?_
  intro W base args ds gs before hval0 hW hcnd hsz hL _
  have hW' := hW
  obtain ⟨p, q, hA0, hV, rfl, hfz, hnd⟩ := hW
  have hval : ∀ (j : Nat) t v, Tryz.f3.params[j]? = some t → args[j]? = some v → Value.okWide Tryz.prog W .any base t v := hval0
  have hA : DataW.TrodAll enc Tryz.prog W 0 (fun _ => true) true Tryz.f3.params.toList args.toList ds p := hA0
  rw [Tryz.params3] at hA hval
  obtain ⟨v0, vs0, d0, ds0, p0, q0, hargs, rfl, rfl, h0, r0⟩ := trodAll_cons hA
  obtain ⟨v1, vs1, d1, ds1, p1, q1, rfl, rfl, rfl, h1, r1⟩ := trodAll_cons r0
  obtain ⟨rfl, rfl, rfl⟩ := trodAll_nil r1
  obtain rfl : args = #[v0, v1] := args_eq hargs
  obtain ⟨rfl, rfl⟩ := trodVars_none hV
  obtain ⟨fuel0, hf0⟩ := h0
  obtain ⟨A0, l0, c0, rfl⟩ := okWide_slice Tryz.underlying22 (hval 0 22 v0 rfl rfl)
  obtain ⟨x0, rx0, ok0⟩ := (opens_t22) enc W 0 _ _ _ _ _ hf0
  obtain ⟨fuel1, hf1⟩ := h1
  obtain ⟨A1, l1, c1, rfl⟩ := okWide_slice Tryz.underlying22 (hval 1 22 v1 rfl rfl)
  obtain ⟨x1, rx1, ok1⟩ := (opens_t22) enc W 0 _ _ _ _ _ hf1
  refine (walk_of0 (fnInk_con x0 x1 ok0 ok1) (fun w hk => WX_below (WX_laid (by rw [MakeChecks.laidMetH_plain _ _ _ (by kernel_rfl)] at hL; exact hL) (by first | exact .head _ | exact .tail _ (.head _) | exact .tail _ (.tail _ (.head _)))) w ⟨hk.os, hk.tape, hk.output, hk.size, fun k h1 => hk.block k h1 id⟩) (RelTL.cons (relTL_one rx0) (RelTL.cons (relTL_one rx1) RelTL.nil))).mono fun e W1 ⟨he, hb⟩ => ?_
  subst he
  exact ⟨_, rfl, law_post Tryz.laidOut rfl Tryz.underlying4 (of_decide_eq_true (by kernel_rfl)) rfl hW' hb rfl⟩

theorem over : Rows.fnInkRow.holds Tryz.pinned (OpenSpec.ofChange Rows.fnInkSpec) :=
  OpenClaim.holds_of_wide 3 Tryz.f3 rfl rfl rfl rfl rfl rfl rfl ⟨rfl, rfl, rfl, rfl, rfl⟩ rfl rfl rfl rfl rfl (by kernel_rfl) Tryz.func3 (by kernel_rfl)
    (of_decide_eq_true (by kernel_rfl)) (by unfold Func.isWrapper; first | (rw [if_pos (by decide +kernel)]; kernel_rfl) | (rw [if_neg (by decide +kernel)]; exact ⟨rfl, rfl⟩))
    (fun os started H enc _ => lifted os started H enc)

theorem proved : Rows.FnInkCardSaid :=
  Claim7.holds_tied_plain_at .later [] [.data, .data, .data, .data, .sentinel, .sentinel, .pinned] true (true, "00e2698d828c446cf3aa74638b276850451084458f15901ce8c3ecdcb349fc25") true over (fun _ h => by cases h) (by kernel_rfl) (fun _ h => by cases h) fnInk_row_tie rfl ⟨rfl, rfl⟩ (by kernel_rfl) rfl
    (fun f fn hf hfn => by
      obtain rfl : f = 3 := Option.some.inj ((show Tryz.prog.funcNamed "loop.example/g00918/laws.FnInk" = some 3 by kernel_rfl).symm.trans hf) |>.symm
      obtain rfl : fn = Tryz.f3 := (Option.some.inj (Tryz.func3.symm.trans hfn)).symm
      exact ⟨by kernel_rfl, fun j t ht => by
        rw [Tryz.params3] at ht
        have hm : t ∈ [22, 22] := by simpa using Array.mem_of_getElem? ht
        have hall : ([22, 22].all fun u => !Tryz.prog.wantsStandIn u) = true := by kernel_rfl
        exact (show Tryz.prog.wantsStandIn t = false by simpa using List.all_eq_true.1 hall t hm)⟩)
    (by kernel_rfl)
#print axioms proved
end fnInk
end Go.Proofs.YthlghckgnanlpaaGreatDoor.Ax
