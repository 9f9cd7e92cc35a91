/- Contracts that the statement FnFound reaches, part 3. No conditions. -/
import Derived.Test.YtdinloamhmdgjaaGreatDoorAxLFound2
import Derived.LaidMore
import Derived.Lay
import Derived.Lib.IndexBytes
import Derived.Lib.ItoaNum
import Derived.Lib.ParseIntBCases
import Derived.Lib.SplitLaws
import Derived.OpenShut
import Derived.SevenTiedAt
import Derived.Stop.Joined
import Derived.Test.YtdinloamhmdgjaaGreatDoorAxBd
import Derived.Test.YtdinloamhmdgjaaGreatDoorAxIN
import Derived.Test.YtdinloamhmdgjaaGreatDoorAxR
import Derived.Test.YtdinloamhmdgjaaGreatDoorAxS
import Derived.Test.YtdinloamhmdgjaaGreatDoorAxSF
import Derived.Test.YtdinloamhmdgjaaGreatDoorAxVc
import Derived.Test.YtdinloamhmdgjaaGreatDoorSfFndShelf
import Derived.Test.YtdinloamhmdgjaaGreatDoorSfRdgShelf
namespace Go.Proofs.YtdinloamhmdgjaaGreatDoor.Ax
open Go.RowKit Go.ChangeShapes Go.WideShapes
set_option linter.unusedVariables false
set_option linter.unusedSimpArgs false
theorem Zpd (l : Lattice) (lx : Lexicon) (node : Int) (hl : Zcg l) (hx : Zci lx) (hnd : 0 ≤ node ∧ node ≤ l.Nodes - 1) : ∃ (v : List Reading) (c : Int), (v = pfV l lx node.toNat) ∧ (c = 0) ∧ Con Tryz.prog 18 [Zbh l, .agg [Zaa false lx.Entries], I node] true (.tup [Zas true v, I c]) := by
  have hn20 := hl.1
  have hc := hl.2.1
  have hlc := hx.1
  have hh : ∃ r : (List Reading) × Int, ((r.1 = pfV l lx node.toNat) ∧ (r.2 = 0) ∧ (True)) ∧ Zbi Tryz.prog 18 [Zbh l, .agg [Zaa false lx.Entries], I node] (Zaf []) true (.tup [Zas true r.1, I r.2]) (Zaf []) := by
    refine Zdl (Φ := fun r : (List Reading) × Int => (r.1 = pfV l lx node.toNat) ∧ (r.2 = 0) ∧ (True)) [] (fun r => []) (fn := Tryz.f18) (nt := 108) Tryz.func18 rfl rfl (args := [Zbh l, .agg [Zaa false lx.Entries], I node]) rfl (Zbe (.inl ⟨rfl, by simp [Zan, Zaj, Zdv]⟩) (Zbe (.inl ⟨rfl, by simp [Zan, Zaj, Zcf]⟩) (Zbe (.inl ⟨rfl, trivial⟩) Zdj))) (res := fun r => .tup [Zas true r.1, I r.2]) ?_
    refine xR [(0, .new 3), (1, .new 4)] [2, 3, 4] [3, 4] [I node, .ref 3 0, .ref 4 0] [some (Zac l), some (.box [Zaa false lx.Entries])] [] trivial ?_
    refine Zar ?_
    refine xR [(1, .call [(true, .any)] true (Bv true)), (5, .call [(true, .any)] true (Bv true))] [2, 3, 4, 22] [3, 4] [I node, .ref 3 0, .ref 4 0, Bv false] [some (Zac l), some (.box [Zaa false lx.Entries])] [Con Tryz.prog 39 [Zbh l] true (Bv true) ∧ True, Con Tryz.prog 51 [.agg [Zaa false lx.Entries]] true (Bv true) ∧ True] ⟨⟨(Zhv l hl), trivial⟩, ⟨(Zdi lx hx), trivial⟩, trivial⟩ ?_
    refine Zav rfl ?_
    refine Zbk ?_
    refine Zad ?_
    refine Zar ?_
    refine xR [(4, .call [(true, .any), (true, .any), (true, .any)] true (Bv true))] [2, 3, 4, 28] [3, 4] [I node, .ref 3 0, .ref 4 0, Bv false] [some (Zac l), some (.box [Zaa false lx.Entries])] [inR .i64 (l.Nodes - 1), Con Tryz.prog 40 [I node, I 0, I (l.Nodes - 1)] true (Bv true) ∧ True] ⟨(Zah (by first | omega | (simp only [List.length_replicate, List.length_set]; omega)) (by first | omega | (simp only [List.length_replicate, List.length_set]; omega))), ⟨(Zbv (Zgn.2 hnd) (Zjg node 0 (l.Nodes - 1))), trivial⟩, trivial⟩ ?_
    refine Zav rfl ?_
    refine Zbk ?_
    refine Zad ?_
    refine xR [(2, .new 31)] [2, 3, 4, 8] [3, 4, 31] [I node, .ref 3 0, .ref 4 0, .arr 31] [some (Zac l), some (.box [Zaa false lx.Entries]), some (.arr 1 l.Nodes.toNat (fun _ => [Zde]))] [(0 : Int) ≤ l.Nodes ∧ (l.Nodes : Int) ≤ l.Nodes ∧ (24 : Int) * l.Nodes ≤ 281474976710656 ∧ l.Nodes ≤ 9223372036854775807] ⟨⟨(by first | omega | (simp only [List.length_replicate, List.length_set]; omega)), (by first | omega | (simp only [List.length_replicate, List.length_set]; omega)), (by first | omega | (simp only [List.length_replicate, List.length_set]; omega)), (by first | omega | (simp only [List.length_replicate, List.length_set]; omega))⟩, trivial⟩ ?_
    refine Zar ?_
    refine Zar ?_
    refine x_famN 31 8661 2 rfl (fun q _ => ⟨_, rfl, rfl⟩) (by kernel_rfl) ?_
    refine Zek [] (T := [(2, I node), (3, .ref 3 0), (4, .ref 4 0), (8, .arr 31)]) (O := [(3, Zac l), (4, .box [Zaa false lx.Entries]), (31, Zao 8661 (List.replicate l.Nodes.toNat ([] : List Reading))), (8661, Zal (List.replicate l.Nodes.toNat ([] : List Reading)))]) rfl (⟨.inl rfl, .inl rfl, .inl rfl, .inl rfl, trivial⟩) (⟨.inl rfl, .inl rfl, .inr ⟨rfl, rfl, (by simp), fun i hi => .inl rfl⟩, .inr (Zss l.Nodes.toNat), trivial⟩) ?_
    rcases Bool.eq_false_or_eq_true (Zfr lx (⟨#[]⟩ : ByteArray)) with h1 | h1
    ·have hbg0 := h1
     refine x_r [(1, .call [(true, .any), (true, .any)] true (Bv true))] [2, 3, 4, 8, 33] [3, 4, 31, 8661] [I node, .ref 3 0, .ref 4 0, .arr 31, Bv true] [some (Zac l), some (.box [Zaa false lx.Entries]), some (Zao 8661 (List.replicate l.Nodes.toNat ([] : List Reading))), some (Zal (List.replicate l.Nodes.toNat ([] : List Reading)))] [Con Tryz.prog 53 [.agg [Zaa false lx.Entries], Sv (⟨#[]⟩ : ByteArray)] true (Bv true) ∧ True] ⟨⟨(Zbv h1 (Zgw lx (⟨#[]⟩ : ByteArray) hx (by first | (rw [ByteArray.size_append]; omega) | decide))), trivial⟩, trivial⟩ ?_
     refine Zad ?_
     refine Zcb rfl ?_
     refine x_r [(2, .new 36)] [2, 3, 4, 8] [3, 4, 31, 36, 8661] [I node, .ref 3 0, .ref 4 0, .arr 31] [some (Zac l), some (.box [Zaa false lx.Entries]), some (.oar [8661, 36] 1 ((List.replicate l.Nodes.toNat ([] : List Reading)).length) (fun q => bif Nat.beq q 0 then [.arr 36] else (Zck 8661 (List.replicate l.Nodes.toNat ([] : List Reading))) q)), some (.arr 2 1 (Zgd [Sv (⟨#[]⟩ : ByteArray), I 0] 2)), some (Zal (List.replicate l.Nodes.toNat ([] : List Reading)))] [(0 : Int) ≤ 0 ∧ 0 < (((List.replicate l.Nodes.toNat ([] : List Reading)).length) : Int), 0 < (List.replicate l.Nodes.toNat ([] : List Reading)).length] ⟨⟨(by first | omega | (simp only [List.length_replicate, List.length_set]; omega)), (by first | omega | (simp only [List.length_replicate, List.length_set]; omega))⟩, (by first | omega | (simp only [List.length_replicate, List.length_set]; omega)), trivial⟩ ?_
     refine Zad ?_
     refine Zar ?_
     refine Zar ?_
     refine Zqo 31 36 8661 0 rfl rfl rfl ((by first | omega | (simp only [List.length_replicate, List.length_set]; omega))) (by first | exact Nat.le_refl _ | omega) (fun q _ => ⟨fun e => by subst e; simp only [Nat.beq_refl, cond_true], fun e => by simp only [Zoh e, cond_false]; rfl⟩) (by kernel_rfl) ?_
     refine Zek [] (T := [(2, I node), (3, .ref 3 0), (4, .ref 4 0), (8, .arr 31)]) (O := [(3, Zac l), (4, .box [Zaa false lx.Entries]), (31, Zao 8661 ((List.replicate l.Nodes.toNat ([] : List Reading)).set 0 ([(Reading.mk (⟨#[]⟩ : ByteArray) 0)]))), (8661, Zal ((List.replicate l.Nodes.toNat ([] : List Reading)).set 0 ([(Reading.mk (⟨#[]⟩ : ByteArray) 0)])))]) rfl (⟨.inl rfl, .inl rfl, .inl rfl, .inl rfl, trivial⟩) (⟨.inl rfl, .inl rfl, .inr ⟨rfl, rfl, (by simp), fun i hi => .inl rfl⟩, .inr (Zdr ((by first | omega | (simp only [List.length_replicate, List.length_set]; omega))) (by first | rfl | (simp; done) | (simp; omega)) (fun i_ h_ => (show ∀ i_ : Nat, i_ < ([(Reading.mk (⟨#[]⟩ : ByteArray) 0)] : List Reading).length → (Zgd [Sv (⟨#[]⟩ : ByteArray), I 0] 2) i_ = (Zeg ([(Reading.mk (⟨#[]⟩ : ByteArray) 0)])) i_ from fun i_ hi_ => (match i_, hi_ with | 0, _ => rfl | (i + 1), h => absurd h (by simp))) i_ (by first | exact h_ | (simpa using h_)))), trivial⟩) ?_
     refine x_r [] [2, 3, 4, 8, 9] [3, 4, 31, 8661] [I node, .ref 3 0, .ref 4 0, .arr 31, I 0] [some (Zac l), some (.box [Zaa false lx.Entries]), some (Zao 8661 ((List.replicate l.Nodes.toNat ([] : List Reading)).set 0 ([(Reading.mk (⟨#[]⟩ : ByteArray) 0)]))), some (Zal ((List.replicate l.Nodes.toNat ([] : List Reading)).set 0 ([(Reading.mk (⟨#[]⟩ : ByteArray) 0)])))] [] trivial ?_
     refine Zad ?_
     refine Zbp ?_
     refine Zel (X := Int × (List (List Reading))) (fun x => mkS [(2, I node), (3, .ref 3 0), (4, .ref 4 0), (8, .arr 31), (9, I x.1)] [(3, Zac l), (4, .box [Zaa false lx.Entries]), (31, Zao 8661 x.2), (8661, Zal x.2)]) (fun x => (0 ≤ x.1 ∧ x.1 ≤ node + 1) ∧ (x.2 = pfN l lx x.1.toNat) ∧ True) (fun x => (node + 1 - x.1).toNat) (0, ((List.replicate l.Nodes.toNat ([] : List Reading)).set 0 ([(Reading.mk (⟨#[]⟩ : ByteArray) 0)]))) rfl (show (0 ≤ (0 : Int) ∧ (0 : Int) ≤ node + 1) ∧ (((List.replicate l.Nodes.toNat ([] : List Reading)).set 0 ([(Reading.mk (⟨#[]⟩ : ByteArray) 0)])) = pfN l lx (0 : Int).toNat) ∧ True from ⟨(by omega), (by first | exact (if_pos hbg0).symm | exact (if_neg hbg0).symm | exact (if_neg (by simp [*])).symm), trivial⟩) (fun x hI => ?_)
     obtain ⟨nd, tb⟩ := x
     obtain ⟨hn0, htb, _⟩ : (0 ≤ nd ∧ nd ≤ node + 1) ∧ (tb = pfN l lx nd.toNat) ∧ True := hI
     show XW _ _ _ _ (mkS [(2, I node), (3, .ref 3 0), (4, .ref 4 0), (8, .arr 31), (9, I nd)] [(3, Zac l), (4, .box [Zaa false lx.Entries]), (31, Zao 8661 tb), (8661, Zal tb)]) _ _
     refine Zar ?_
     refine Zar ?_
     by_cases h2 : nd ≤ node
     ·have hn : nd.toNat < l.Nodes.toNat := by omega
      have hok := (Zya hl hx nd.toNat (by omega)).1
      rw [← htb] at hok
      have htl := hok.1
      have hrw := (hok.2 _ hn).1
      have hnn : (nd + 1).toNat = nd.toNat + 1 := by omega
      refine x_r [(2, .dec true)] [2, 3, 4, 8, 9, 40] [3, 4, 31, 8661] [I node, .ref 3 0, .ref 4 0, .arr 31, I nd, Bv true] [some (Zac l), some (.box [Zaa false lx.Entries]), some (Zao 8661 tb), some (Zal tb)] [nd ≤ node] ⟨h2, trivial⟩ ?_
      refine Zad ?_
      refine Zcb rfl ?_
      refine Zbk ?_
      refine Zad ?_
      refine Zar ?_
      refine Zbp ?_
      refine Zar ?_
      refine Zsp 31 8621 8661 nd.toNat rfl rfl ((by first | omega | (simp only [List.length_replicate, List.length_set]; omega))) (fun q _ => rfl) (by kernel_rfl) ?_
      refine Zek [] (T := [(2, I node), (3, .ref 3 0), (4, .ref 4 0), (8, .arr 31), (9, I nd), (40, Bv true)]) (O := [(3, Zac l), (4, .box [Zaa false lx.Entries]), (31, .oar [8621, 8661] 1 ((tb.set nd.toNat ([] : List Reading)).length) (fun q => bif Nat.beq q nd.toNat then [.arr 8621] else (Zck 8661 (tb.set nd.toNat ([] : List Reading))) q)), (8621, Zai (at_ tb nd.toNat)), (8661, Zal (tb.set nd.toNat ([] : List Reading)))]) rfl (⟨.inl rfl, .inl rfl, .inl rfl, .inl rfl, .inl rfl, .inl rfl, trivial⟩) (⟨.inl rfl, .inl rfl, .inr ⟨rfl, rfl, (by first | rfl | (simp; done)), fun i hi => .inl (by dsimp only; cases Nat.beq i nd.toNat <;> rfl)⟩, .inl rfl, .inr (Zdr ((by first | omega | (simp only [List.length_replicate, List.length_set]; omega))) (by first | rfl | (simp; done) | (simp; omega)) (fun i_ h_ => absurd h_ (Nat.not_lt_zero _))), trivial⟩) ?_
      obtain ⟨list'_1, out_1, hx1_0, hc1⟩ := Zst (at_ tb nd.toNat) (((at_ tb nd.toNat).length) : Int) (by omega) (by omega)
      have hout := hx1_0
      refine x_r [(5, .as (.arr 8621)), (9, .as (.arr 8621)), (11, .lend [(8621, Zai (at_ tb nd.toNat), Zai list'_1)] [(8622, Zai out_1)] [(true, .any), (true, .any)] false (.arr 8622))] [2, 3, 4, 8, 9] [3, 4, 31, 8621, 8622, 8661] [I node, .ref 3 0, .ref 4 0, .arr 31, I nd] [some (Zac l), some (.box [Zaa false lx.Entries]), some (.oar [8621, 8661, 8622] 1 ((tb.set nd.toNat ([] : List Reading)).length) (fun q => bif Nat.beq q nd.toNat then spl ((fun q => bif Nat.beq q nd.toNat then [.arr 8621] else (Zck 8661 (tb.set nd.toNat ([] : List Reading))) q) nd.toNat) 0 [.arr 8622] else (fun q => bif Nat.beq q nd.toNat then [.arr 8621] else (Zck 8661 (tb.set nd.toNat ([] : List Reading))) q) q)), some (Zai list'_1), some (Zai out_1), some (Zal (tb.set nd.toNat ([] : List Reading)))] [(0 : Int) ≤ nd ∧ nd < (((tb.set nd.toNat ([] : List Reading)).length) : Int), nd.toNat < (tb.set nd.toNat ([] : List Reading)).length ∧ List.drop 0 ((fun q => bif Nat.beq q nd.toNat then [.arr 8621] else (Zck 8661 (tb.set nd.toNat ([] : List Reading))) q) nd.toNat) = [.arr 8621], (0 : Int) ≤ nd ∧ nd < (((tb.set nd.toNat ([] : List Reading)).length) : Int), nd.toNat < (tb.set nd.toNat ([] : List Reading)).length ∧ List.drop 0 ((fun q => bif Nat.beq q nd.toNat then [.arr 8621] else (Zck 8661 (tb.set nd.toNat ([] : List Reading))) q) nd.toNat) = [.arr 8621], Zbi Tryz.prog 54 [.arr 8621, I (((at_ tb nd.toNat).length) : Int)] (Zaf [(8621, Zai (at_ tb nd.toNat))]) false (.arr 8622) (Zaf [(8621, Zai list'_1), (8622, Zai out_1)]) ∧ (((Zai (at_ tb nd.toNat) : Ob) = Zai (at_ tb nd.toNat) ∨ Zih Zgf true (Zai (at_ tb nd.toNat)) (Zai (at_ tb nd.toNat))) ∧ Zbu false (Zai (at_ tb nd.toNat))) ∧ True, (0 : Int) ≤ nd ∧ nd < (((tb.set nd.toNat ([] : List Reading)).length) : Int), nd.toNat < (tb.set nd.toNat ([] : List Reading)).length] ⟨⟨(by first | first | omega | (simp only [List.length_replicate, List.length_set]; omega) | (simp only [List.length_set]; first | omega | (simp only [List.length_replicate, List.length_set]; omega))), (by first | first | omega | (simp only [List.length_replicate, List.length_set]; omega) | (simp only [List.length_set]; first | omega | (simp only [List.length_replicate, List.length_set]; omega)))⟩, ⟨(by first | first | omega | (simp only [List.length_replicate, List.length_set]; omega) | (simp only [List.length_set]; first | omega | (simp only [List.length_replicate, List.length_set]; omega))), (by simp only [Nat.beq_refl, cond_true]; rfl)⟩, ⟨(by first | first | omega | (simp only [List.length_replicate, List.length_set]; omega) | (simp only [List.length_set]; first | omega | (simp only [List.length_replicate, List.length_set]; omega))), (by first | first | omega | (simp only [List.length_replicate, List.length_set]; omega) | (simp only [List.length_set]; first | omega | (simp only [List.length_replicate, List.length_set]; omega)))⟩, ⟨(by first | first | omega | (simp only [List.length_replicate, List.length_set]; omega) | (simp only [List.length_set]; first | omega | (simp only [List.length_replicate, List.length_set]; omega))), (by simp only [Nat.beq_refl, cond_true]; rfl)⟩, ⟨hc1, ⟨.inl rfl, fun _ _ => Zhf false _⟩, trivial⟩, ⟨(by first | first | omega | (simp only [List.length_replicate, List.length_set]; omega) | (simp only [List.length_set]; first | omega | (simp only [List.length_replicate, List.length_set]; omega))), (by first | first | omega | (simp only [List.length_replicate, List.length_set]; omega) | (simp only [List.length_set]; first | omega | (simp only [List.length_replicate, List.length_set]; omega)))⟩, (by first | first | omega | (simp only [List.length_replicate, List.length_set]; omega) | (simp only [List.length_set]; first | omega | (simp only [List.length_replicate, List.length_set]; omega))), trivial⟩ ?_
      refine Zad ?_
      refine Zar ?_
      refine Zqo 31 8622 8661 nd.toNat rfl rfl rfl ((by first | first | omega | (simp only [List.length_replicate, List.length_set]; omega) | (simp only [List.length_set]; first | omega | (simp only [List.length_replicate, List.length_set]; omega)))) (by first | exact Nat.le_refl _ | omega) (fun q _ => ⟨fun e => by subst e; simp only [Nat.beq_refl, cond_true]; rfl, fun e => by simp only [Zoh e, cond_false]; rfl⟩) (by kernel_rfl) ?_
      refine Zek [] (T := [(2, I node), (3, .ref 3 0), (4, .ref 4 0), (8, .arr 31), (9, I nd)]) (O := [(3, Zac l), (4, .box [Zaa false lx.Entries]), (31, Zao 8661 ((tb.set nd.toNat ([] : List Reading)).set nd.toNat out_1)), (8621, Zai list'_1), (8661, Zal ((tb.set nd.toNat ([] : List Reading)).set nd.toNat out_1))]) rfl (⟨.inl rfl, .inl rfl, .inl rfl, .inl rfl, .inl rfl, trivial⟩) (⟨.inl rfl, .inl rfl, .inr ⟨rfl, rfl, (by simp), fun i hi => .inl rfl⟩, .inl rfl, .inr (Zdr ((by first | first | omega | (simp only [List.length_replicate, List.length_set]; omega) | (simp only [List.length_set]; first | omega | (simp only [List.length_replicate, List.length_set]; omega)))) (by first | rfl | (simp; done) | (simp; omega)) (fun i _ => rfl)), trivial⟩) ?_
      refine x_r [] [2, 3, 4, 8, 9, 57, 58, 59] [3, 4, 31, 8661] [I node, .ref 3 0, .ref 4 0, .arr 31, I nd, Zag false l.Edges, I (l.Edges.length : Int), I 0] [some (Zac l), some (.box [Zaa false lx.Entries]), some (Zao 8661 ((tb.set nd.toNat ([] : List Reading)).set nd.toNat out_1)), some (Zal ((tb.set nd.toNat ([] : List Reading)).set nd.toNat out_1))] [] trivial ?_
      refine Zad ?_
      refine Zbp ?_
      refine Zel (X := Int × (List (List Reading))) (fun x => mkS [(2, I node), (3, .ref 3 0), (4, .ref 4 0), (8, .arr 31), (9, I nd), (57, Zag false l.Edges), (58, I (l.Edges.length : Int)), (59, I x.1)] [(3, Zac l), (4, .box [Zaa false lx.Entries]), (31, Zao 8661 x.2), (8661, Zal x.2)]) (fun x => (0 ≤ x.1 ∧ x.1 ≤ (l.Edges.length : Int)) ∧ (x.2 = pfE l lx nd.toNat x.1.toNat) ∧ True) (fun x => ((l.Edges.length : Int) - x.1).toNat) (0, ((tb.set nd.toNat ([] : List Reading)).set nd.toNat out_1)) rfl (show (0 ≤ (0 : Int) ∧ (0 : Int) ≤ (l.Edges.length : Int)) ∧ (((tb.set nd.toNat ([] : List Reading)).set nd.toNat out_1) = pfE l lx nd.toNat (0 : Int).toNat) ∧ True from ⟨(by omega), (by (rw [List.set_set, hout, htb]; rfl)), trivial⟩) (fun x hI => ?_)
      obtain ⟨t59, tb2⟩ := x
      obtain ⟨hi0, htb2, _⟩ : (0 ≤ t59 ∧ t59 ≤ (l.Edges.length : Int)) ∧ (tb2 = pfE l lx nd.toNat t59.toNat) ∧ True := hI
      show XW _ _ _ _ (mkS [(2, I node), (3, .ref 3 0), (4, .ref 4 0), (8, .arr 31), (9, I nd), (57, Zag false l.Edges), (58, I (l.Edges.length : Int)), (59, I t59)] [(3, Zac l), (4, .box [Zaa false lx.Entries]), (31, Zao 8661 tb2), (8661, Zal tb2)]) _ _
      refine Zar ?_
      by_cases h3 : t59 < (l.Edges.length : Int)
      ·have hi : t59.toNat < l.Edges.length := by omega
       have hed := hl.2.2.1 _ hi
       have he1 := hed.1
       have he2 := hed.2.1
       have he3 := Zeh hed.2.2
       have hii : (t59 + 1).toNat = t59.toNat + 1 := by omega
       have hok2 := Yay hl hx hn (i := t59.toNat) (by omega)
       rw [← htb2] at hok2
       have htl2 := hok2.1.1
       have hr660 := hok2.2
       refine x_r [(0, .dec true)] [2, 3, 4, 8, 9, 57, 58, 59, 60] [3, 4, 31, 8661] [I node, .ref 3 0, .ref 4 0, .arr 31, I nd, Zag false l.Edges, I (l.Edges.length : Int), I t59, Bv true] [some (Zac l), some (.box [Zaa false lx.Entries]), some (Zao 8661 tb2), some (Zal tb2)] [t59 < (l.Edges.length : Int)] ⟨h3, trivial⟩ ?_
       refine Zad ?_
       refine Zar ?_
       refine Zcb rfl ?_
       refine Zbk ?_
       refine Zad ?_
       refine Zar ?_
       refine Zbp ?_
       refine xR [(2, .new 11)] [2, 3, 4, 8, 9, 11, 57, 58, 59] [3, 4, 11, 31, 8661] [I node, .ref 3 0, .ref 4 0, .arr 31, I nd, .ref 11 0, Zag false l.Edges, I (l.Edges.length : Int), I t59] [some (Zac l), some (.box [Zaa false lx.Entries]), some (Zbj (at_ l.Edges t59.toNat)), some (Zao 8661 tb2), some (Zal tb2)] [(0 : Int) ≤ t59 ∧ t59 < (l.Edges.length : Int)] ⟨⟨(by first | omega | (simp only [List.length_replicate, List.length_set]; omega)), (by first | omega | (simp only [List.length_replicate, List.length_set]; omega))⟩, trivial⟩ ?_
       refine Zar ?_
       refine Zar ?_
       by_cases h4 : ((at_ l.Edges t59.toNat).From) = nd
       ·have hff : (at_ l.Edges t59.toNat).From = ((nd.toNat : Nat) : Int) := by omega
        have hfn : (at_ l.Edges t59.toNat).From.toNat = nd.toNat := by omega
        refine x_r [(3, .dec false)] [2, 3, 4, 8, 9, 11, 57, 58, 59, 66] [3, 4, 11, 31, 8661] [I node, .ref 3 0, .ref 4 0, .arr 31, I nd, .ref 11 0, Zag false l.Edges, I (l.Edges.length : Int), I t59, Bv false] [some (Zac l), some (.box [Zaa false lx.Entries]), some (Zbj (at_ l.Edges t59.toNat)), some (Zao 8661 tb2), some (Zal tb2)] [¬ (((at_ l.Edges t59.toNat).From) ≠ nd)] ⟨(fun hq => hq h4), trivial⟩ ?_
        refine Zad ?_
        refine Zav rfl ?_
        refine Zbk ?_
        refine Zad ?_
        refine xR [] [2, 3, 4, 8, 9, 11, 57, 58, 59, 70, 71, 72] [3, 4, 11, 31, 8661] [I node, .ref 3 0, .ref 4 0, .arr 31, I nd, .ref 11 0, Zag false l.Edges, I (l.Edges.length : Int), I t59, .row 8661 nd.toNat, I (((at_ tb2 nd.toNat).length) : Int), I 0] [some (Zac l), some (.box [Zaa false lx.Entries]), some (Zbj (at_ l.Edges t59.toNat)), some (Zao 8661 tb2), some (Zal tb2)] [(0 : Int) ≤ nd ∧ nd < (tb2.length : Int), nd.toNat < tb2.length, nd.toNat < tb2.length] ⟨⟨(by first | omega | (simp only [List.length_replicate, List.length_set]; omega)), (by first | omega | (simp only [List.length_replicate, List.length_set]; omega))⟩, (by first | omega | (simp only [List.length_replicate, List.length_set]; omega)), (by first | omega | (simp only [List.length_replicate, List.length_set]; omega)), trivial⟩ ?_
        refine Zbp ?_
        refine Zel (X := Int × (List (List Reading))) (fun x => mkS [(2, I node), (3, .ref 3 0), (4, .ref 4 0), (8, .arr 31), (9, I nd), (11, .ref 11 0), (57, Zag false l.Edges), (58, I (l.Edges.length : Int)), (59, I t59), (70, .row 8661 nd.toNat), (71, I (((at_ tb2 nd.toNat).length) : Int)), (72, I x.1)] [(3, Zac l), (4, .box [Zaa false lx.Entries]), (11, Zbj (at_ l.Edges t59.toNat)), (31, Zao 8661 x.2), (8661, Zal x.2)]) (fun x => (0 ≤ x.1 ∧ x.1 ≤ ((at_ tb2 nd.toNat).length : Int)) ∧ (x.2 = exT (Zfr lx) tb2 (at_ l.Edges t59.toNat) nd.toNat x.1.toNat) ∧ True) (fun x => (((at_ tb2 nd.toNat).length : Int) - x.1).toNat) (0, tb2) rfl (show (0 ≤ (0 : Int) ∧ (0 : Int) ≤ ((at_ tb2 nd.toNat).length : Int)) ∧ (tb2 = exT (Zfr lx) tb2 (at_ l.Edges t59.toNat) nd.toNat (0 : Int).toNat) ∧ True from ⟨(by omega), (by exact (exT_0 _ _ _ _).symm), trivial⟩) (fun x hI => ?_)
        obtain ⟨t72, tb3⟩ := x
        obtain ⟨hj0, htb3, _⟩ : (0 ≤ t72 ∧ t72 ≤ ((at_ tb2 nd.toNat).length : Int)) ∧ (tb3 = exT (Zfr lx) tb2 (at_ l.Edges t59.toNat) nd.toNat t72.toNat) ∧ True := hI
        show XW _ _ _ _ (mkS [(2, I node), (3, .ref 3 0), (4, .ref 4 0), (8, .arr 31), (9, I nd), (11, .ref 11 0), (57, Zag false l.Edges), (58, I (l.Edges.length : Int)), (59, I t59), (70, .row 8661 nd.toNat), (71, I (((at_ tb2 nd.toNat).length) : Int)), (72, I t72)] [(3, Zac l), (4, .box [Zaa false lx.Entries]), (11, Zbj (at_ l.Edges t59.toNat)), (31, Zao 8661 tb3), (8661, Zal tb3)]) _ _
        refine Zar ?_
        by_cases h5 : t72 < (((at_ tb2 nd.toNat).length) : Int)
        ·have hok3 := Yaz (p := Zfr lx) hok2.1 hed hff t72.toNat
         rw [← htb3] at hok3
         have htl3 := hok3.1
         have hsr := Yba (p := Zfr lx) (T := tb2) hff he1.2.1 t72.toNat
         rw [← htb3] at hsr
         have hjl : t72.toNat < (at_ tb2 nd.toNat).length := by omega
         have hjl3 : t72.toNat < (at_ tb3 nd.toNat).length := by rw [hsr]; exact hjl
         have hrd := (hok3.2 nd.toNat hn).2 _ (Zcx hjl3)
         have hrd1 := hrd.1
         have hrd2 := hrd.2
         have hto := (hok3.2 (at_ l.Edges t59.toNat).To.toNat (by omega)).1
         have hjj : (t72 + 1).toNat = t72.toNat + 1 := by omega
         refine x_r [(0, .dec true)] [2, 3, 4, 8, 9, 11, 57, 58, 59, 70, 71, 72, 73] [3, 4, 11, 31, 8661] [I node, .ref 3 0, .ref 4 0, .arr 31, I nd, .ref 11 0, Zag false l.Edges, I (l.Edges.length : Int), I t59, .row 8661 nd.toNat, I (((at_ tb2 nd.toNat).length) : Int), I t72, Bv true] [some (Zac l), some (.box [Zaa false lx.Entries]), some (Zbj (at_ l.Edges t59.toNat)), some (Zao 8661 tb3), some (Zal tb3)] [t72 < (((at_ tb2 nd.toNat).length) : Int)] ⟨h5, trivial⟩ ?_
         refine Zad ?_
         refine Zar ?_
         refine Zcb rfl ?_
         refine Zbk ?_
         refine Zad ?_
         refine Zar ?_
         refine Zbp ?_
         refine xR [(2, .new 13)] [2, 3, 4, 8, 9, 11, 13, 57, 58, 59, 70, 71, 72] [3, 4, 11, 13, 31, 8661] [I node, .ref 3 0, .ref 4 0, .arr 31, I nd, .ref 11 0, .ref 13 0, Zag false l.Edges, I (l.Edges.length : Int), I t59, .row 8661 nd.toNat, I (((at_ tb2 nd.toNat).length) : Int), I t72] [some (Zac l), some (.box [Zaa false lx.Entries]), some (Zbj (at_ l.Edges t59.toNat)), some (Zdk (at_ (at_ tb3 nd.toNat) t72.toNat)), some (Zao 8661 tb3), some (Zal tb3)] [nd.toNat < tb3.length ∧ (0 : Int) ≤ t72 ∧ t72 < (((at_ tb3 nd.toNat).length) : Int), nd.toNat < tb3.length ∧ t72.toNat < (at_ tb3 nd.toNat).length] ⟨⟨(by first | omega | (simp only [List.length_replicate, List.length_set]; omega)), (by first | omega | (simp only [List.length_replicate, List.length_set]; omega)), (by first | omega | (simp only [List.length_replicate, List.length_set]; omega))⟩, ⟨(by first | omega | (simp only [List.length_replicate, List.length_set]; omega)), (by first | omega | (simp only [List.length_replicate, List.length_set]; omega))⟩, trivial⟩ ?_
         refine xR [] [2, 3, 4, 8, 9, 11, 13, 14, 57, 58, 59, 70, 71, 72] [3, 4, 11, 13, 31, 8661] [I node, .ref 3 0, .ref 4 0, .arr 31, I nd, .ref 11 0, .ref 13 0, Sv (((at_ (at_ tb3 nd.toNat) t72.toNat).Text) ++ ((at_ l.Edges t59.toNat).Label)), Zag false l.Edges, I (l.Edges.length : Int), I t59, .row 8661 nd.toNat, I (((at_ tb2 nd.toNat).length) : Int), I t72] [some (Zac l), some (.box [Zaa false lx.Entries]), some (Zbj (at_ l.Edges t59.toNat)), some (Zdk (at_ (at_ tb3 nd.toNat) t72.toNat)), some (Zao 8661 tb3), some (Zal tb3)] [((at_ (at_ tb3 nd.toNat) t72.toNat).Text).size + ((at_ l.Edges t59.toNat).Label).size ≤ 9223372036854775807] ⟨(by first | omega | (simp only [List.length_replicate, List.length_set]; omega)), trivial⟩ ?_
         refine Zar ?_
         rcases Bool.eq_false_or_eq_true (Zfr lx (((at_ (at_ tb3 nd.toNat) t72.toNat).Text) ++ ((at_ l.Edges t59.toNat).Label))) with h6 | h6
         ·have hbg := h6
          rw [hsr] at hbg
          refine x_r [(2, .call [(true, .any), (true, .any)] true (Bv true))] [2, 3, 4, 8, 9, 11, 13, 14, 57, 58, 59, 70, 71, 72, 83] [3, 4, 11, 13, 31, 8661] [I node, .ref 3 0, .ref 4 0, .arr 31, I nd, .ref 11 0, .ref 13 0, Sv (((at_ (at_ tb3 nd.toNat) t72.toNat).Text) ++ ((at_ l.Edges t59.toNat).Label)), Zag false l.Edges, I (l.Edges.length : Int), I t59, .row 8661 nd.toNat, I (((at_ tb2 nd.toNat).length) : Int), I t72, Bv true] [some (Zac l), some (.box [Zaa false lx.Entries]), some (Zbj (at_ l.Edges t59.toNat)), some (Zdk (at_ (at_ tb3 nd.toNat) t72.toNat)), some (Zao 8661 tb3), some (Zal tb3)] [Con Tryz.prog 53 [.agg [Zaa false lx.Entries], Sv (((at_ (at_ tb3 nd.toNat) t72.toNat).Text) ++ ((at_ l.Edges t59.toNat).Label))] true (Bv true) ∧ True] ⟨⟨(Zbv h6 (Zgw lx (((at_ (at_ tb3 nd.toNat) t72.toNat).Text) ++ ((at_ l.Edges t59.toNat).Label)) hx (by first | (rw [ByteArray.size_append]; omega) | decide))), trivial⟩, trivial⟩ ?_
          refine Zad ?_
          refine Zcb rfl ?_
          refine Zof 31 8502 8661 (((at_ l.Edges t59.toNat).To).toNat) rfl rfl ((by first | omega | (simp only [List.length_replicate, List.length_set]; omega))) (fun q _ => rfl) (by kernel_rfl) ⟨trivial, trivial, trivial, trivial, trivial, trivial, trivial, trivial, trivial, trivial, trivial, (show _ ≠ _ from by omega), trivial, trivial, trivial, trivial⟩ ?_
          refine Zek [] (T := [(2, I node), (3, .ref 3 0), (4, .ref 4 0), (8, .arr 31), (9, I nd), (11, .ref 11 0), (13, .ref 13 0), (14, Sv (((at_ (at_ tb3 nd.toNat) t72.toNat).Text) ++ ((at_ l.Edges t59.toNat).Label))), (57, Zag false l.Edges), (58, I (l.Edges.length : Int)), (59, I t59), (70, .row 8661 nd.toNat), (71, I (((at_ tb2 nd.toNat).length) : Int)), (72, I t72), (83, Bv true)]) (O := [(3, Zac l), (4, .box [Zaa false lx.Entries]), (11, Zbj (at_ l.Edges t59.toNat)), (13, Zdk (at_ (at_ tb3 nd.toNat) t72.toNat)), (31, .oar [8502, 8661] 1 ((tb3.set (((at_ l.Edges t59.toNat).To).toNat) ([] : List Reading)).length) (fun q => bif Nat.beq q (((at_ l.Edges t59.toNat).To).toNat) then [.arr 8502] else (Zck 8661 (tb3.set (((at_ l.Edges t59.toNat).To).toNat) ([] : List Reading))) q)), (8502, Zai (at_ tb3 (((at_ l.Edges t59.toNat).To).toNat))), (8661, Zal (tb3.set (((at_ l.Edges t59.toNat).To).toNat) ([] : List Reading)))]) rfl (⟨.inl rfl, .inl rfl, .inl rfl, .inl rfl, .inl rfl, .inl rfl, .inl rfl, .inl rfl, .inl rfl, .inl rfl, .inl rfl, .inl rfl, .inl rfl, .inl rfl, .inl rfl, trivial⟩) (⟨.inl rfl, .inl rfl, .inl rfl, .inl rfl, .inr ⟨rfl, rfl, (by first | rfl | (simp; done)), fun i hi => .inl (by dsimp only; cases Nat.beq i (((at_ l.Edges t59.toNat).To).toNat) <;> rfl)⟩, .inl rfl, .inr (Zdr ((by first | omega | (simp only [List.length_replicate, List.length_set]; omega))) (by first | rfl | (simp; done) | (simp; omega)) (fun i_ h_ => absurd h_ (Nat.not_lt_zero _))), trivial⟩) ?_
          refine x_r [(7, .as (.arr 8502)), (15, .new 99), (16, .new 100)] [2, 3, 4, 8, 9, 11, 57, 58, 59, 70, 71, 72] [3, 4, 11, 31, 100, 8661] [I node, .ref 3 0, .ref 4 0, .arr 31, I nd, .ref 11 0, Zag false l.Edges, I (l.Edges.length : Int), I t59, .row 8661 nd.toNat, I (((at_ tb2 nd.toNat).length) : Int), I t72] [some (Zac l), some (.box [Zaa false lx.Entries]), some (Zbj (at_ l.Edges t59.toNat)), some (.oar [8502, 8661, 100] 1 ((tb3.set (((at_ l.Edges t59.toNat).To).toNat) ([] : List Reading)).length) (fun q => bif Nat.beq q (((at_ l.Edges t59.toNat).To).toNat) then spl ((fun q => bif Nat.beq q (((at_ l.Edges t59.toNat).To).toNat) then [.arr 8502] else (Zck 8661 (tb3.set (((at_ l.Edges t59.toNat).To).toNat) ([] : List Reading))) q) (((at_ l.Edges t59.toNat).To).toNat)) 0 [.arr 100] else (fun q => bif Nat.beq q (((at_ l.Edges t59.toNat).To).toNat) then [.arr 8502] else (Zck 8661 (tb3.set (((at_ l.Edges t59.toNat).To).toNat) ([] : List Reading))) q) q)), some (.arr 2 (((at_ tb3 (((at_ l.Edges t59.toNat).To).toNat)).length) + 1) (Zfm ((at_ tb3 (((at_ l.Edges t59.toNat).To).toNat)).length) (Zeg (at_ tb3 (((at_ l.Edges t59.toNat).To).toNat))) (Zgd [Sv (((at_ (at_ tb3 nd.toNat) t72.toNat).Text) ++ ((at_ l.Edges t59.toNat).Label)), I (((at_ (at_ tb3 nd.toNat) t72.toNat).Cost) + ((at_ l.Edges t59.toNat).Cost))] 2))), some (Zal (tb3.set (((at_ l.Edges t59.toNat).To).toNat) ([] : List Reading)))] [(0 : Int) ≤ ((at_ l.Edges t59.toNat).To) ∧ ((at_ l.Edges t59.toNat).To) < (((tb3.set (((at_ l.Edges t59.toNat).To).toNat) ([] : List Reading)).length) : Int), ((at_ l.Edges t59.toNat).To).toNat < (tb3.set (((at_ l.Edges t59.toNat).To).toNat) ([] : List Reading)).length ∧ List.drop 0 ((fun q => bif Nat.beq q (((at_ l.Edges t59.toNat).To).toNat) then [.arr 8502] else (Zck 8661 (tb3.set (((at_ l.Edges t59.toNat).To).toNat) ([] : List Reading))) q) (((at_ l.Edges t59.toNat).To).toNat)) = [.arr 8502], inR .i64 (((at_ (at_ tb3 nd.toNat) t72.toNat).Cost) + ((at_ l.Edges t59.toNat).Cost)), (((at_ tb3 (((at_ l.Edges t59.toNat).To).toNat)).length) + 1) * 24 ≤ 140737488355328, (0 : Int) ≤ ((at_ l.Edges t59.toNat).To) ∧ ((at_ l.Edges t59.toNat).To) < (((tb3.set (((at_ l.Edges t59.toNat).To).toNat) ([] : List Reading)).length) : Int), ((at_ l.Edges t59.toNat).To).toNat < (tb3.set (((at_ l.Edges t59.toNat).To).toNat) ([] : List Reading)).length] ⟨⟨(by first | first | omega | (simp only [List.length_replicate, List.length_set]; omega) | (simp only [List.length_set]; first | omega | (simp only [List.length_replicate, List.length_set]; omega))), (by first | first | omega | (simp only [List.length_replicate, List.length_set]; omega) | (simp only [List.length_set]; first | omega | (simp only [List.length_replicate, List.length_set]; omega)))⟩, ⟨(by first | first | omega | (simp only [List.length_replicate, List.length_set]; omega) | (simp only [List.length_set]; first | omega | (simp only [List.length_replicate, List.length_set]; omega))), (by simp only [Nat.beq_refl, cond_true]; rfl)⟩, (Zah (by first | omega | (simp only [List.length_replicate, List.length_set]; omega)) (by first | omega | (simp only [List.length_replicate, List.length_set]; omega))), (by first | omega | (simp only [List.length_replicate, List.length_set]; omega)), ⟨(by first | first | omega | (simp only [List.length_replicate, List.length_set]; omega) | (simp only [List.length_set]; first | omega | (simp only [List.length_replicate, List.length_set]; omega))), (by first | first | omega | (simp only [List.length_replicate, List.length_set]; omega) | (simp only [List.length_set]; first | omega | (simp only [List.length_replicate, List.length_set]; omega)))⟩, (by first | first | omega | (simp only [List.length_replicate, List.length_set]; omega) | (simp only [List.length_set]; first | omega | (simp only [List.length_replicate, List.length_set]; omega))), trivial⟩ ?_
          refine Zbw 5 ?_
          refine Zad ?_
          refine Zso 31 100 8661 (((at_ l.Edges t59.toNat).To).toNat) rfl rfl rfl ((by first | first | omega | (simp only [List.length_replicate, List.length_set]; omega) | (simp only [List.length_set]; first | omega | (simp only [List.length_replicate, List.length_set]; omega)))) (by first | exact Nat.le_refl _ | omega) (fun q _ => ⟨fun e => by subst e; simp only [Nat.beq_refl, cond_true]; rfl, fun e => by simp only [Zoh e, cond_false]; rfl⟩) (by kernel_rfl) ⟨trivial, trivial, trivial, trivial, trivial, trivial, trivial, trivial, trivial, (show _ ≠ _ from by omega), trivial, trivial, trivial⟩ ?_
          refine Zek [] (T := [(2, I node), (3, .ref 3 0), (4, .ref 4 0), (8, .arr 31), (9, I nd), (11, .ref 11 0), (57, Zag false l.Edges), (58, I (l.Edges.length : Int)), (59, I t59), (70, .row 8661 nd.toNat), (71, I (((at_ tb2 nd.toNat).length) : Int)), (72, I t72)]) (O := [(3, Zac l), (4, .box [Zaa false lx.Entries]), (11, Zbj (at_ l.Edges t59.toNat)), (31, Zao 8661 ((tb3.set (((at_ l.Edges t59.toNat).To).toNat) ([] : List Reading)).set (((at_ l.Edges t59.toNat).To).toNat) ((at_ tb3 (((at_ l.Edges t59.toNat).To).toNat)) ++ [(Reading.mk (((at_ (at_ tb3 nd.toNat) t72.toNat).Text) ++ ((at_ l.Edges t59.toNat).Label)) (((at_ (at_ tb3 nd.toNat) t72.toNat).Cost) + ((at_ l.Edges t59.toNat).Cost)))]))), (8661, Zal ((tb3.set (((at_ l.Edges t59.toNat).To).toNat) ([] : List Reading)).set (((at_ l.Edges t59.toNat).To).toNat) ((at_ tb3 (((at_ l.Edges t59.toNat).To).toNat)) ++ [(Reading.mk (((at_ (at_ tb3 nd.toNat) t72.toNat).Text) ++ ((at_ l.Edges t59.toNat).Label)) (((at_ (at_ tb3 nd.toNat) t72.toNat).Cost) + ((at_ l.Edges t59.toNat).Cost)))])))]) rfl (⟨.inl rfl, .inl rfl, .inl rfl, .inl rfl, .inl rfl, .inl rfl, .inl rfl, .inl rfl, .inl rfl, .inl rfl, .inl rfl, .inl rfl, trivial⟩) (⟨.inl rfl, .inl rfl, .inl rfl, .inr ⟨rfl, rfl, (by simp), fun i hi => .inl rfl⟩, .inr (Zdr ((by first | first | omega | (simp only [List.length_replicate, List.length_set]; omega) | (simp only [List.length_set]; first | omega | (simp only [List.length_replicate, List.length_set]; omega)))) (by first | rfl | (simp; done) | (simp; omega)) (fun i_ h_ => (show ∀ i_ : Nat, i_ < (((at_ tb3 (((at_ l.Edges t59.toNat).To).toNat)) ++ [(Reading.mk (((at_ (at_ tb3 nd.toNat) t72.toNat).Text) ++ ((at_ l.Edges t59.toNat).Label)) (((at_ (at_ tb3 nd.toNat) t72.toNat).Cost) + ((at_ l.Edges t59.toNat).Cost)))]) : List Reading).length → (Zfm ((at_ tb3 (((at_ l.Edges t59.toNat).To).toNat)).length) (Zeg (at_ tb3 (((at_ l.Edges t59.toNat).To).toNat))) (Zgd [Sv (((at_ (at_ tb3 nd.toNat) t72.toNat).Text) ++ ((at_ l.Edges t59.toNat).Label)), I (((at_ (at_ tb3 nd.toNat) t72.toNat).Cost) + ((at_ l.Edges t59.toNat).Cost))] 2)) i_ = (Zeg ((at_ tb3 (((at_ l.Edges t59.toNat).To).toNat)) ++ [(Reading.mk (((at_ (at_ tb3 nd.toNat) t72.toNat).Text) ++ ((at_ l.Edges t59.toNat).Label)) (((at_ (at_ tb3 nd.toNat) t72.toNat).Cost) + ((at_ l.Edges t59.toNat).Cost)))])) i_ from fun i_ hi_ => (Zhw (enc := Zhz) (xs := (at_ tb3 (((at_ l.Edges t59.toNat).To).toNat))) rfl i_ hi_)) i_ (by first | exact h_ | (simpa using h_)))), trivial⟩) ?_
          refine x_r [] [2, 3, 4, 8, 9, 11, 57, 58, 59, 70, 71, 72] [3, 4, 11, 31, 8661] [I node, .ref 3 0, .ref 4 0, .arr 31, I nd, .ref 11 0, Zag false l.Edges, I (l.Edges.length : Int), I t59, .row 8661 nd.toNat, I (((at_ tb2 nd.toNat).length) : Int), I (t72 + 1)] [some (Zac l), some (.box [Zaa false lx.Entries]), some (Zbj (at_ l.Edges t59.toNat)), some (Zao 8661 ((tb3.set (((at_ l.Edges t59.toNat).To).toNat) ([] : List Reading)).set (((at_ l.Edges t59.toNat).To).toNat) ((at_ tb3 (((at_ l.Edges t59.toNat).To).toNat)) ++ [(Reading.mk (((at_ (at_ tb3 nd.toNat) t72.toNat).Text) ++ ((at_ l.Edges t59.toNat).Label)) (((at_ (at_ tb3 nd.toNat) t72.toNat).Cost) + ((at_ l.Edges t59.toNat).Cost)))]))), some (Zal ((tb3.set (((at_ l.Edges t59.toNat).To).toNat) ([] : List Reading)).set (((at_ l.Edges t59.toNat).To).toNat) ((at_ tb3 (((at_ l.Edges t59.toNat).To).toNat)) ++ [(Reading.mk (((at_ (at_ tb3 nd.toNat) t72.toNat).Text) ++ ((at_ l.Edges t59.toNat).Label)) (((at_ (at_ tb3 nd.toNat) t72.toNat).Cost) + ((at_ l.Edges t59.toNat).Cost)))])))] [inR .i64 (t72 + 1)] ⟨(Zah (by first | omega | (simp only [List.length_replicate, List.length_set]; omega)) (by first | omega | (simp only [List.length_replicate, List.length_set]; omega))), trivial⟩ ?_
          exact Zbm ((t72 + 1), ((tb3.set (((at_ l.Edges t59.toNat).To).toNat) ([] : List Reading)).set (((at_ l.Edges t59.toNat).To).toNat) ((at_ tb3 (((at_ l.Edges t59.toNat).To).toNat)) ++ [(Reading.mk (((at_ (at_ tb3 nd.toNat) t72.toNat).Text) ++ ((at_ l.Edges t59.toNat).Label)) (((at_ (at_ tb3 nd.toNat) t72.toNat).Cost) + ((at_ l.Edges t59.toNat).Cost)))]))) rfl (show (0 ≤ (t72 + 1) ∧ (t72 + 1) ≤ ((at_ tb2 nd.toNat).length : Int)) ∧ (((tb3.set (((at_ l.Edges t59.toNat).To).toNat) ([] : List Reading)).set (((at_ l.Edges t59.toNat).To).toNat) ((at_ tb3 (((at_ l.Edges t59.toNat).To).toNat)) ++ [(Reading.mk (((at_ (at_ tb3 nd.toNat) t72.toNat).Text) ++ ((at_ l.Edges t59.toNat).Label)) (((at_ (at_ tb3 nd.toNat) t72.toNat).Cost) + ((at_ l.Edges t59.toNat).Cost)))])) = exT (Zfr lx) tb2 (at_ l.Edges t59.toNat) nd.toNat (t72 + 1).toNat) ∧ True from ⟨(by omega), (by first | (rw [hjj, ← exT_y (p := Zfr lx) (by rw [htl2]; omega) hjl hbg, ← htb3, ← hsr]; (try rw [List.set_set]); rfl) | (rw [hjj, ← exT_n hjl (by simpa using hbg)]; exact htb3)), trivial⟩) (by first | (show ((((at_ tb2 nd.toNat).length : Int) - (t72 + 1)).toNat : Nat) < (((at_ tb2 nd.toNat).length : Int) - t72).toNat; omega) | (dsimp only; omega))
         have hbg := h6
         rw [hsr] at hbg
         refine x_r [(2, .call [(true, .any), (true, .any)] true (Bv false))] [2, 3, 4, 8, 9, 11, 13, 14, 57, 58, 59, 70, 71, 72, 83] [3, 4, 11, 13, 31, 8661] [I node, .ref 3 0, .ref 4 0, .arr 31, I nd, .ref 11 0, .ref 13 0, Sv (((at_ (at_ tb3 nd.toNat) t72.toNat).Text) ++ ((at_ l.Edges t59.toNat).Label)), Zag false l.Edges, I (l.Edges.length : Int), I t59, .row 8661 nd.toNat, I (((at_ tb2 nd.toNat).length) : Int), I t72, Bv false] [some (Zac l), some (.box [Zaa false lx.Entries]), some (Zbj (at_ l.Edges t59.toNat)), some (Zdk (at_ (at_ tb3 nd.toNat) t72.toNat)), some (Zao 8661 tb3), some (Zal tb3)] [Con Tryz.prog 53 [.agg [Zaa false lx.Entries], Sv (((at_ (at_ tb3 nd.toNat) t72.toNat).Text) ++ ((at_ l.Edges t59.toNat).Label))] true (Bv false) ∧ True] ⟨⟨(Zbv h6 (Zgw lx (((at_ (at_ tb3 nd.toNat) t72.toNat).Text) ++ ((at_ l.Edges t59.toNat).Label)) hx (by first | (rw [ByteArray.size_append]; omega) | decide))), trivial⟩, trivial⟩ ?_
         refine Zad ?_
         refine Zav rfl ?_
         refine Zbk ?_
         refine Zbw 5 ?_
         refine Zad ?_
         refine x_r [] [2, 3, 4, 8, 9, 11, 57, 58, 59, 70, 71, 72] [3, 4, 11, 31, 8661] [I node, .ref 3 0, .ref 4 0, .arr 31, I nd, .ref 11 0, Zag false l.Edges, I (l.Edges.length : Int), I t59, .row 8661 nd.toNat, I (((at_ tb2 nd.toNat).length) : Int), I (t72 + 1)] [some (Zac l), some (.box [Zaa false lx.Entries]), some (Zbj (at_ l.Edges t59.toNat)), some (Zao 8661 tb3), some (Zal tb3)] [inR .i64 (t72 + 1)] ⟨(Zah (by first | omega | (simp only [List.length_replicate, List.length_set]; omega)) (by first | omega | (simp only [List.length_replicate, List.length_set]; omega))), trivial⟩ ?_
         exact Zbm ((t72 + 1), tb3) rfl (show (0 ≤ (t72 + 1) ∧ (t72 + 1) ≤ ((at_ tb2 nd.toNat).length : Int)) ∧ (tb3 = exT (Zfr lx) tb2 (at_ l.Edges t59.toNat) nd.toNat (t72 + 1).toNat) ∧ True from ⟨(by omega), (by first | (rw [hjj, ← exT_y (p := Zfr lx) (by rw [htl2]; omega) hjl hbg, ← htb3, ← hsr]; (try rw [List.set_set]); rfl) | (rw [hjj, ← exT_n hjl (by simpa using hbg)]; exact htb3)), trivial⟩) (by first | (show ((((at_ tb2 nd.toNat).length : Int) - (t72 + 1)).toNat : Nat) < (((at_ tb2 nd.toNat).length : Int) - t72).toNat; omega) | (dsimp only; omega))
        have hje : t72.toNat = (at_ tb2 nd.toNat).length := by omega
        rw [hje] at htb3
        refine x_r [(0, .dec false)] [2, 3, 4, 8, 9, 11, 57, 58, 59, 70, 71, 72, 73] [3, 4, 11, 31, 8661] [I node, .ref 3 0, .ref 4 0, .arr 31, I nd, .ref 11 0, Zag false l.Edges, I (l.Edges.length : Int), I t59, .row 8661 nd.toNat, I (((at_ tb2 nd.toNat).length) : Int), I t72, Bv false] [some (Zac l), some (.box [Zaa false lx.Entries]), some (Zbj (at_ l.Edges t59.toNat)), some (Zao 8661 tb3), some (Zal tb3)] [¬ (t72 < (((at_ tb2 nd.toNat).length) : Int))] ⟨h5, trivial⟩ ?_
        refine Zad ?_
        refine Zar ?_
        refine Zav rfl ?_
        refine Zdo ?_
        refine Zaw ?_
        refine Zbd ?_
        refine Zax ?_
        refine Zbw 3 ?_
        refine Zad ?_
        refine x_r [] [2, 3, 4, 8, 9, 57, 58, 59] [3, 4, 31, 8661] [I node, .ref 3 0, .ref 4 0, .arr 31, I nd, Zag false l.Edges, I (l.Edges.length : Int), I (t59 + 1)] [some (Zac l), some (.box [Zaa false lx.Entries]), some (Zao 8661 tb3), some (Zal tb3)] [inR .i64 (t59 + 1)] ⟨(Zah (by first | omega | (simp only [List.length_replicate, List.length_set]; omega)) (by first | omega | (simp only [List.length_replicate, List.length_set]; omega))), trivial⟩ ?_
        exact Zbm ((t59 + 1), tb3) rfl (show (0 ≤ (t59 + 1) ∧ (t59 + 1) ≤ (l.Edges.length : Int)) ∧ (tb3 = pfE l lx nd.toNat (t59 + 1).toNat) ∧ True from ⟨(by omega), (by first | (rw [hii, ← pf_y hff, ← htb2]; exact htb3) | (rw [hii, ← pf_n hff]; exact htb2)), trivial⟩) (by first | (show (((l.Edges.length : Int) - (t59 + 1)).toNat : Nat) < ((l.Edges.length : Int) - t59).toNat; omega) | (dsimp only; omega))
       have hff : ¬ (at_ l.Edges t59.toNat).From = ((nd.toNat : Nat) : Int) := by omega
       refine x_r [(3, .dec true)] [2, 3, 4, 8, 9, 11, 57, 58, 59, 66] [3, 4, 11, 31, 8661] [I node, .ref 3 0, .ref 4 0, .arr 31, I nd, .ref 11 0, Zag false l.Edges, I (l.Edges.length : Int), I t59, Bv true] [some (Zac l), some (.box [Zaa false lx.Entries]), some (Zbj (at_ l.Edges t59.toNat)), some (Zao 8661 tb2), some (Zal tb2)] [((at_ l.Edges t59.toNat).From) ≠ nd] ⟨h4, trivial⟩ ?_
       refine Zad ?_
       refine Zcb rfl ?_
       refine Zdo ?_
       refine Zaw ?_
       refine Zax ?_
       refine Zad ?_
       refine x_r [] [2, 3, 4, 8, 9, 57, 58, 59] [3, 4, 31, 8661] [I node, .ref 3 0, .ref 4 0, .arr 31, I nd, Zag false l.Edges, I (l.Edges.length : Int), I (t59 + 1)] [some (Zac l), some (.box [Zaa false lx.Entries]), some (Zao 8661 tb2), some (Zal tb2)] [inR .i64 (t59 + 1)] ⟨(Zah (by first | omega | (simp only [List.length_replicate, List.length_set]; omega)) (by first | omega | (simp only [List.length_replicate, List.length_set]; omega))), trivial⟩ ?_
       exact Zbm ((t59 + 1), tb2) rfl (show (0 ≤ (t59 + 1) ∧ (t59 + 1) ≤ (l.Edges.length : Int)) ∧ (tb2 = pfE l lx nd.toNat (t59 + 1).toNat) ∧ True from ⟨(by omega), (by first | (rw [hii, ← pf_y hff, ← htb2]; exact htb3) | (rw [hii, ← pf_n hff]; exact htb2)), trivial⟩) (by first | (show (((l.Edges.length : Int) - (t59 + 1)).toNat : Nat) < ((l.Edges.length : Int) - t59).toNat; omega) | (dsimp only; omega))
      have hie : t59.toNat = l.Edges.length := by omega
      refine x_r [(0, .dec false)] [2, 3, 4, 8, 9, 57, 58, 59, 60] [3, 4, 31, 8661] [I node, .ref 3 0, .ref 4 0, .arr 31, I nd, Zag false l.Edges, I (l.Edges.length : Int), I t59, Bv false] [some (Zac l), some (.box [Zaa false lx.Entries]), some (Zao 8661 tb2), some (Zal tb2)] [¬ (t59 < (l.Edges.length : Int))] ⟨h3, trivial⟩ ?_
      refine Zad ?_
      refine Zar ?_
      refine Zav rfl ?_
      refine Zdo ?_
      refine Zaw ?_
      refine Zbd ?_
      refine Zax ?_
      refine Zbw 1 ?_
      refine Zad ?_
      refine x_r [] [2, 3, 4, 8, 9] [3, 4, 31, 8661] [I node, .ref 3 0, .ref 4 0, .arr 31, I (nd + 1)] [some (Zac l), some (.box [Zaa false lx.Entries]), some (Zao 8661 tb2), some (Zal tb2)] [inR .i64 (nd + 1)] ⟨(Zah (by first | omega | (simp only [List.length_replicate, List.length_set]; omega)) (by first | omega | (simp only [List.length_replicate, List.length_set]; omega))), trivial⟩ ?_
      exact Zbm ((nd + 1), tb2) rfl (show (0 ≤ (nd + 1) ∧ (nd + 1) ≤ node + 1) ∧ (tb2 = pfN l lx (nd + 1).toNat) ∧ True from ⟨(by omega), (by (rw [hnn, htb2]; exact Ybb hie)), trivial⟩) (by first | (show ((node + 1 - (nd + 1)).toNat : Nat) < (node + 1 - nd).toNat; omega) | (dsimp only; omega))
     have hne : nd.toNat = node.toNat + 1 := by omega
     have hfin : at_ tb node.toNat = pfV l lx node.toNat := by rw [htb, hne]; rfl
     have htl : tb.length = l.Nodes.toNat := by rw [htb]; exact (Zya hl hx nd.toNat (by omega)).1.1
     have hrl := Zyu hl hx (n := node.toNat) (by omega)
     rw [← hfin] at hrl
     refine x_r [(2, .dec false)] [2, 3, 4, 8, 9, 40] [3, 4, 31, 8661] [I node, .ref 3 0, .ref 4 0, .arr 31, I nd, Bv false] [some (Zac l), some (.box [Zaa false lx.Entries]), some (Zao 8661 tb), some (Zal tb)] [¬ (nd ≤ node)] ⟨h2, trivial⟩ ?_
     refine Zad ?_
     refine Zav rfl ?_
     refine Zdo ?_
     refine Zaw ?_
     refine Zbd ?_
     refine Zax ?_
     refine Zad ?_
     refine Zar ?_
     refine Zek [] (T := [(2, I node), (3, .ref 3 0), (4, .ref 4 0), (8, .arr 31), (9, I nd), (40, Bv false)]) (O := [(3, Zac l), (4, .box [Zaa false lx.Entries]), (31, .oar [8661] 1 tb.length (Zjh true tb))]) rfl (⟨.inl rfl, .inl rfl, .inl rfl, .inl rfl, .inl rfl, .inl rfl, trivial⟩) (⟨.inl rfl, .inl rfl, .inr ⟨rfl, rfl, rfl, fun i hi => .inr (Zmp true _ rfl i hi)⟩, trivial⟩) ?_
     refine x_r [] [6, 7] [] [Zas true (at_ tb node.toNat), I 0] [] [(0 : Int) ≤ node ∧ node < (tb.length : Int), node.toNat < tb.length] ⟨⟨(by first | omega | (simp only [List.length_replicate, List.length_set]; omega)), (by first | omega | (simp only [List.length_replicate, List.length_set]; omega))⟩, (by first | omega | (simp only [List.length_replicate, List.length_set]; omega)), trivial⟩ ?_
     refine Zad ?_
     refine Zdh ?_
     refine Zce ((at_ tb node.toNat), 0) (show ((at_ tb node.toNat) = pfV l lx node.toNat) ∧ (0 = 0) ∧ (True) from ⟨(by exact hfin), (by rfl), trivial⟩) (trivial) (.tup [Zas true (at_ tb node.toNat), I 0]) (by kernel_rfl) (.inl rfl) (fun _ => rfl) (fun _ => (by simp [Zan, Zaj, Zoi]))
    have hbg0 := h1
    refine x_r [(1, .call [(true, .any), (true, .any)] true (Bv false))] [2, 3, 4, 8, 33] [3, 4, 31, 8661] [I node, .ref 3 0, .ref 4 0, .arr 31, Bv false] [some (Zac l), some (.box [Zaa false lx.Entries]), some (Zao 8661 (List.replicate l.Nodes.toNat ([] : List Reading))), some (Zal (List.replicate l.Nodes.toNat ([] : List Reading)))] [Con Tryz.prog 53 [.agg [Zaa false lx.Entries], Sv (⟨#[]⟩ : ByteArray)] true (Bv false) ∧ True] ⟨⟨(Zbv h1 (Zgw lx (⟨#[]⟩ : ByteArray) hx (by first | (rw [ByteArray.size_append]; omega) | decide))), trivial⟩, trivial⟩ ?_
    refine Zad ?_
    refine Zav rfl ?_
    refine Zbk ?_
    refine Zad ?_
    refine Zar ?_
    refine xR [] [2, 3, 4, 8, 9] [3, 4, 31, 8661] [I node, .ref 3 0, .ref 4 0, .arr 31, I 0] [some (Zac l), some (.box [Zaa false lx.Entries]), some (Zao 8661 (List.replicate l.Nodes.toNat ([] : List Reading))), some (Zal (List.replicate l.Nodes.toNat ([] : List Reading)))] [] trivial ?_
    refine Zbp ?_
    refine Zel (X := Int × (List (List Reading))) (fun x => mkS [(2, I node), (3, .ref 3 0), (4, .ref 4 0), (8, .arr 31), (9, I x.1)] [(3, Zac l), (4, .box [Zaa false lx.Entries]), (31, Zao 8661 x.2), (8661, Zal x.2)]) (fun x => (0 ≤ x.1 ∧ x.1 ≤ node + 1) ∧ (x.2 = pfN l lx x.1.toNat) ∧ True) (fun x => (node + 1 - x.1).toNat) (0, (List.replicate l.Nodes.toNat ([] : List Reading))) rfl (show (0 ≤ (0 : Int) ∧ (0 : Int) ≤ node + 1) ∧ ((List.replicate l.Nodes.toNat ([] : List Reading)) = pfN l lx (0 : Int).toNat) ∧ True from ⟨(by omega), (by first | exact (if_pos hbg0).symm | exact (if_neg hbg0).symm | exact (if_neg (by simp [*])).symm), trivial⟩) (fun x hI => ?_)
    obtain ⟨nd, tb⟩ := x
    obtain ⟨hn0, htb, _⟩ : (0 ≤ nd ∧ nd ≤ node + 1) ∧ (tb = pfN l lx nd.toNat) ∧ True := hI
    show XW _ _ _ _ (mkS [(2, I node), (3, .ref 3 0), (4, .ref 4 0), (8, .arr 31), (9, I nd)] [(3, Zac l), (4, .box [Zaa false lx.Entries]), (31, Zao 8661 tb), (8661, Zal tb)]) _ _
    refine Zar ?_
    refine Zar ?_
    by_cases h7 : nd ≤ node
    ·have hn : nd.toNat < l.Nodes.toNat := by omega
     have hok := (Zya hl hx nd.toNat (by omega)).1
     rw [← htb] at hok
     have htl := hok.1
     have hrw := (hok.2 _ hn).1
     have hnn : (nd + 1).toNat = nd.toNat + 1 := by omega
     refine x_r [(2, .dec true)] [2, 3, 4, 8, 9, 40] [3, 4, 31, 8661] [I node, .ref 3 0, .ref 4 0, .arr 31, I nd, Bv true] [some (Zac l), some (.box [Zaa false lx.Entries]), some (Zao 8661 tb), some (Zal tb)] [nd ≤ node] ⟨h7, trivial⟩ ?_
     refine Zad ?_
     refine Zcb rfl ?_
     refine Zbk ?_
     refine Zad ?_
     refine Zar ?_
     refine Zbp ?_
     refine Zar ?_
     refine Zsp 31 8621 8661 nd.toNat rfl rfl ((by first | omega | (simp only [List.length_replicate, List.length_set]; omega))) (fun q _ => rfl) (by kernel_rfl) ?_
     refine Zek [] (T := [(2, I node), (3, .ref 3 0), (4, .ref 4 0), (8, .arr 31), (9, I nd), (40, Bv true)]) (O := [(3, Zac l), (4, .box [Zaa false lx.Entries]), (31, .oar [8621, 8661] 1 ((tb.set nd.toNat ([] : List Reading)).length) (fun q => bif Nat.beq q nd.toNat then [.arr 8621] else (Zck 8661 (tb.set nd.toNat ([] : List Reading))) q)), (8621, Zai (at_ tb nd.toNat)), (8661, Zal (tb.set nd.toNat ([] : List Reading)))]) rfl (⟨.inl rfl, .inl rfl, .inl rfl, .inl rfl, .inl rfl, .inl rfl, trivial⟩) (⟨.inl rfl, .inl rfl, .inr ⟨rfl, rfl, (by first | rfl | (simp; done)), fun i hi => .inl (by dsimp only; cases Nat.beq i nd.toNat <;> rfl)⟩, .inl rfl, .inr (Zdr ((by first | omega | (simp only [List.length_replicate, List.length_set]; omega))) (by first | rfl | (simp; done) | (simp; omega)) (fun i_ h_ => absurd h_ (Nat.not_lt_zero _))), trivial⟩) ?_
     obtain ⟨list'_2, out_2, hx2_0, hc2⟩ := Zst (at_ tb nd.toNat) (((at_ tb nd.toNat).length) : Int) (by omega) (by omega)
     have hout := hx2_0
     refine x_r [(5, .as (.arr 8621)), (9, .as (.arr 8621)), (11, .lend [(8621, Zai (at_ tb nd.toNat), Zai list'_2)] [(8622, Zai out_2)] [(true, .any), (true, .any)] false (.arr 8622))] [2, 3, 4, 8, 9] [3, 4, 31, 8621, 8622, 8661] [I node, .ref 3 0, .ref 4 0, .arr 31, I nd] [some (Zac l), some (.box [Zaa false lx.Entries]), some (.oar [8621, 8661, 8622] 1 ((tb.set nd.toNat ([] : List Reading)).length) (fun q => bif Nat.beq q nd.toNat then spl ((fun q => bif Nat.beq q nd.toNat then [.arr 8621] else (Zck 8661 (tb.set nd.toNat ([] : List Reading))) q) nd.toNat) 0 [.arr 8622] else (fun q => bif Nat.beq q nd.toNat then [.arr 8621] else (Zck 8661 (tb.set nd.toNat ([] : List Reading))) q) q)), some (Zai list'_2), some (Zai out_2), some (Zal (tb.set nd.toNat ([] : List Reading)))] [(0 : Int) ≤ nd ∧ nd < (((tb.set nd.toNat ([] : List Reading)).length) : Int), nd.toNat < (tb.set nd.toNat ([] : List Reading)).length ∧ List.drop 0 ((fun q => bif Nat.beq q nd.toNat then [.arr 8621] else (Zck 8661 (tb.set nd.toNat ([] : List Reading))) q) nd.toNat) = [.arr 8621], (0 : Int) ≤ nd ∧ nd < (((tb.set nd.toNat ([] : List Reading)).length) : Int), nd.toNat < (tb.set nd.toNat ([] : List Reading)).length ∧ List.drop 0 ((fun q => bif Nat.beq q nd.toNat then [.arr 8621] else (Zck 8661 (tb.set nd.toNat ([] : List Reading))) q) nd.toNat) = [.arr 8621], Zbi Tryz.prog 54 [.arr 8621, I (((at_ tb nd.toNat).length) : Int)] (Zaf [(8621, Zai (at_ tb nd.toNat))]) false (.arr 8622) (Zaf [(8621, Zai list'_2), (8622, Zai out_2)]) ∧ (((Zai (at_ tb nd.toNat) : Ob) = Zai (at_ tb nd.toNat) ∨ Zih Zgf true (Zai (at_ tb nd.toNat)) (Zai (at_ tb nd.toNat))) ∧ Zbu false (Zai (at_ tb nd.toNat))) ∧ True, (0 : Int) ≤ nd ∧ nd < (((tb.set nd.toNat ([] : List Reading)).length) : Int), nd.toNat < (tb.set nd.toNat ([] : List Reading)).length] ⟨⟨(by first | first | omega | (simp only [List.length_replicate, List.length_set]; omega) | (simp only [List.length_set]; first | omega | (simp only [List.length_replicate, List.length_set]; omega))), (by first | first | omega | (simp only [List.length_replicate, List.length_set]; omega) | (simp only [List.length_set]; first | omega | (simp only [List.length_replicate, List.length_set]; omega)))⟩, ⟨(by first | first | omega | (simp only [List.length_replicate, List.length_set]; omega) | (simp only [List.length_set]; first | omega | (simp only [List.length_replicate, List.length_set]; omega))), (by simp only [Nat.beq_refl, cond_true]; rfl)⟩, ⟨(by first | first | omega | (simp only [List.length_replicate, List.length_set]; omega) | (simp only [List.length_set]; first | omega | (simp only [List.length_replicate, List.length_set]; omega))), (by first | first | omega | (simp only [List.length_replicate, List.length_set]; omega) | (simp only [List.length_set]; first | omega | (simp only [List.length_replicate, List.length_set]; omega)))⟩, ⟨(by first | first | omega | (simp only [List.length_replicate, List.length_set]; omega) | (simp only [List.length_set]; first | omega | (simp only [List.length_replicate, List.length_set]; omega))), (by simp only [Nat.beq_refl, cond_true]; rfl)⟩, ⟨hc2, ⟨.inl rfl, fun _ _ => Zhf false _⟩, trivial⟩, ⟨(by first | first | omega | (simp only [List.length_replicate, List.length_set]; omega) | (simp only [List.length_set]; first | omega | (simp only [List.length_replicate, List.length_set]; omega))), (by first | first | omega | (simp only [List.length_replicate, List.length_set]; omega) | (simp only [List.length_set]; first | omega | (simp only [List.length_replicate, List.length_set]; omega)))⟩, (by first | first | omega | (simp only [List.length_replicate, List.length_set]; omega) | (simp only [List.length_set]; first | omega | (simp only [List.length_replicate, List.length_set]; omega))), trivial⟩ ?_
     refine Zad ?_
     refine Zar ?_
     refine Zqo 31 8622 8661 nd.toNat rfl rfl rfl ((by first | first | omega | (simp only [List.length_replicate, List.length_set]; omega) | (simp only [List.length_set]; first | omega | (simp only [List.length_replicate, List.length_set]; omega)))) (by first | exact Nat.le_refl _ | omega) (fun q _ => ⟨fun e => by subst e; simp only [Nat.beq_refl, cond_true]; rfl, fun e => by simp only [Zoh e, cond_false]; rfl⟩) (by kernel_rfl) ?_
     refine Zek [] (T := [(2, I node), (3, .ref 3 0), (4, .ref 4 0), (8, .arr 31), (9, I nd)]) (O := [(3, Zac l), (4, .box [Zaa false lx.Entries]), (31, Zao 8661 ((tb.set nd.toNat ([] : List Reading)).set nd.toNat out_2)), (8621, Zai list'_2), (8661, Zal ((tb.set nd.toNat ([] : List Reading)).set nd.toNat out_2))]) rfl (⟨.inl rfl, .inl rfl, .inl rfl, .inl rfl, .inl rfl, trivial⟩) (⟨.inl rfl, .inl rfl, .inr ⟨rfl, rfl, (by simp), fun i hi => .inl rfl⟩, .inl rfl, .inr (Zdr ((by first | first | omega | (simp only [List.length_replicate, List.length_set]; omega) | (simp only [List.length_set]; first | omega | (simp only [List.length_replicate, List.length_set]; omega)))) (by first | rfl | (simp; done) | (simp; omega)) (fun i _ => rfl)), trivial⟩) ?_
     refine x_r [] [2, 3, 4, 8, 9, 57, 58, 59] [3, 4, 31, 8661] [I node, .ref 3 0, .ref 4 0, .arr 31, I nd, Zag false l.Edges, I (l.Edges.length : Int), I 0] [some (Zac l), some (.box [Zaa false lx.Entries]), some (Zao 8661 ((tb.set nd.toNat ([] : List Reading)).set nd.toNat out_2)), some (Zal ((tb.set nd.toNat ([] : List Reading)).set nd.toNat out_2))] [] trivial ?_
     refine Zad ?_
     refine Zbp ?_
     refine Zel (X := Int × (List (List Reading))) (fun x => mkS [(2, I node), (3, .ref 3 0), (4, .ref 4 0), (8, .arr 31), (9, I nd), (57, Zag false l.Edges), (58, I (l.Edges.length : Int)), (59, I x.1)] [(3, Zac l), (4, .box [Zaa false lx.Entries]), (31, Zao 8661 x.2), (8661, Zal x.2)]) (fun x => (0 ≤ x.1 ∧ x.1 ≤ (l.Edges.length : Int)) ∧ (x.2 = pfE l lx nd.toNat x.1.toNat) ∧ True) (fun x => ((l.Edges.length : Int) - x.1).toNat) (0, ((tb.set nd.toNat ([] : List Reading)).set nd.toNat out_2)) rfl (show (0 ≤ (0 : Int) ∧ (0 : Int) ≤ (l.Edges.length : Int)) ∧ (((tb.set nd.toNat ([] : List Reading)).set nd.toNat out_2) = pfE l lx nd.toNat (0 : Int).toNat) ∧ True from ⟨(by omega), (by (rw [List.set_set, hout, htb]; rfl)), trivial⟩) (fun x hI => ?_)
     obtain ⟨t59, tb2⟩ := x
     obtain ⟨hi0, htb2, _⟩ : (0 ≤ t59 ∧ t59 ≤ (l.Edges.length : Int)) ∧ (tb2 = pfE l lx nd.toNat t59.toNat) ∧ True := hI
     show XW _ _ _ _ (mkS [(2, I node), (3, .ref 3 0), (4, .ref 4 0), (8, .arr 31), (9, I nd), (57, Zag false l.Edges), (58, I (l.Edges.length : Int)), (59, I t59)] [(3, Zac l), (4, .box [Zaa false lx.Entries]), (31, Zao 8661 tb2), (8661, Zal tb2)]) _ _
     refine Zar ?_
     by_cases h8 : t59 < (l.Edges.length : Int)
     ·have hi : t59.toNat < l.Edges.length := by omega
      have hed := hl.2.2.1 _ hi
      have he1 := hed.1
      have he2 := hed.2.1
      have he3 := Zeh hed.2.2
      have hii : (t59 + 1).toNat = t59.toNat + 1 := by omega
      have hok2 := Yay hl hx hn (i := t59.toNat) (by omega)
      rw [← htb2] at hok2
      have htl2 := hok2.1.1
      have hr660 := hok2.2
      refine x_r [(0, .dec true)] [2, 3, 4, 8, 9, 57, 58, 59, 60] [3, 4, 31, 8661] [I node, .ref 3 0, .ref 4 0, .arr 31, I nd, Zag false l.Edges, I (l.Edges.length : Int), I t59, Bv true] [some (Zac l), some (.box [Zaa false lx.Entries]), some (Zao 8661 tb2), some (Zal tb2)] [t59 < (l.Edges.length : Int)] ⟨h8, trivial⟩ ?_
      refine Zad ?_
      refine Zar ?_
      refine Zcb rfl ?_
      refine Zbk ?_
      refine Zad ?_
      refine Zar ?_
      refine Zbp ?_
      refine xR [(2, .new 11)] [2, 3, 4, 8, 9, 11, 57, 58, 59] [3, 4, 11, 31, 8661] [I node, .ref 3 0, .ref 4 0, .arr 31, I nd, .ref 11 0, Zag false l.Edges, I (l.Edges.length : Int), I t59] [some (Zac l), some (.box [Zaa false lx.Entries]), some (Zbj (at_ l.Edges t59.toNat)), some (Zao 8661 tb2), some (Zal tb2)] [(0 : Int) ≤ t59 ∧ t59 < (l.Edges.length : Int)] ⟨⟨(by first | omega | (simp only [List.length_replicate, List.length_set]; omega)), (by first | omega | (simp only [List.length_replicate, List.length_set]; omega))⟩, trivial⟩ ?_
      refine Zar ?_
      refine Zar ?_
      by_cases h9 : ((at_ l.Edges t59.toNat).From) = nd
      ·have hff : (at_ l.Edges t59.toNat).From = ((nd.toNat : Nat) : Int) := by omega
       have hfn : (at_ l.Edges t59.toNat).From.toNat = nd.toNat := by omega
       refine x_r [(3, .dec false)] [2, 3, 4, 8, 9, 11, 57, 58, 59, 66] [3, 4, 11, 31, 8661] [I node, .ref 3 0, .ref 4 0, .arr 31, I nd, .ref 11 0, Zag false l.Edges, I (l.Edges.length : Int), I t59, Bv false] [some (Zac l), some (.box [Zaa false lx.Entries]), some (Zbj (at_ l.Edges t59.toNat)), some (Zao 8661 tb2), some (Zal tb2)] [¬ (((at_ l.Edges t59.toNat).From) ≠ nd)] ⟨(fun hq => hq h9), trivial⟩ ?_
       refine Zad ?_
       refine Zav rfl ?_
       refine Zbk ?_
       refine Zad ?_
       refine xR [] [2, 3, 4, 8, 9, 11, 57, 58, 59, 70, 71, 72] [3, 4, 11, 31, 8661] [I node, .ref 3 0, .ref 4 0, .arr 31, I nd, .ref 11 0, Zag false l.Edges, I (l.Edges.length : Int), I t59, .row 8661 nd.toNat, I (((at_ tb2 nd.toNat).length) : Int), I 0] [some (Zac l), some (.box [Zaa false lx.Entries]), some (Zbj (at_ l.Edges t59.toNat)), some (Zao 8661 tb2), some (Zal tb2)] [(0 : Int) ≤ nd ∧ nd < (tb2.length : Int), nd.toNat < tb2.length, nd.toNat < tb2.length] ⟨⟨(by first | omega | (simp only [List.length_replicate, List.length_set]; omega)), (by first | omega | (simp only [List.length_replicate, List.length_set]; omega))⟩, (by first | omega | (simp only [List.length_replicate, List.length_set]; omega)), (by first | omega | (simp only [List.length_replicate, List.length_set]; omega)), trivial⟩ ?_
       refine Zbp ?_
       refine Zel (X := Int × (List (List Reading))) (fun x => mkS [(2, I node), (3, .ref 3 0), (4, .ref 4 0), (8, .arr 31), (9, I nd), (11, .ref 11 0), (57, Zag false l.Edges), (58, I (l.Edges.length : Int)), (59, I t59), (70, .row 8661 nd.toNat), (71, I (((at_ tb2 nd.toNat).length) : Int)), (72, I x.1)] [(3, Zac l), (4, .box [Zaa false lx.Entries]), (11, Zbj (at_ l.Edges t59.toNat)), (31, Zao 8661 x.2), (8661, Zal x.2)]) (fun x => (0 ≤ x.1 ∧ x.1 ≤ ((at_ tb2 nd.toNat).length : Int)) ∧ (x.2 = exT (Zfr lx) tb2 (at_ l.Edges t59.toNat) nd.toNat x.1.toNat) ∧ True) (fun x => (((at_ tb2 nd.toNat).length : Int) - x.1).toNat) (0, tb2) rfl (show (0 ≤ (0 : Int) ∧ (0 : Int) ≤ ((at_ tb2 nd.toNat).length : Int)) ∧ (tb2 = exT (Zfr lx) tb2 (at_ l.Edges t59.toNat) nd.toNat (0 : Int).toNat) ∧ True from ⟨(by omega), (by exact (exT_0 _ _ _ _).symm), trivial⟩) (fun x hI => ?_)
       obtain ⟨t72, tb3⟩ := x
       obtain ⟨hj0, htb3, _⟩ : (0 ≤ t72 ∧ t72 ≤ ((at_ tb2 nd.toNat).length : Int)) ∧ (tb3 = exT (Zfr lx) tb2 (at_ l.Edges t59.toNat) nd.toNat t72.toNat) ∧ True := hI
       show XW _ _ _ _ (mkS [(2, I node), (3, .ref 3 0), (4, .ref 4 0), (8, .arr 31), (9, I nd), (11, .ref 11 0), (57, Zag false l.Edges), (58, I (l.Edges.length : Int)), (59, I t59), (70, .row 8661 nd.toNat), (71, I (((at_ tb2 nd.toNat).length) : Int)), (72, I t72)] [(3, Zac l), (4, .box [Zaa false lx.Entries]), (11, Zbj (at_ l.Edges t59.toNat)), (31, Zao 8661 tb3), (8661, Zal tb3)]) _ _
       refine Zar ?_
       by_cases h10 : t72 < (((at_ tb2 nd.toNat).length) : Int)
       ·have hok3 := Yaz (p := Zfr lx) hok2.1 hed hff t72.toNat
        rw [← htb3] at hok3
        have htl3 := hok3.1
        have hsr := Yba (p := Zfr lx) (T := tb2) hff he1.2.1 t72.toNat
        rw [← htb3] at hsr
        have hjl : t72.toNat < (at_ tb2 nd.toNat).length := by omega
        have hjl3 : t72.toNat < (at_ tb3 nd.toNat).length := by rw [hsr]; exact hjl
        have hrd := (hok3.2 nd.toNat hn).2 _ (Zcx hjl3)
        have hrd1 := hrd.1
        have hrd2 := hrd.2
        have hto := (hok3.2 (at_ l.Edges t59.toNat).To.toNat (by omega)).1
        have hjj : (t72 + 1).toNat = t72.toNat + 1 := by omega
        refine x_r [(0, .dec true)] [2, 3, 4, 8, 9, 11, 57, 58, 59, 70, 71, 72, 73] [3, 4, 11, 31, 8661] [I node, .ref 3 0, .ref 4 0, .arr 31, I nd, .ref 11 0, Zag false l.Edges, I (l.Edges.length : Int), I t59, .row 8661 nd.toNat, I (((at_ tb2 nd.toNat).length) : Int), I t72, Bv true] [some (Zac l), some (.box [Zaa false lx.Entries]), some (Zbj (at_ l.Edges t59.toNat)), some (Zao 8661 tb3), some (Zal tb3)] [t72 < (((at_ tb2 nd.toNat).length) : Int)] ⟨h10, trivial⟩ ?_
        refine Zad ?_
        refine Zar ?_
        refine Zcb rfl ?_
        refine Zbk ?_
        refine Zad ?_
        refine Zar ?_
        refine Zbp ?_
        refine xR [(2, .new 13)] [2, 3, 4, 8, 9, 11, 13, 57, 58, 59, 70, 71, 72] [3, 4, 11, 13, 31, 8661] [I node, .ref 3 0, .ref 4 0, .arr 31, I nd, .ref 11 0, .ref 13 0, Zag false l.Edges, I (l.Edges.length : Int), I t59, .row 8661 nd.toNat, I (((at_ tb2 nd.toNat).length) : Int), I t72] [some (Zac l), some (.box [Zaa false lx.Entries]), some (Zbj (at_ l.Edges t59.toNat)), some (Zdk (at_ (at_ tb3 nd.toNat) t72.toNat)), some (Zao 8661 tb3), some (Zal tb3)] [nd.toNat < tb3.length ∧ (0 : Int) ≤ t72 ∧ t72 < (((at_ tb3 nd.toNat).length) : Int), nd.toNat < tb3.length ∧ t72.toNat < (at_ tb3 nd.toNat).length] ⟨⟨(by first | omega | (simp only [List.length_replicate, List.length_set]; omega)), (by first | omega | (simp only [List.length_replicate, List.length_set]; omega)), (by first | omega | (simp only [List.length_replicate, List.length_set]; omega))⟩, ⟨(by first | omega | (simp only [List.length_replicate, List.length_set]; omega)), (by first | omega | (simp only [List.length_replicate, List.length_set]; omega))⟩, trivial⟩ ?_
        refine xR [] [2, 3, 4, 8, 9, 11, 13, 14, 57, 58, 59, 70, 71, 72] [3, 4, 11, 13, 31, 8661] [I node, .ref 3 0, .ref 4 0, .arr 31, I nd, .ref 11 0, .ref 13 0, Sv (((at_ (at_ tb3 nd.toNat) t72.toNat).Text) ++ ((at_ l.Edges t59.toNat).Label)), Zag false l.Edges, I (l.Edges.length : Int), I t59, .row 8661 nd.toNat, I (((at_ tb2 nd.toNat).length) : Int), I t72] [some (Zac l), some (.box [Zaa false lx.Entries]), some (Zbj (at_ l.Edges t59.toNat)), some (Zdk (at_ (at_ tb3 nd.toNat) t72.toNat)), some (Zao 8661 tb3), some (Zal tb3)] [((at_ (at_ tb3 nd.toNat) t72.toNat).Text).size + ((at_ l.Edges t59.toNat).Label).size ≤ 9223372036854775807] ⟨(by first | omega | (simp only [List.length_replicate, List.length_set]; omega)), trivial⟩ ?_
        refine Zar ?_
        rcases Bool.eq_false_or_eq_true (Zfr lx (((at_ (at_ tb3 nd.toNat) t72.toNat).Text) ++ ((at_ l.Edges t59.toNat).Label))) with h11 | h11
        ·have hbg := h11
         rw [hsr] at hbg
         refine x_r [(2, .call [(true, .any), (true, .any)] true (Bv true))] [2, 3, 4, 8, 9, 11, 13, 14, 57, 58, 59, 70, 71, 72, 83] [3, 4, 11, 13, 31, 8661] [I node, .ref 3 0, .ref 4 0, .arr 31, I nd, .ref 11 0, .ref 13 0, Sv (((at_ (at_ tb3 nd.toNat) t72.toNat).Text) ++ ((at_ l.Edges t59.toNat).Label)), Zag false l.Edges, I (l.Edges.length : Int), I t59, .row 8661 nd.toNat, I (((at_ tb2 nd.toNat).length) : Int), I t72, Bv true] [some (Zac l), some (.box [Zaa false lx.Entries]), some (Zbj (at_ l.Edges t59.toNat)), some (Zdk (at_ (at_ tb3 nd.toNat) t72.toNat)), some (Zao 8661 tb3), some (Zal tb3)] [Con Tryz.prog 53 [.agg [Zaa false lx.Entries], Sv (((at_ (at_ tb3 nd.toNat) t72.toNat).Text) ++ ((at_ l.Edges t59.toNat).Label))] true (Bv true) ∧ True] ⟨⟨(Zbv h11 (Zgw lx (((at_ (at_ tb3 nd.toNat) t72.toNat).Text) ++ ((at_ l.Edges t59.toNat).Label)) hx (by first | (rw [ByteArray.size_append]; omega) | decide))), trivial⟩, trivial⟩ ?_
         refine Zad ?_
         refine Zcb rfl ?_
         refine Zof 31 8504 8661 (((at_ l.Edges t59.toNat).To).toNat) rfl rfl ((by first | omega | (simp only [List.length_replicate, List.length_set]; omega))) (fun q _ => rfl) (by kernel_rfl) ⟨trivial, trivial, trivial, trivial, trivial, trivial, trivial, trivial, trivial, trivial, trivial, (show _ ≠ _ from by omega), trivial, trivial, trivial, trivial⟩ ?_
         refine Zek [] (T := [(2, I node), (3, .ref 3 0), (4, .ref 4 0), (8, .arr 31), (9, I nd), (11, .ref 11 0), (13, .ref 13 0), (14, Sv (((at_ (at_ tb3 nd.toNat) t72.toNat).Text) ++ ((at_ l.Edges t59.toNat).Label))), (57, Zag false l.Edges), (58, I (l.Edges.length : Int)), (59, I t59), (70, .row 8661 nd.toNat), (71, I (((at_ tb2 nd.toNat).length) : Int)), (72, I t72), (83, Bv true)]) (O := [(3, Zac l), (4, .box [Zaa false lx.Entries]), (11, Zbj (at_ l.Edges t59.toNat)), (13, Zdk (at_ (at_ tb3 nd.toNat) t72.toNat)), (31, .oar [8504, 8661] 1 ((tb3.set (((at_ l.Edges t59.toNat).To).toNat) ([] : List Reading)).length) (fun q => bif Nat.beq q (((at_ l.Edges t59.toNat).To).toNat) then [.arr 8504] else (Zck 8661 (tb3.set (((at_ l.Edges t59.toNat).To).toNat) ([] : List Reading))) q)), (8504, Zai (at_ tb3 (((at_ l.Edges t59.toNat).To).toNat))), (8661, Zal (tb3.set (((at_ l.Edges t59.toNat).To).toNat) ([] : List Reading)))]) rfl (⟨.inl rfl, .inl rfl, .inl rfl, .inl rfl, .inl rfl, .inl rfl, .inl rfl, .inl rfl, .inl rfl, .inl rfl, .inl rfl, .inl rfl, .inl rfl, .inl rfl, .inl rfl, trivial⟩) (⟨.inl rfl, .inl rfl, .inl rfl, .inl rfl, .inr ⟨rfl, rfl, (by first | rfl | (simp; done)), fun i hi => .inl (by dsimp only; cases Nat.beq i (((at_ l.Edges t59.toNat).To).toNat) <;> rfl)⟩, .inl rfl, .inr (Zdr ((by first | omega | (simp only [List.length_replicate, List.length_set]; omega))) (by first | rfl | (simp; done) | (simp; omega)) (fun i_ h_ => absurd h_ (Nat.not_lt_zero _))), trivial⟩) ?_
         refine x_r [(7, .as (.arr 8504)), (15, .new 99), (16, .new 100)] [2, 3, 4, 8, 9, 11, 57, 58, 59, 70, 71, 72] [3, 4, 11, 31, 100, 8661] [I node, .ref 3 0, .ref 4 0, .arr 31, I nd, .ref 11 0, Zag false l.Edges, I (l.Edges.length : Int), I t59, .row 8661 nd.toNat, I (((at_ tb2 nd.toNat).length) : Int), I t72] [some (Zac l), some (.box [Zaa false lx.Entries]), some (Zbj (at_ l.Edges t59.toNat)), some (.oar [8504, 8661, 100] 1 ((tb3.set (((at_ l.Edges t59.toNat).To).toNat) ([] : List Reading)).length) (fun q => bif Nat.beq q (((at_ l.Edges t59.toNat).To).toNat) then spl ((fun q => bif Nat.beq q (((at_ l.Edges t59.toNat).To).toNat) then [.arr 8504] else (Zck 8661 (tb3.set (((at_ l.Edges t59.toNat).To).toNat) ([] : List Reading))) q) (((at_ l.Edges t59.toNat).To).toNat)) 0 [.arr 100] else (fun q => bif Nat.beq q (((at_ l.Edges t59.toNat).To).toNat) then [.arr 8504] else (Zck 8661 (tb3.set (((at_ l.Edges t59.toNat).To).toNat) ([] : List Reading))) q) q)), some (.arr 2 (((at_ tb3 (((at_ l.Edges t59.toNat).To).toNat)).length) + 1) (Zfm ((at_ tb3 (((at_ l.Edges t59.toNat).To).toNat)).length) (Zeg (at_ tb3 (((at_ l.Edges t59.toNat).To).toNat))) (Zgd [Sv (((at_ (at_ tb3 nd.toNat) t72.toNat).Text) ++ ((at_ l.Edges t59.toNat).Label)), I (((at_ (at_ tb3 nd.toNat) t72.toNat).Cost) + ((at_ l.Edges t59.toNat).Cost))] 2))), some (Zal (tb3.set (((at_ l.Edges t59.toNat).To).toNat) ([] : List Reading)))] [(0 : Int) ≤ ((at_ l.Edges t59.toNat).To) ∧ ((at_ l.Edges t59.toNat).To) < (((tb3.set (((at_ l.Edges t59.toNat).To).toNat) ([] : List Reading)).length) : Int), ((at_ l.Edges t59.toNat).To).toNat < (tb3.set (((at_ l.Edges t59.toNat).To).toNat) ([] : List Reading)).length ∧ List.drop 0 ((fun q => bif Nat.beq q (((at_ l.Edges t59.toNat).To).toNat) then [.arr 8504] else (Zck 8661 (tb3.set (((at_ l.Edges t59.toNat).To).toNat) ([] : List Reading))) q) (((at_ l.Edges t59.toNat).To).toNat)) = [.arr 8504], inR .i64 (((at_ (at_ tb3 nd.toNat) t72.toNat).Cost) + ((at_ l.Edges t59.toNat).Cost)), (((at_ tb3 (((at_ l.Edges t59.toNat).To).toNat)).length) + 1) * 24 ≤ 140737488355328, (0 : Int) ≤ ((at_ l.Edges t59.toNat).To) ∧ ((at_ l.Edges t59.toNat).To) < (((tb3.set (((at_ l.Edges t59.toNat).To).toNat) ([] : List Reading)).length) : Int), ((at_ l.Edges t59.toNat).To).toNat < (tb3.set (((at_ l.Edges t59.toNat).To).toNat) ([] : List Reading)).length] ⟨⟨(by first | first | omega | (simp only [List.length_replicate, List.length_set]; omega) | (simp only [List.length_set]; first | omega | (simp only [List.length_replicate, List.length_set]; omega))), (by first | first | omega | (simp only [List.length_replicate, List.length_set]; omega) | (simp only [List.length_set]; first | omega | (simp only [List.length_replicate, List.length_set]; omega)))⟩, ⟨(by first | first | omega | (simp only [List.length_replicate, List.length_set]; omega) | (simp only [List.length_set]; first | omega | (simp only [List.length_replicate, List.length_set]; omega))), (by simp only [Nat.beq_refl, cond_true]; rfl)⟩, (Zah (by first | omega | (simp only [List.length_replicate, List.length_set]; omega)) (by first | omega | (simp only [List.length_replicate, List.length_set]; omega))), (by first | omega | (simp only [List.length_replicate, List.length_set]; omega)), ⟨(by first | first | omega | (simp only [List.length_replicate, List.length_set]; omega) | (simp only [List.length_set]; first | omega | (simp only [List.length_replicate, List.length_set]; omega))), (by first | first | omega | (simp only [List.length_replicate, List.length_set]; omega) | (simp only [List.length_set]; first | omega | (simp only [List.length_replicate, List.length_set]; omega)))⟩, (by first | first | omega | (simp only [List.length_replicate, List.length_set]; omega) | (simp only [List.length_set]; first | omega | (simp only [List.length_replicate, List.length_set]; omega))), trivial⟩ ?_
         refine Zbw 5 ?_
         refine Zad ?_
         refine Zso 31 100 8661 (((at_ l.Edges t59.toNat).To).toNat) rfl rfl rfl ((by first | first | omega | (simp only [List.length_replicate, List.length_set]; omega) | (simp only [List.length_set]; first | omega | (simp only [List.length_replicate, List.length_set]; omega)))) (by first | exact Nat.le_refl _ | omega) (fun q _ => ⟨fun e => by subst e; simp only [Nat.beq_refl, cond_true]; rfl, fun e => by simp only [Zoh e, cond_false]; rfl⟩) (by kernel_rfl) ⟨trivial, trivial, trivial, trivial, trivial, trivial, trivial, trivial, trivial, (show _ ≠ _ from by omega), trivial, trivial, trivial⟩ ?_
         refine Zek [] (T := [(2, I node), (3, .ref 3 0), (4, .ref 4 0), (8, .arr 31), (9, I nd), (11, .ref 11 0), (57, Zag false l.Edges), (58, I (l.Edges.length : Int)), (59, I t59), (70, .row 8661 nd.toNat), (71, I (((at_ tb2 nd.toNat).length) : Int)), (72, I t72)]) (O := [(3, Zac l), (4, .box [Zaa false lx.Entries]), (11, Zbj (at_ l.Edges t59.toNat)), (31, Zao 8661 ((tb3.set (((at_ l.Edges t59.toNat).To).toNat) ([] : List Reading)).set (((at_ l.Edges t59.toNat).To).toNat) ((at_ tb3 (((at_ l.Edges t59.toNat).To).toNat)) ++ [(Reading.mk (((at_ (at_ tb3 nd.toNat) t72.toNat).Text) ++ ((at_ l.Edges t59.toNat).Label)) (((at_ (at_ tb3 nd.toNat) t72.toNat).Cost) + ((at_ l.Edges t59.toNat).Cost)))]))), (8661, Zal ((tb3.set (((at_ l.Edges t59.toNat).To).toNat) ([] : List Reading)).set (((at_ l.Edges t59.toNat).To).toNat) ((at_ tb3 (((at_ l.Edges t59.toNat).To).toNat)) ++ [(Reading.mk (((at_ (at_ tb3 nd.toNat) t72.toNat).Text) ++ ((at_ l.Edges t59.toNat).Label)) (((at_ (at_ tb3 nd.toNat) t72.toNat).Cost) + ((at_ l.Edges t59.toNat).Cost)))])))]) rfl (⟨.inl rfl, .inl rfl, .inl rfl, .inl rfl, .inl rfl, .inl rfl, .inl rfl, .inl rfl, .inl rfl, .inl rfl, .inl rfl, .inl rfl, trivial⟩) (⟨.inl rfl, .inl rfl, .inl rfl, .inr ⟨rfl, rfl, (by simp), fun i hi => .inl rfl⟩, .inr (Zdr ((by first | first | omega | (simp only [List.length_replicate, List.length_set]; omega) | (simp only [List.length_set]; first | omega | (simp only [List.length_replicate, List.length_set]; omega)))) (by first | rfl | (simp; done) | (simp; omega)) (fun i_ h_ => (show ∀ i_ : Nat, i_ < (((at_ tb3 (((at_ l.Edges t59.toNat).To).toNat)) ++ [(Reading.mk (((at_ (at_ tb3 nd.toNat) t72.toNat).Text) ++ ((at_ l.Edges t59.toNat).Label)) (((at_ (at_ tb3 nd.toNat) t72.toNat).Cost) + ((at_ l.Edges t59.toNat).Cost)))]) : List Reading).length → (Zfm ((at_ tb3 (((at_ l.Edges t59.toNat).To).toNat)).length) (Zeg (at_ tb3 (((at_ l.Edges t59.toNat).To).toNat))) (Zgd [Sv (((at_ (at_ tb3 nd.toNat) t72.toNat).Text) ++ ((at_ l.Edges t59.toNat).Label)), I (((at_ (at_ tb3 nd.toNat) t72.toNat).Cost) + ((at_ l.Edges t59.toNat).Cost))] 2)) i_ = (Zeg ((at_ tb3 (((at_ l.Edges t59.toNat).To).toNat)) ++ [(Reading.mk (((at_ (at_ tb3 nd.toNat) t72.toNat).Text) ++ ((at_ l.Edges t59.toNat).Label)) (((at_ (at_ tb3 nd.toNat) t72.toNat).Cost) + ((at_ l.Edges t59.toNat).Cost)))])) i_ from fun i_ hi_ => (Zhw (enc := Zhz) (xs := (at_ tb3 (((at_ l.Edges t59.toNat).To).toNat))) rfl i_ hi_)) i_ (by first | exact h_ | (simpa using h_)))), trivial⟩) ?_
         refine x_r [] [2, 3, 4, 8, 9, 11, 57, 58, 59, 70, 71, 72] [3, 4, 11, 31, 8661] [I node, .ref 3 0, .ref 4 0, .arr 31, I nd, .ref 11 0, Zag false l.Edges, I (l.Edges.length : Int), I t59, .row 8661 nd.toNat, I (((at_ tb2 nd.toNat).length) : Int), I (t72 + 1)] [some (Zac l), some (.box [Zaa false lx.Entries]), some (Zbj (at_ l.Edges t59.toNat)), some (Zao 8661 ((tb3.set (((at_ l.Edges t59.toNat).To).toNat) ([] : List Reading)).set (((at_ l.Edges t59.toNat).To).toNat) ((at_ tb3 (((at_ l.Edges t59.toNat).To).toNat)) ++ [(Reading.mk (((at_ (at_ tb3 nd.toNat) t72.toNat).Text) ++ ((at_ l.Edges t59.toNat).Label)) (((at_ (at_ tb3 nd.toNat) t72.toNat).Cost) + ((at_ l.Edges t59.toNat).Cost)))]))), some (Zal ((tb3.set (((at_ l.Edges t59.toNat).To).toNat) ([] : List Reading)).set (((at_ l.Edges t59.toNat).To).toNat) ((at_ tb3 (((at_ l.Edges t59.toNat).To).toNat)) ++ [(Reading.mk (((at_ (at_ tb3 nd.toNat) t72.toNat).Text) ++ ((at_ l.Edges t59.toNat).Label)) (((at_ (at_ tb3 nd.toNat) t72.toNat).Cost) + ((at_ l.Edges t59.toNat).Cost)))])))] [inR .i64 (t72 + 1)] ⟨(Zah (by first | omega | (simp only [List.length_replicate, List.length_set]; omega)) (by first | omega | (simp only [List.length_replicate, List.length_set]; omega))), trivial⟩ ?_
         exact Zbm ((t72 + 1), ((tb3.set (((at_ l.Edges t59.toNat).To).toNat) ([] : List Reading)).set (((at_ l.Edges t59.toNat).To).toNat) ((at_ tb3 (((at_ l.Edges t59.toNat).To).toNat)) ++ [(Reading.mk (((at_ (at_ tb3 nd.toNat) t72.toNat).Text) ++ ((at_ l.Edges t59.toNat).Label)) (((at_ (at_ tb3 nd.toNat) t72.toNat).Cost) + ((at_ l.Edges t59.toNat).Cost)))]))) rfl (show (0 ≤ (t72 + 1) ∧ (t72 + 1) ≤ ((at_ tb2 nd.toNat).length : Int)) ∧ (((tb3.set (((at_ l.Edges t59.toNat).To).toNat) ([] : List Reading)).set (((at_ l.Edges t59.toNat).To).toNat) ((at_ tb3 (((at_ l.Edges t59.toNat).To).toNat)) ++ [(Reading.mk (((at_ (at_ tb3 nd.toNat) t72.toNat).Text) ++ ((at_ l.Edges t59.toNat).Label)) (((at_ (at_ tb3 nd.toNat) t72.toNat).Cost) + ((at_ l.Edges t59.toNat).Cost)))])) = exT (Zfr lx) tb2 (at_ l.Edges t59.toNat) nd.toNat (t72 + 1).toNat) ∧ True from ⟨(by omega), (by first | (rw [hjj, ← exT_y (p := Zfr lx) (by rw [htl2]; omega) hjl hbg, ← htb3, ← hsr]; (try rw [List.set_set]); rfl) | (rw [hjj, ← exT_n hjl (by simpa using hbg)]; exact htb3)), trivial⟩) (by first | (show ((((at_ tb2 nd.toNat).length : Int) - (t72 + 1)).toNat : Nat) < (((at_ tb2 nd.toNat).length : Int) - t72).toNat; omega) | (dsimp only; omega))
        have hbg := h11
        rw [hsr] at hbg
        refine x_r [(2, .call [(true, .any), (true, .any)] true (Bv false))] [2, 3, 4, 8, 9, 11, 13, 14, 57, 58, 59, 70, 71, 72, 83] [3, 4, 11, 13, 31, 8661] [I node, .ref 3 0, .ref 4 0, .arr 31, I nd, .ref 11 0, .ref 13 0, Sv (((at_ (at_ tb3 nd.toNat) t72.toNat).Text) ++ ((at_ l.Edges t59.toNat).Label)), Zag false l.Edges, I (l.Edges.length : Int), I t59, .row 8661 nd.toNat, I (((at_ tb2 nd.toNat).length) : Int), I t72, Bv false] [some (Zac l), some (.box [Zaa false lx.Entries]), some (Zbj (at_ l.Edges t59.toNat)), some (Zdk (at_ (at_ tb3 nd.toNat) t72.toNat)), some (Zao 8661 tb3), some (Zal tb3)] [Con Tryz.prog 53 [.agg [Zaa false lx.Entries], Sv (((at_ (at_ tb3 nd.toNat) t72.toNat).Text) ++ ((at_ l.Edges t59.toNat).Label))] true (Bv false) ∧ True] ⟨⟨(Zbv h11 (Zgw lx (((at_ (at_ tb3 nd.toNat) t72.toNat).Text) ++ ((at_ l.Edges t59.toNat).Label)) hx (by first | (rw [ByteArray.size_append]; omega) | decide))), trivial⟩, trivial⟩ ?_
        refine Zad ?_
        refine Zav rfl ?_
        refine Zbk ?_
        refine Zbw 5 ?_
        refine Zad ?_
        refine x_r [] [2, 3, 4, 8, 9, 11, 57, 58, 59, 70, 71, 72] [3, 4, 11, 31, 8661] [I node, .ref 3 0, .ref 4 0, .arr 31, I nd, .ref 11 0, Zag false l.Edges, I (l.Edges.length : Int), I t59, .row 8661 nd.toNat, I (((at_ tb2 nd.toNat).length) : Int), I (t72 + 1)] [some (Zac l), some (.box [Zaa false lx.Entries]), some (Zbj (at_ l.Edges t59.toNat)), some (Zao 8661 tb3), some (Zal tb3)] [inR .i64 (t72 + 1)] ⟨(Zah (by first | omega | (simp only [List.length_replicate, List.length_set]; omega)) (by first | omega | (simp only [List.length_replicate, List.length_set]; omega))), trivial⟩ ?_
        exact Zbm ((t72 + 1), tb3) rfl (show (0 ≤ (t72 + 1) ∧ (t72 + 1) ≤ ((at_ tb2 nd.toNat).length : Int)) ∧ (tb3 = exT (Zfr lx) tb2 (at_ l.Edges t59.toNat) nd.toNat (t72 + 1).toNat) ∧ True from ⟨(by omega), (by first | (rw [hjj, ← exT_y (p := Zfr lx) (by rw [htl2]; omega) hjl hbg, ← htb3, ← hsr]; (try rw [List.set_set]); rfl) | (rw [hjj, ← exT_n hjl (by simpa using hbg)]; exact htb3)), trivial⟩) (by first | (show ((((at_ tb2 nd.toNat).length : Int) - (t72 + 1)).toNat : Nat) < (((at_ tb2 nd.toNat).length : Int) - t72).toNat; omega) | (dsimp only; omega))
       have hje : t72.toNat = (at_ tb2 nd.toNat).length := by omega
       rw [hje] at htb3
       refine x_r [(0, .dec false)] [2, 3, 4, 8, 9, 11, 57, 58, 59, 70, 71, 72, 73] [3, 4, 11, 31, 8661] [I node, .ref 3 0, .ref 4 0, .arr 31, I nd, .ref 11 0, Zag false l.Edges, I (l.Edges.length : Int), I t59, .row 8661 nd.toNat, I (((at_ tb2 nd.toNat).length) : Int), I t72, Bv false] [some (Zac l), some (.box [Zaa false lx.Entries]), some (Zbj (at_ l.Edges t59.toNat)), some (Zao 8661 tb3), some (Zal tb3)] [¬ (t72 < (((at_ tb2 nd.toNat).length) : Int))] ⟨h10, trivial⟩ ?_
       refine Zad ?_
       refine Zar ?_
       refine Zav rfl ?_
       refine Zdo ?_
       refine Zaw ?_
       refine Zbd ?_
       refine Zax ?_
       refine Zbw 3 ?_
       refine Zad ?_
       refine x_r [] [2, 3, 4, 8, 9, 57, 58, 59] [3, 4, 31, 8661] [I node, .ref 3 0, .ref 4 0, .arr 31, I nd, Zag false l.Edges, I (l.Edges.length : Int), I (t59 + 1)] [some (Zac l), some (.box [Zaa false lx.Entries]), some (Zao 8661 tb3), some (Zal tb3)] [inR .i64 (t59 + 1)] ⟨(Zah (by first | omega | (simp only [List.length_replicate, List.length_set]; omega)) (by first | omega | (simp only [List.length_replicate, List.length_set]; omega))), trivial⟩ ?_
       exact Zbm ((t59 + 1), tb3) rfl (show (0 ≤ (t59 + 1) ∧ (t59 + 1) ≤ (l.Edges.length : Int)) ∧ (tb3 = pfE l lx nd.toNat (t59 + 1).toNat) ∧ True from ⟨(by omega), (by first | (rw [hii, ← pf_y hff, ← htb2]; exact htb3) | (rw [hii, ← pf_n hff]; exact htb2)), trivial⟩) (by first | (show (((l.Edges.length : Int) - (t59 + 1)).toNat : Nat) < ((l.Edges.length : Int) - t59).toNat; omega) | (dsimp only; omega))
      have hff : ¬ (at_ l.Edges t59.toNat).From = ((nd.toNat : Nat) : Int) := by omega
      refine x_r [(3, .dec true)] [2, 3, 4, 8, 9, 11, 57, 58, 59, 66] [3, 4, 11, 31, 8661] [I node, .ref 3 0, .ref 4 0, .arr 31, I nd, .ref 11 0, Zag false l.Edges, I (l.Edges.length : Int), I t59, Bv true] [some (Zac l), some (.box [Zaa false lx.Entries]), some (Zbj (at_ l.Edges t59.toNat)), some (Zao 8661 tb2), some (Zal tb2)] [((at_ l.Edges t59.toNat).From) ≠ nd] ⟨h9, trivial⟩ ?_
      refine Zad ?_
      refine Zcb rfl ?_
      refine Zdo ?_
      refine Zaw ?_
      refine Zax ?_
      refine Zad ?_
      refine x_r [] [2, 3, 4, 8, 9, 57, 58, 59] [3, 4, 31, 8661] [I node, .ref 3 0, .ref 4 0, .arr 31, I nd, Zag false l.Edges, I (l.Edges.length : Int), I (t59 + 1)] [some (Zac l), some (.box [Zaa false lx.Entries]), some (Zao 8661 tb2), some (Zal tb2)] [inR .i64 (t59 + 1)] ⟨(Zah (by first | omega | (simp only [List.length_replicate, List.length_set]; omega)) (by first | omega | (simp only [List.length_replicate, List.length_set]; omega))), trivial⟩ ?_
      exact Zbm ((t59 + 1), tb2) rfl (show (0 ≤ (t59 + 1) ∧ (t59 + 1) ≤ (l.Edges.length : Int)) ∧ (tb2 = pfE l lx nd.toNat (t59 + 1).toNat) ∧ True from ⟨(by omega), (by first | (rw [hii, ← pf_y hff, ← htb2]; exact htb3) | (rw [hii, ← pf_n hff]; exact htb2)), trivial⟩) (by first | (show (((l.Edges.length : Int) - (t59 + 1)).toNat : Nat) < ((l.Edges.length : Int) - t59).toNat; omega) | (dsimp only; omega))
     have hie : t59.toNat = l.Edges.length := by omega
     refine x_r [(0, .dec false)] [2, 3, 4, 8, 9, 57, 58, 59, 60] [3, 4, 31, 8661] [I node, .ref 3 0, .ref 4 0, .arr 31, I nd, Zag false l.Edges, I (l.Edges.length : Int), I t59, Bv false] [some (Zac l), some (.box [Zaa false lx.Entries]), some (Zao 8661 tb2), some (Zal tb2)] [¬ (t59 < (l.Edges.length : Int))] ⟨h8, trivial⟩ ?_
     refine Zad ?_
     refine Zar ?_
     refine Zav rfl ?_
     refine Zdo ?_
     refine Zaw ?_
     refine Zbd ?_
     refine Zax ?_
     refine Zbw 1 ?_
     refine Zad ?_
     refine x_r [] [2, 3, 4, 8, 9] [3, 4, 31, 8661] [I node, .ref 3 0, .ref 4 0, .arr 31, I (nd + 1)] [some (Zac l), some (.box [Zaa false lx.Entries]), some (Zao 8661 tb2), some (Zal tb2)] [inR .i64 (nd + 1)] ⟨(Zah (by first | omega | (simp only [List.length_replicate, List.length_set]; omega)) (by first | omega | (simp only [List.length_replicate, List.length_set]; omega))), trivial⟩ ?_
     exact Zbm ((nd + 1), tb2) rfl (show (0 ≤ (nd + 1) ∧ (nd + 1) ≤ node + 1) ∧ (tb2 = pfN l lx (nd + 1).toNat) ∧ True from ⟨(by omega), (by (rw [hnn, htb2]; exact Ybb hie)), trivial⟩) (by first | (show ((node + 1 - (nd + 1)).toNat : Nat) < (node + 1 - nd).toNat; omega) | (dsimp only; omega))
    have hne : nd.toNat = node.toNat + 1 := by omega
    have hfin : at_ tb node.toNat = pfV l lx node.toNat := by rw [htb, hne]; rfl
    have htl : tb.length = l.Nodes.toNat := by rw [htb]; exact (Zya hl hx nd.toNat (by omega)).1.1
    have hrl := Zyu hl hx (n := node.toNat) (by omega)
    rw [← hfin] at hrl
    refine x_r [(2, .dec false)] [2, 3, 4, 8, 9, 40] [3, 4, 31, 8661] [I node, .ref 3 0, .ref 4 0, .arr 31, I nd, Bv false] [some (Zac l), some (.box [Zaa false lx.Entries]), some (Zao 8661 tb), some (Zal tb)] [¬ (nd ≤ node)] ⟨h7, trivial⟩ ?_
    refine Zad ?_
    refine Zav rfl ?_
    refine Zdo ?_
    refine Zaw ?_
    refine Zbd ?_
    refine Zax ?_
    refine Zad ?_
    refine Zar ?_
    refine Zek [] (T := [(2, I node), (3, .ref 3 0), (4, .ref 4 0), (8, .arr 31), (9, I nd), (40, Bv false)]) (O := [(3, Zac l), (4, .box [Zaa false lx.Entries]), (31, .oar [8661] 1 tb.length (Zjh true tb))]) rfl (⟨.inl rfl, .inl rfl, .inl rfl, .inl rfl, .inl rfl, .inl rfl, trivial⟩) (⟨.inl rfl, .inl rfl, .inr ⟨rfl, rfl, rfl, fun i hi => .inr (Zmp true _ rfl i hi)⟩, trivial⟩) ?_
    refine x_r [] [6, 7] [] [Zas true (at_ tb node.toNat), I 0] [] [(0 : Int) ≤ node ∧ node < (tb.length : Int), node.toNat < tb.length] ⟨⟨(by first | omega | (simp only [List.length_replicate, List.length_set]; omega)), (by first | omega | (simp only [List.length_replicate, List.length_set]; omega))⟩, (by first | omega | (simp only [List.length_replicate, List.length_set]; omega)), trivial⟩ ?_
    refine Zad ?_
    refine Zdh ?_
    refine Zce ((at_ tb node.toNat), 0) (show ((at_ tb node.toNat) = pfV l lx node.toNat) ∧ (0 = 0) ∧ (True) from ⟨(by exact hfin), (by rfl), trivial⟩) (trivial) (.tup [Zas true (at_ tb node.toNat), I 0]) (by kernel_rfl) (.inl rfl) (fun _ => rfl) (fun _ => (by simp [Zan, Zaj, Zoi]))
  obtain ⟨⟨v, c⟩, ⟨hh0, hh1, _⟩, hc⟩ := hh
  exact ⟨v, c, hh0, hh1, hc⟩
theorem Znq (l : Lattice) (w : ByteArray) (hl : Zcg l) (hw : w.size ≤ 20) : ∃ (v : Int), ((v = -1 ∧ ¬ tcF l w < 1099511627776) ∨ (0 ≤ v ∧ v = tcF l w ∧ tcF l w < 1099511627776)) ∧ Con Tryz.prog 56 [.ptr false [I l.Nodes, Zag false l.Edges], Sv w] true (I v) := by
  have hn20 := hl.1
  have hc := hl.2.1
  have hNn : 0 ≤ l.Nodes * ((w.size : Int) + 1) ∧ l.Nodes * ((w.size : Int) + 1) ≤ 20 * 21 := ⟨Int.mul_nonneg (by omega) (by omega), Int.mul_le_mul (by omega) (by omega) (by omega) (by omega)⟩
  have hNn1 : 1 ≤ l.Nodes * ((w.size : Int) + 1) := by have q_ := Int.mul_le_mul (show (1 : Int) ≤ l.Nodes by omega) (show (1 : Int) ≤ ((w.size : Int) + 1) by omega) (by omega) (by omega); omega
  have hh : ∃ r : Int, (((r = -1 ∧ ¬ tcF l w < 1099511627776) ∨ (0 ≤ r ∧ r = tcF l w ∧ tcF l w < 1099511627776)) ∧ (True)) ∧ Zbi Tryz.prog 56 [.ptr false [I l.Nodes, Zag false l.Edges], Sv w] (Zaf []) true (I r) (Zaf []) := by
    refine Zdl (Φ := fun r : Int => ((r = -1 ∧ ¬ tcF l w < 1099511627776) ∨ (0 ≤ r ∧ r = tcF l w ∧ tcF l w < 1099511627776)) ∧ (True)) [] (fun r => []) (fn := Tryz.f56) (nt := 145) Tryz.func56 rfl rfl (args := [.ptr false [I l.Nodes, Zag false l.Edges], Sv w]) rfl (Zbe (.inl ⟨rfl, by simp [Zan, Zaj, Zdv]⟩) (Zbe (.inl ⟨rfl, trivial⟩) Zdj)) (res := fun r => I r) ?_
    refine xR [] [0, 1] [] [.ptr false [I l.Nodes, Zag false l.Edges], Sv w] [] [] trivial ?_
    refine xR [] [0, 1, 5] [] [.ptr false [I l.Nodes, Zag false l.Edges], Sv w, I ((w.size : Int) + 1)] [] [inR .i64 ((w.size : Int) + 1)] ⟨(Zah (by first | omega | (simp only [List.length_replicate, List.length_set]; omega)) (by first | omega | (simp only [List.length_replicate, List.length_set]; omega))), trivial⟩ ?_
    refine xR [(6, .new 23)] [0, 1, 5, 6] [23] [.ptr false [I l.Nodes, Zag false l.Edges], Sv w, I ((w.size : Int) + 1), .arr 23] [some (.arr 1 ((l.Nodes * ((w.size : Int) + 1)).toNat) (fun _ => [I 0]))] [inR .i64 (l.Nodes * ((w.size : Int) + 1)), (0 : Int) ≤ (l.Nodes * ((w.size : Int) + 1)) ∧ ((l.Nodes * ((w.size : Int) + 1)) : Int) ≤ (l.Nodes * ((w.size : Int) + 1)) ∧ (8 : Int) * (l.Nodes * ((w.size : Int) + 1)) ≤ 281474976710656 ∧ (l.Nodes * ((w.size : Int) + 1)) ≤ 9223372036854775807] ⟨(Zah (by first | omega | (simp only [List.length_replicate, List.length_set]; omega)) (by first | omega | (simp only [List.length_replicate, List.length_set]; omega))), ⟨(by first | omega | (simp only [List.length_replicate, List.length_set]; omega)), (by first | omega | (simp only [List.length_replicate, List.length_set]; omega)), (by first | omega | (simp only [List.length_replicate, List.length_set]; omega)), (by first | omega | (simp only [List.length_replicate, List.length_set]; omega))⟩, trivial⟩ ?_
    refine Zar ?_
    refine xR [] [0, 1, 5, 6, 25, 26] [23] [.ptr false [I l.Nodes, Zag false l.Edges], Sv w, I ((w.size : Int) + 1), .arr 23, I (((l.Nodes * ((w.size : Int) + 1)).toNat) : Int), I 0] [some (.arr 1 ((l.Nodes * ((w.size : Int) + 1)).toNat) (fun _ => [I 0]))] [] trivial ?_
    refine Zbp ?_
    refine Zek [] (T := [(0, .ptr false [I l.Nodes, Zag false l.Edges]), (1, Sv w), (5, I ((w.size : Int) + 1)), (6, .arr 23), (25, I (((l.Nodes * ((w.size : Int) + 1)).toNat) : Int)), (26, I 0)]) (O := [(23, tAI (List.replicate ((l.Nodes * ((w.size : Int) + 1)).toNat) (0 : Int)))]) rfl (⟨.inl rfl, .inl rfl, .inl rfl, .inl rfl, .inl rfl, .inl rfl, trivial⟩) (⟨.inr ⟨rfl, (by first | rfl | (simp; done) | (simp; omega) | omega), fun i_ hi_ => .inl (Zlx (enc := cI) rfl i_ hi_)⟩, trivial⟩) ?_
    refine Zel (X := Int × (List Int)) (fun x => mkS [(0, .ptr false [I l.Nodes, Zag false l.Edges]), (1, Sv w), (5, I ((w.size : Int) + 1)), (6, .arr 23), (25, I (((l.Nodes * ((w.size : Int) + 1)).toNat) : Int)), (26, I x.1)] [(23, tAI x.2)]) (fun x => (0 ≤ x.1 ∧ x.1 ≤ (x.2.length : Int)) ∧ (∀ j : Nat, (j : Int) < x.1 → at_ x.2 j = -1) ∧ ((x.2.length : Int) = l.Nodes * ((w.size : Int) + 1)) ∧ True) (fun x => (l.Nodes * ((w.size : Int) + 1) - x.1).toNat) (0, (List.replicate ((l.Nodes * ((w.size : Int) + 1)).toNat) (0 : Int))) rfl (show (0 ≤ (0 : Int) ∧ (0 : Int) ≤ ((List.replicate ((l.Nodes * ((w.size : Int) + 1)).toNat) (0 : Int)).length : Int)) ∧ (∀ j : Nat, (j : Int) < (0 : Int) → at_ (List.replicate ((l.Nodes * ((w.size : Int) + 1)).toNat) (0 : Int)) j = -1) ∧ (((List.replicate ((l.Nodes * ((w.size : Int) + 1)).toNat) (0 : Int)).length : Int) = l.Nodes * ((w.size : Int) + 1)) ∧ True from ⟨(by omega), (by intro j hj; omega), (by (simp; omega)), trivial⟩) (fun x hI => ?_)
    obtain ⟨t26, cs⟩ := x
    obtain ⟨hi0, hcs, hcl, _⟩ : (0 ≤ t26 ∧ t26 ≤ (cs.length : Int)) ∧ (∀ j : Nat, (j : Int) < t26 → at_ cs j = -1) ∧ ((cs.length : Int) = l.Nodes * ((w.size : Int) + 1)) ∧ True := hI
    show XW _ _ _ _ (mkS [(0, .ptr false [I l.Nodes, Zag false l.Edges]), (1, Sv w), (5, I ((w.size : Int) + 1)), (6, .arr 23), (25, I (((l.Nodes * ((w.size : Int) + 1)).toNat) : Int)), (26, I t26)] [(23, tAI cs)]) _ _
    refine Zar ?_
    by_cases h1 : t26 < (((l.Nodes * ((w.size : Int) + 1)).toNat) : Int)
    ·refine x_r [(0, .dec true)] [0, 1, 5, 6, 25, 26, 27] [23] [.ptr false [I l.Nodes, Zag false l.Edges], Sv w, I ((w.size : Int) + 1), .arr 23, I (((l.Nodes * ((w.size : Int) + 1)).toNat) : Int), I t26, Bv true] [some (tAI cs)] [t26 < (((l.Nodes * ((w.size : Int) + 1)).toNat) : Int)] ⟨h1, trivial⟩ ?_
     refine Zad ?_
     refine Zar ?_
     refine Zcb rfl ?_
     refine Zbk ?_
     refine Zad ?_
     refine Zar ?_
     refine Zbp ?_
     refine xR [] [0, 1, 5, 6, 7, 25, 26] [23] [.ptr false [I l.Nodes, Zag false l.Edges], Sv w, I ((w.size : Int) + 1), .arr 23, I t26, I (((l.Nodes * ((w.size : Int) + 1)).toNat) : Int), I t26] [some (tAI cs)] [] trivial ?_
     refine x_r [] [0, 1, 5, 6, 25, 26] [23] [.ptr false [I l.Nodes, Zag false l.Edges], Sv w, I ((w.size : Int) + 1), .arr 23, I (((l.Nodes * ((w.size : Int) + 1)).toNat) : Int), I t26] [some (.arr 1 cs.length (fun q => bif Nat.beq q t26.toNat then [I (-1)] else (fI cs) q))] [(0 : Int) ≤ t26 ∧ t26 < (cs.length : Int), t26.toNat < cs.length] ⟨⟨(by first | omega | (simp only [List.length_replicate, List.length_set]; omega)), (by first | omega | (simp only [List.length_replicate, List.length_set]; omega))⟩, (by first | omega | (simp only [List.length_replicate, List.length_set]; omega)), trivial⟩ ?_
     refine Zbw 1 ?_
     refine Zad ?_
     refine x_r [] [0, 1, 5, 6, 25, 26] [23] [.ptr false [I l.Nodes, Zag false l.Edges], Sv w, I ((w.size : Int) + 1), .arr 23, I (((l.Nodes * ((w.size : Int) + 1)).toNat) : Int), I (t26 + 1)] [some (.arr 1 cs.length (fun q => bif Nat.beq q t26.toNat then [I (-1)] else (fI cs) q))] [inR .i64 (t26 + 1)] ⟨(Zah (by first | omega | (simp only [List.length_replicate, List.length_set]; omega)) (by first | omega | (simp only [List.length_replicate, List.length_set]; omega))), trivial⟩ ?_
     refine Zgy [] (T := [(0, .ptr false [I l.Nodes, Zag false l.Edges]), (1, Sv w), (5, I ((w.size : Int) + 1)), (6, .arr 23), (25, I (((l.Nodes * ((w.size : Int) + 1)).toNat) : Int)), (26, I (t26 + 1))]) (O := [(23, tAI (cs.set t26.toNat (-1)))]) rfl (⟨.inl rfl, .inl rfl, .inl rfl, .inl rfl, .inl rfl, .inl rfl, trivial⟩) (⟨.inr ⟨rfl, (by first | rfl | (simp; done) | (simp; omega) | omega), fun i_ hi_ => .inl (Zhc (enc := cI) rfl i_ hi_)⟩, trivial⟩) (Zbm ((t26 + 1), (cs.set t26.toNat (-1))) rfl (show (0 ≤ (t26 + 1) ∧ (t26 + 1) ≤ ((cs.set t26.toNat (-1)).length : Int)) ∧ (∀ j : Nat, (j : Int) < (t26 + 1) → at_ (cs.set t26.toNat (-1)) j = -1) ∧ (((cs.set t26.toNat (-1)).length : Int) = l.Nodes * ((w.size : Int) + 1)) ∧ True from ⟨(by (simp; omega)), (by intro j hj; by_cases ej : j = t26.toNat; (subst ej; rw [Zcm (by omega)]); (rw [Zcw ej]; exact hcs j (by omega))), (by (rw [List.length_set]; exact hcl)), trivial⟩) (by first | (show ((l.Nodes * ((w.size : Int) + 1) - (t26 + 1)).toNat : Nat) < (l.Nodes * ((w.size : Int) + 1) - t26).toNat; omega) | (dsimp only; omega)))
    have hcf : ∀ j : Nat, j < cs.length → at_ cs j = -1 := fun j hj => hcs j (by omega)
    refine x_r [(0, .dec false)] [0, 1, 5, 6, 25, 26, 27] [23] [.ptr false [I l.Nodes, Zag false l.Edges], Sv w, I ((w.size : Int) + 1), .arr 23, I (((l.Nodes * ((w.size : Int) + 1)).toNat) : Int), I t26, Bv false] [some (tAI cs)] [¬ (t26 < (((l.Nodes * ((w.size : Int) + 1)).toNat) : Int))] ⟨h1, trivial⟩ ?_
    refine Zad ?_
    refine Zar ?_
    refine Zav rfl ?_
    refine Zdo ?_
    refine Zaw ?_
    refine Zbd ?_
    refine Zax ?_
    refine Zad ?_
    refine xR [] [0, 1, 5, 6] [23] [.ptr false [I l.Nodes, Zag false l.Edges], Sv w, I ((w.size : Int) + 1), .arr 23] [some (.arr 1 cs.length (fun q => bif Nat.beq q 0 then [I 0] else (fI cs) q))] [(0 : Int) ≤ 0 ∧ 0 < (cs.length : Int), 0 < cs.length] ⟨⟨(by first | omega | (simp only [List.length_replicate, List.length_set]; omega)), (by first | omega | (simp only [List.length_replicate, List.length_set]; omega))⟩, (by first | omega | (simp only [List.length_replicate, List.length_set]; omega)), trivial⟩ ?_
    refine Zar ?_
    refine Zar ?_
    refine Zek [] (T := [(0, .ptr false [I l.Nodes, Zag false l.Edges]), (1, Sv w), (5, I ((w.size : Int) + 1)), (6, .arr 23)]) (O := [(23, tAI (cs.set 0 0))]) rfl (⟨.inl rfl, .inl rfl, .inl rfl, .inl rfl, trivial⟩) (⟨.inr ⟨rfl, (by first | rfl | (simp; done) | (simp; omega) | omega), fun i_ hi_ => .inl (Zhc (enc := cI) rfl i_ hi_)⟩, trivial⟩) ?_
    refine x_r [] [0, 1, 5, 6, 8] [23] [.ptr false [I l.Nodes, Zag false l.Edges], Sv w, I ((w.size : Int) + 1), .arr 23, I 0] [some (tAI (cs.set 0 0))] [] trivial ?_
    refine Zad ?_
    refine Zbp ?_
    refine Zel (X := Int × (List Int)) (fun x => mkS [(0, .ptr false [I l.Nodes, Zag false l.Edges]), (1, Sv w), (5, I ((w.size : Int) + 1)), (6, .arr 23), (8, I x.1)] [(23, tAI x.2)]) (fun x => (0 ≤ x.1 ∧ x.1 ≤ l.Nodes) ∧ (scI l w x.1 0 0 x.2) ∧ True) (fun x => (l.Nodes - x.1).toNat) (0, (cs.set 0 0)) rfl (show (0 ≤ (0 : Int) ∧ (0 : Int) ≤ l.Nodes) ∧ (scI l w (0 : Int) 0 0 (cs.set 0 0)) ∧ True from ⟨(by omega), (by exact sc_start hl hcl hcf), trivial⟩) (fun x hI => ?_)
    obtain ⟨node, c2⟩ := x
    obtain ⟨hn0, hsc, _⟩ : (0 ≤ node ∧ node ≤ l.Nodes) ∧ (scI l w node 0 0 c2) ∧ True := hI
    show XW _ _ _ _ (mkS [(0, .ptr false [I l.Nodes, Zag false l.Edges]), (1, Sv w), (5, I ((w.size : Int) + 1)), (6, .arr 23), (8, I node)] [(23, tAI c2)]) _ _
    refine Zar ?_
    refine Zar ?_
    by_cases h2 : node < l.Nodes
    ·have hcl2 := hsc.1
     refine x_r [(5, .dec true)] [0, 1, 5, 6, 8, 40] [23] [.ptr false [I l.Nodes, Zag false l.Edges], Sv w, I ((w.size : Int) + 1), .arr 23, I node, Bv true] [some (tAI c2)] [node < l.Nodes] ⟨h2, trivial⟩ ?_
     refine Zad ?_
     refine Zcb rfl ?_
     refine Zbk ?_
     refine Zad ?_
     refine Zar ?_
     refine Zbp ?_
     refine xR [] [0, 1, 5, 6, 8, 9] [23] [.ptr false [I l.Nodes, Zag false l.Edges], Sv w, I ((w.size : Int) + 1), .arr 23, I node, I 0] [some (tAI c2)] [] trivial ?_
     refine Zbp ?_
     refine Zel (X := Int × (List Int)) (fun x => mkS [(0, .ptr false [I l.Nodes, Zag false l.Edges]), (1, Sv w), (5, I ((w.size : Int) + 1)), (6, .arr 23), (8, I node), (9, I x.1)] [(23, tAI x.2)]) (fun x => (0 ≤ x.1 ∧ x.1 ≤ (l.Edges.length : Int)) ∧ (scI l w node x.1 0 x.2) ∧ True) (fun x => ((l.Edges.length : Int) - x.1).toNat) (0, c2) rfl (show (0 ≤ (0 : Int) ∧ (0 : Int) ≤ (l.Edges.length : Int)) ∧ (scI l w node (0 : Int) 0 c2) ∧ True from ⟨(by omega), (by exact hsc), trivial⟩) (fun x hI => ?_)
     obtain ⟨i, c3⟩ := x
     obtain ⟨hi1, hsc3, _⟩ : (0 ≤ i ∧ i ≤ (l.Edges.length : Int)) ∧ (scI l w node i 0 c3) ∧ True := hI
     show XW _ _ _ _ (mkS [(0, .ptr false [I l.Nodes, Zag false l.Edges]), (1, Sv w), (5, I ((w.size : Int) + 1)), (6, .arr 23), (8, I node), (9, I i)] [(23, tAI c3)]) _ _
     have hcl3 := hsc3.1
     refine Zar ?_
     refine Zar ?_
     by_cases h3 : i < (l.Edges.length : Int)
     ·have hi : i.toNat < l.Edges.length := by omega
      have hed := hl.2.2.1 _ hi
      have he1 := hed.1
      have he2 := hed.2.1
      have he3 := Zeh hed.2.2
      refine x_r [(6, .dec true)] [0, 1, 5, 6, 8, 9, 49] [23] [.ptr false [I l.Nodes, Zag false l.Edges], Sv w, I ((w.size : Int) + 1), .arr 23, I node, I i, Bv true] [some (tAI c3)] [i < (l.Edges.length : Int)] ⟨h3, trivial⟩ ?_
      refine Zad ?_
      refine Zcb rfl ?_
      refine Zbk ?_
      refine Zad ?_
      refine Zar ?_
      refine Zbp ?_
      refine xR [] [0, 1, 5, 6, 8, 9, 10] [23] [.ptr false [I l.Nodes, Zag false l.Edges], Sv w, I ((w.size : Int) + 1), .arr 23, I node, I i, .ptr false [I ((at_ l.Edges i.toNat).From), I ((at_ l.Edges i.toNat).To), Sv ((at_ l.Edges i.toNat).Label), I ((at_ l.Edges i.toNat).Cost)]] [some (tAI c3)] [(0 : Int) ≤ i ∧ i < (l.Edges.length : Int)] ⟨⟨(by first | omega | (simp only [List.length_replicate, List.length_set]; omega)), (by first | omega | (simp only [List.length_replicate, List.length_set]; omega))⟩, trivial⟩ ?_
      refine xR [] [0, 1, 5, 6, 8, 9, 10, 11] [23] [.ptr false [I l.Nodes, Zag false l.Edges], Sv w, I ((w.size : Int) + 1), .arr 23, I node, I i, .ptr false [I ((at_ l.Edges i.toNat).From), I ((at_ l.Edges i.toNat).To), Sv ((at_ l.Edges i.toNat).Label), I ((at_ l.Edges i.toNat).Cost)], I 0] [some (tAI c3)] [] trivial ?_
      refine Zbp ?_
      refine Zel (X := Int × (List Int)) (fun x => mkS [(0, .ptr false [I l.Nodes, Zag false l.Edges]), (1, Sv w), (5, I ((w.size : Int) + 1)), (6, .arr 23), (8, I node), (9, I i), (10, .ptr false [I ((at_ l.Edges i.toNat).From), I ((at_ l.Edges i.toNat).To), Sv ((at_ l.Edges i.toNat).Label), I ((at_ l.Edges i.toNat).Cost)]), (11, I x.1)] [(23, tAI x.2)]) (fun x => (0 ≤ x.1 ∧ x.1 ≤ (w.size : Int)) ∧ (scI l w node i x.1 x.2) ∧ True) (fun x => ((w.size : Int) - x.1).toNat) (0, c3) rfl (show (0 ≤ (0 : Int) ∧ (0 : Int) ≤ (w.size : Int)) ∧ (scI l w node i (0 : Int) c3) ∧ True from ⟨(by omega), (by exact hsc3), trivial⟩) (fun x hI => ?_)
      obtain ⟨k, c4⟩ := x
      obtain ⟨hk0, hsc4, _⟩ : (0 ≤ k ∧ k ≤ (w.size : Int)) ∧ (scI l w node i k c4) ∧ True := hI
      show XW _ _ _ _ (mkS [(0, .ptr false [I l.Nodes, Zag false l.Edges]), (1, Sv w), (5, I ((w.size : Int) + 1)), (6, .arr 23), (8, I node), (9, I i), (10, .ptr false [I ((at_ l.Edges i.toNat).From), I ((at_ l.Edges i.toNat).To), Sv ((at_ l.Edges i.toNat).Label), I ((at_ l.Edges i.toNat).Cost)]), (11, I k)] [(23, tAI c4)]) _ _
      have hcl4_ := hsc4.1
      refine Zar ?_
      refine Zar ?_
      by_cases h4 : (k + 1) < ((w.size : Int) + 1)
      ·have hkw : k < (w.size : Int) := by omega
       by_cases h5 : ((at_ l.Edges i.toNat).From) = node
       ·have hff := h5
        have ix1 := Zsu (l := l) (w := w) (j := node) (m := k) (by omega) (by omega)
        have ix2 := Zsu (l := l) (w := w) (j := (at_ l.Edges i.toNat).To) (m := k + 1) (by omega) (by omega)
        have hcl4 := hsc4.1
        have hv1 := hsc4.2.2.1 node k (by omega) (by omega) (by omega) (by omega)
        have hv2 := hsc4.2.2.1 (at_ l.Edges i.toNat).To (k + 1) (by omega) (by omega) (by omega) (by omega)
        have hc1 : clT w c4 node k = at_ c4 (node * ((w.size : Int) + 1) + k).toNat := rfl
        have hc2 : clT w c4 (at_ l.Edges i.toNat).To (k + 1) = at_ c4 ((at_ l.Edges i.toNat).To * ((w.size : Int) + 1) + k + 1).toNat := by unfold clT; rw [Int.add_assoc]
        have hbd1 := sc_bd hl (by omega) hv1
        have hbd2 := sc_bd hl (by omega) hv2
        rw [hc1] at hbd1 hv1
        rw [hc2] at hbd2 hv2
        have hn1 : 0 ≤ node * ((w.size : Int) + 1) := Int.mul_nonneg (by omega) (by omega)
        have hn2 : 0 ≤ (at_ l.Edges i.toNat).To * ((w.size : Int) + 1) := Int.mul_nonneg (by omega) (by omega)
        refine x_r [(3, .dec true), (10, .dec true)] [0, 1, 5, 6, 8, 9, 10, 11, 69] [23] [.ptr false [I l.Nodes, Zag false l.Edges], Sv w, I ((w.size : Int) + 1), .arr 23, I node, I i, .ptr false [I ((at_ l.Edges i.toNat).From), I ((at_ l.Edges i.toNat).To), Sv ((at_ l.Edges i.toNat).Label), I ((at_ l.Edges i.toNat).Cost)], I k, Bv true] [some (tAI c4)] [inR .i64 (k + 1), (k + 1) < ((w.size : Int) + 1), ((at_ l.Edges i.toNat).From) = node] ⟨(Zah (by first | omega | (simp only [List.length_replicate, List.length_set]; omega)) (by first | omega | (simp only [List.length_replicate, List.length_set]; omega))), h4, h5, trivial⟩ ?_
        refine Zad ?_
        refine Zcb rfl ?_
        refine Zbk ?_
        refine Zad ?_
        refine Zar ?_
        refine Zbp ?_
        refine xR [] [0, 1, 5, 6, 8, 9, 10, 11, 12] [23] [.ptr false [I l.Nodes, Zag false l.Edges], Sv w, I ((w.size : Int) + 1), .arr 23, I node, I i, .ptr false [I ((at_ l.Edges i.toNat).From), I ((at_ l.Edges i.toNat).To), Sv ((at_ l.Edges i.toNat).Label), I ((at_ l.Edges i.toNat).Cost)], I k, I (at_ c4 (((node * ((w.size : Int) + 1)) + k).toNat))] [some (tAI c4)] [inR .i64 (node * ((w.size : Int) + 1)), inR .i64 ((node * ((w.size : Int) + 1)) + k), (0 : Int) ≤ ((node * ((w.size : Int) + 1)) + k) ∧ ((node * ((w.size : Int) + 1)) + k) < (c4.length : Int), ((node * ((w.size : Int) + 1)) + k).toNat < c4.length] ⟨(Zah (by first | omega | (simp only [List.length_replicate, List.length_set]; omega)) (by first | omega | (simp only [List.length_replicate, List.length_set]; omega))), (Zah (by first | omega | (simp only [List.length_replicate, List.length_set]; omega)) (by first | omega | (simp only [List.length_replicate, List.length_set]; omega))), ⟨(by first | omega | (simp only [List.length_replicate, List.length_set]; omega)), (by first | omega | (simp only [List.length_replicate, List.length_set]; omega))⟩, (by first | omega | (simp only [List.length_replicate, List.length_set]; omega)), trivial⟩ ?_
        refine Zar ?_
        refine Zar ?_
        by_cases h6 : (at_ c4 (((node * ((w.size : Int) + 1)) + k).toNat)) < 0
        ·refine x_r [(1, .dec true)] [0, 1, 5, 6, 8, 9, 10, 11, 12, 93] [23] [.ptr false [I l.Nodes, Zag false l.Edges], Sv w, I ((w.size : Int) + 1), .arr 23, I node, I i, .ptr false [I ((at_ l.Edges i.toNat).From), I ((at_ l.Edges i.toNat).To), Sv ((at_ l.Edges i.toNat).Label), I ((at_ l.Edges i.toNat).Cost)], I k, I (at_ c4 (((node * ((w.size : Int) + 1)) + k).toNat)), Bv true] [some (tAI c4)] [(at_ c4 (((node * ((w.size : Int) + 1)) + k).toNat)) < 0] ⟨h6, trivial⟩ ?_
         refine Zad ?_
         refine Zcb rfl ?_
         refine Zdo ?_
         refine Zaw ?_
         refine Zax ?_
         refine Zad ?_
         refine x_r [] [0, 1, 5, 6, 8, 9, 10, 11] [23] [.ptr false [I l.Nodes, Zag false l.Edges], Sv w, I ((w.size : Int) + 1), .arr 23, I node, I i, .ptr false [I ((at_ l.Edges i.toNat).From), I ((at_ l.Edges i.toNat).To), Sv ((at_ l.Edges i.toNat).Label), I ((at_ l.Edges i.toNat).Cost)], I (k + 1)] [some (tAI c4)] [inR .i64 (k + 1)] ⟨(Zah (by first | omega | (simp only [List.length_replicate, List.length_set]; omega)) (by first | omega | (simp only [List.length_replicate, List.length_set]; omega))), trivial⟩ ?_
         exact Zbm ((k + 1), c4) rfl (show (0 ≤ (k + 1) ∧ (k + 1) ≤ (w.size : Int)) ∧ (scI l w node i (k + 1) c4) ∧ True from ⟨(by omega), (by (first | exact Zeo hsc4 (Zis hff (.inl (by rw [hc1]; omega)) (by omega)) | exact Zeo hsc4 (Zis hff (.inr (.inl (by assumption))) (by omega)) | exact Zeo hsc4 (Zis hff (.inr (.inr (by rw [hc1, hc2]; omega))) (by omega)) | (have q_ := Zsv hl hsc4 (by omega) hi ⟨by omega, hkw⟩ hff (by rw [hc1]; omega) (by rw [← hlb]; unfold chA; rw [show (k + 1).toNat = k.toNat + 1 from by omega]) (by rw [hc1, hc2]; omega); rw [hc1, ← Int.add_assoc] at q_; exact q_))), trivial⟩) (by first | (show (((w.size : Int) - (k + 1)).toNat : Nat) < ((w.size : Int) - k).toNat; omega) | (dsimp only; omega))
        by_cases h7 : (w.extract k.toNat (k + 1).toNat) = ((at_ l.Edges i.toNat).Label)
        ·have hlb := h7
         refine x_r [(1, .dec false), (12, .dec false)] [0, 1, 5, 6, 8, 9, 10, 11, 12, 93] [23] [.ptr false [I l.Nodes, Zag false l.Edges], Sv w, I ((w.size : Int) + 1), .arr 23, I node, I i, .ptr false [I ((at_ l.Edges i.toNat).From), I ((at_ l.Edges i.toNat).To), Sv ((at_ l.Edges i.toNat).Label), I ((at_ l.Edges i.toNat).Cost)], I k, I (at_ c4 (((node * ((w.size : Int) + 1)) + k).toNat)), Bv false] [some (tAI c4)] [¬ ((at_ c4 (((node * ((w.size : Int) + 1)) + k).toNat)) < 0), inR .i64 (k + 1), (0 : Int) ≤ k ∧ k ≤ (k + 1) ∧ (k + 1) ≤ (w.size : Int), ¬ ((w.extract k.toNat (k + 1).toNat) ≠ ((at_ l.Edges i.toNat).Label))] ⟨h6, (Zah (by first | omega | (simp only [List.length_replicate, List.length_set]; omega)) (by first | omega | (simp only [List.length_replicate, List.length_set]; omega))), ⟨(by first | omega | (simp only [List.length_replicate, List.length_set]; omega)), (by first | omega | (simp only [List.length_replicate, List.length_set]; omega)), (by first | omega | (simp only [List.length_replicate, List.length_set]; omega))⟩, (fun hq => hq h7), trivial⟩ ?_
         refine Zad ?_
         refine Zav rfl ?_
         refine Zbk ?_
         refine Zad ?_
         refine xR [] [0, 1, 5, 6, 8, 9, 10, 11, 12, 13] [23] [.ptr false [I l.Nodes, Zag false l.Edges], Sv w, I ((w.size : Int) + 1), .arr 23, I node, I i, .ptr false [I ((at_ l.Edges i.toNat).From), I ((at_ l.Edges i.toNat).To), Sv ((at_ l.Edges i.toNat).Label), I ((at_ l.Edges i.toNat).Cost)], I k, I (at_ c4 (((node * ((w.size : Int) + 1)) + k).toNat)), I (at_ c4 ((((((at_ l.Edges i.toNat).To) * ((w.size : Int) + 1)) + k) + 1).toNat))] [some (tAI c4)] [inR .i64 (((at_ l.Edges i.toNat).To) * ((w.size : Int) + 1)), inR .i64 ((((at_ l.Edges i.toNat).To) * ((w.size : Int) + 1)) + k), inR .i64 (((((at_ l.Edges i.toNat).To) * ((w.size : Int) + 1)) + k) + 1), (0 : Int) ≤ (((((at_ l.Edges i.toNat).To) * ((w.size : Int) + 1)) + k) + 1) ∧ (((((at_ l.Edges i.toNat).To) * ((w.size : Int) + 1)) + k) + 1) < (c4.length : Int), (((((at_ l.Edges i.toNat).To) * ((w.size : Int) + 1)) + k) + 1).toNat < c4.length] ⟨(Zah (by first | omega | (simp only [List.length_replicate, List.length_set]; omega)) (by first | omega | (simp only [List.length_replicate, List.length_set]; omega))), (Zah (by first | omega | (simp only [List.length_replicate, List.length_set]; omega)) (by first | omega | (simp only [List.length_replicate, List.length_set]; omega))), (Zah (by first | omega | (simp only [List.length_replicate, List.length_set]; omega)) (by first | omega | (simp only [List.length_replicate, List.length_set]; omega))), ⟨(by first | omega | (simp only [List.length_replicate, List.length_set]; omega)), (by first | omega | (simp only [List.length_replicate, List.length_set]; omega))⟩, (by first | omega | (simp only [List.length_replicate, List.length_set]; omega)), trivial⟩ ?_
         refine Zar ?_
         by_cases h8 : (at_ c4 ((((((at_ l.Edges i.toNat).To) * ((w.size : Int) + 1)) + k) + 1).toNat)) < 0
         ·refine x_r [(1, .dec true)] [0, 1, 5, 6, 8, 9, 10, 11, 12, 117] [23] [.ptr false [I l.Nodes, Zag false l.Edges], Sv w, I ((w.size : Int) + 1), .arr 23, I node, I i, .ptr false [I ((at_ l.Edges i.toNat).From), I ((at_ l.Edges i.toNat).To), Sv ((at_ l.Edges i.toNat).Label), I ((at_ l.Edges i.toNat).Cost)], I k, I (at_ c4 (((node * ((w.size : Int) + 1)) + k).toNat)), Bv true] [some (tAI c4)] [(at_ c4 ((((((at_ l.Edges i.toNat).To) * ((w.size : Int) + 1)) + k) + 1).toNat)) < 0] ⟨h8, trivial⟩ ?_
          refine Zad ?_
          refine Zcb rfl ?_
          refine x_r [] [0, 1, 5, 6, 8, 9, 10, 11] [23] [.ptr false [I l.Nodes, Zag false l.Edges], Sv w, I ((w.size : Int) + 1), .arr 23, I node, I i, .ptr false [I ((at_ l.Edges i.toNat).From), I ((at_ l.Edges i.toNat).To), Sv ((at_ l.Edges i.toNat).Label), I ((at_ l.Edges i.toNat).Cost)], I k] [some (.arr 1 c4.length (fun q => bif Nat.beq q ((((((at_ l.Edges i.toNat).To) * ((w.size : Int) + 1)) + k) + 1).toNat) then [I ((at_ c4 (((node * ((w.size : Int) + 1)) + k).toNat)) + ((at_ l.Edges i.toNat).Cost))] else (fI c4) q))] [inR .i64 (((at_ l.Edges i.toNat).To) * ((w.size : Int) + 1)), inR .i64 ((((at_ l.Edges i.toNat).To) * ((w.size : Int) + 1)) + k), inR .i64 (((((at_ l.Edges i.toNat).To) * ((w.size : Int) + 1)) + k) + 1), inR .i64 ((at_ c4 (((node * ((w.size : Int) + 1)) + k).toNat)) + ((at_ l.Edges i.toNat).Cost)), (0 : Int) ≤ (((((at_ l.Edges i.toNat).To) * ((w.size : Int) + 1)) + k) + 1) ∧ (((((at_ l.Edges i.toNat).To) * ((w.size : Int) + 1)) + k) + 1) < (c4.length : Int), (((((at_ l.Edges i.toNat).To) * ((w.size : Int) + 1)) + k) + 1).toNat < c4.length] ⟨(Zah (by first | omega | (simp only [List.length_replicate, List.length_set]; omega)) (by first | omega | (simp only [List.length_replicate, List.length_set]; omega))), (Zah (by first | omega | (simp only [List.length_replicate, List.length_set]; omega)) (by first | omega | (simp only [List.length_replicate, List.length_set]; omega))), (Zah (by first | omega | (simp only [List.length_replicate, List.length_set]; omega)) (by first | omega | (simp only [List.length_replicate, List.length_set]; omega))), (Zah (by first | omega | (simp only [List.length_replicate, List.length_set]; omega)) (by first | omega | (simp only [List.length_replicate, List.length_set]; omega))), ⟨(by first | omega | (simp only [List.length_replicate, List.length_set]; omega)), (by first | omega | (simp only [List.length_replicate, List.length_set]; omega))⟩, (by first | omega | (simp only [List.length_replicate, List.length_set]; omega)), trivial⟩ ?_
          refine Zbw 7 ?_
          refine Zad ?_
          refine x_r [] [0, 1, 5, 6, 8, 9, 10, 11] [23] [.ptr false [I l.Nodes, Zag false l.Edges], Sv w, I ((w.size : Int) + 1), .arr 23, I node, I i, .ptr false [I ((at_ l.Edges i.toNat).From), I ((at_ l.Edges i.toNat).To), Sv ((at_ l.Edges i.toNat).Label), I ((at_ l.Edges i.toNat).Cost)], I (k + 1)] [some (.arr 1 c4.length (fun q => bif Nat.beq q ((((((at_ l.Edges i.toNat).To) * ((w.size : Int) + 1)) + k) + 1).toNat) then [I ((at_ c4 (((node * ((w.size : Int) + 1)) + k).toNat)) + ((at_ l.Edges i.toNat).Cost))] else (fI c4) q))] [inR .i64 (k + 1)] ⟨(Zah (by first | omega | (simp only [List.length_replicate, List.length_set]; omega)) (by first | omega | (simp only [List.length_replicate, List.length_set]; omega))), trivial⟩ ?_
          refine Zgy [] (T := [(0, .ptr false [I l.Nodes, Zag false l.Edges]), (1, Sv w), (5, I ((w.size : Int) + 1)), (6, .arr 23), (8, I node), (9, I i), (10, .ptr false [I ((at_ l.Edges i.toNat).From), I ((at_ l.Edges i.toNat).To), Sv ((at_ l.Edges i.toNat).Label), I ((at_ l.Edges i.toNat).Cost)]), (11, I (k + 1))]) (O := [(23, tAI (c4.set ((((((at_ l.Edges i.toNat).To) * ((w.size : Int) + 1)) + k) + 1).toNat) ((at_ c4 (((node * ((w.size : Int) + 1)) + k).toNat)) + ((at_ l.Edges i.toNat).Cost))))]) rfl (⟨.inl rfl, .inl rfl, .inl rfl, .inl rfl, .inl rfl, .inl rfl, .inl rfl, .inl rfl, trivial⟩) (⟨.inr ⟨rfl, (by first | rfl | (simp; done) | (simp; omega) | omega), fun i_ hi_ => .inl (Zhc (enc := cI) rfl i_ hi_)⟩, trivial⟩) (Zbm ((k + 1), (c4.set ((((((at_ l.Edges i.toNat).To) * ((w.size : Int) + 1)) + k) + 1).toNat) ((at_ c4 (((node * ((w.size : Int) + 1)) + k).toNat)) + ((at_ l.Edges i.toNat).Cost)))) rfl (show (0 ≤ (k + 1) ∧ (k + 1) ≤ (w.size : Int)) ∧ (scI l w node i (k + 1) (c4.set ((((((at_ l.Edges i.toNat).To) * ((w.size : Int) + 1)) + k) + 1).toNat) ((at_ c4 (((node * ((w.size : Int) + 1)) + k).toNat)) + ((at_ l.Edges i.toNat).Cost)))) ∧ True from ⟨(by omega), (by (first | exact Zeo hsc4 (Zis hff (.inl (by rw [hc1]; omega)) (by omega)) | exact Zeo hsc4 (Zis hff (.inr (.inl (by assumption))) (by omega)) | exact Zeo hsc4 (Zis hff (.inr (.inr (by rw [hc1, hc2]; omega))) (by omega)) | (have q_ := Zsv hl hsc4 (by omega) hi ⟨by omega, hkw⟩ hff (by rw [hc1]; omega) (by rw [← hlb]; unfold chA; rw [show (k + 1).toNat = k.toNat + 1 from by omega]) (by rw [hc1, hc2]; omega); rw [hc1, ← Int.add_assoc] at q_; exact q_))), trivial⟩) (by first | (show (((w.size : Int) - (k + 1)).toNat : Nat) < ((w.size : Int) - k).toNat; omega) | (dsimp only; omega)))
         by_cases h9 : ((at_ c4 (((node * ((w.size : Int) + 1)) + k).toNat)) + ((at_ l.Edges i.toNat).Cost)) < (at_ c4 ((((((at_ l.Edges i.toNat).To) * ((w.size : Int) + 1)) + k) + 1).toNat))
         ·refine x_r [(1, .dec false), (10, .dec true)] [0, 1, 5, 6, 8, 9, 10, 11, 12, 117] [23] [.ptr false [I l.Nodes, Zag false l.Edges], Sv w, I ((w.size : Int) + 1), .arr 23, I node, I i, .ptr false [I ((at_ l.Edges i.toNat).From), I ((at_ l.Edges i.toNat).To), Sv ((at_ l.Edges i.toNat).Label), I ((at_ l.Edges i.toNat).Cost)], I k, I (at_ c4 (((node * ((w.size : Int) + 1)) + k).toNat)), Bv true] [some (tAI c4)] [¬ ((at_ c4 ((((((at_ l.Edges i.toNat).To) * ((w.size : Int) + 1)) + k) + 1).toNat)) < 0), inR .i64 ((at_ c4 (((node * ((w.size : Int) + 1)) + k).toNat)) + ((at_ l.Edges i.toNat).Cost)), ((at_ c4 (((node * ((w.size : Int) + 1)) + k).toNat)) + ((at_ l.Edges i.toNat).Cost)) < (at_ c4 ((((((at_ l.Edges i.toNat).To) * ((w.size : Int) + 1)) + k) + 1).toNat))] ⟨h8, (Zah (by first | omega | (simp only [List.length_replicate, List.length_set]; omega)) (by first | omega | (simp only [List.length_replicate, List.length_set]; omega))), h9, trivial⟩ ?_
          refine Zad ?_
          refine Zcb rfl ?_
          refine x_r [] [0, 1, 5, 6, 8, 9, 10, 11] [23] [.ptr false [I l.Nodes, Zag false l.Edges], Sv w, I ((w.size : Int) + 1), .arr 23, I node, I i, .ptr false [I ((at_ l.Edges i.toNat).From), I ((at_ l.Edges i.toNat).To), Sv ((at_ l.Edges i.toNat).Label), I ((at_ l.Edges i.toNat).Cost)], I k] [some (.arr 1 c4.length (fun q => bif Nat.beq q ((((((at_ l.Edges i.toNat).To) * ((w.size : Int) + 1)) + k) + 1).toNat) then [I ((at_ c4 (((node * ((w.size : Int) + 1)) + k).toNat)) + ((at_ l.Edges i.toNat).Cost))] else (fI c4) q))] [inR .i64 (((at_ l.Edges i.toNat).To) * ((w.size : Int) + 1)), inR .i64 ((((at_ l.Edges i.toNat).To) * ((w.size : Int) + 1)) + k), inR .i64 (((((at_ l.Edges i.toNat).To) * ((w.size : Int) + 1)) + k) + 1), inR .i64 ((at_ c4 (((node * ((w.size : Int) + 1)) + k).toNat)) + ((at_ l.Edges i.toNat).Cost)), (0 : Int) ≤ (((((at_ l.Edges i.toNat).To) * ((w.size : Int) + 1)) + k) + 1) ∧ (((((at_ l.Edges i.toNat).To) * ((w.size : Int) + 1)) + k) + 1) < (c4.length : Int), (((((at_ l.Edges i.toNat).To) * ((w.size : Int) + 1)) + k) + 1).toNat < c4.length] ⟨(Zah (by first | omega | (simp only [List.length_replicate, List.length_set]; omega)) (by first | omega | (simp only [List.length_replicate, List.length_set]; omega))), (Zah (by first | omega | (simp only [List.length_replicate, List.length_set]; omega)) (by first | omega | (simp only [List.length_replicate, List.length_set]; omega))), (Zah (by first | omega | (simp only [List.length_replicate, List.length_set]; omega)) (by first | omega | (simp only [List.length_replicate, List.length_set]; omega))), (Zah (by first | omega | (simp only [List.length_replicate, List.length_set]; omega)) (by first | omega | (simp only [List.length_replicate, List.length_set]; omega))), ⟨(by first | omega | (simp only [List.length_replicate, List.length_set]; omega)), (by first | omega | (simp only [List.length_replicate, List.length_set]; omega))⟩, (by first | omega | (simp only [List.length_replicate, List.length_set]; omega)), trivial⟩ ?_
          refine Zbw 7 ?_
          refine Zad ?_
          refine x_r [] [0, 1, 5, 6, 8, 9, 10, 11] [23] [.ptr false [I l.Nodes, Zag false l.Edges], Sv w, I ((w.size : Int) + 1), .arr 23, I node, I i, .ptr false [I ((at_ l.Edges i.toNat).From), I ((at_ l.Edges i.toNat).To), Sv ((at_ l.Edges i.toNat).Label), I ((at_ l.Edges i.toNat).Cost)], I (k + 1)] [some (.arr 1 c4.length (fun q => bif Nat.beq q ((((((at_ l.Edges i.toNat).To) * ((w.size : Int) + 1)) + k) + 1).toNat) then [I ((at_ c4 (((node * ((w.size : Int) + 1)) + k).toNat)) + ((at_ l.Edges i.toNat).Cost))] else (fI c4) q))] [inR .i64 (k + 1)] ⟨(Zah (by first | omega | (simp only [List.length_replicate, List.length_set]; omega)) (by first | omega | (simp only [List.length_replicate, List.length_set]; omega))), trivial⟩ ?_
          refine Zgy [] (T := [(0, .ptr false [I l.Nodes, Zag false l.Edges]), (1, Sv w), (5, I ((w.size : Int) + 1)), (6, .arr 23), (8, I node), (9, I i), (10, .ptr false [I ((at_ l.Edges i.toNat).From), I ((at_ l.Edges i.toNat).To), Sv ((at_ l.Edges i.toNat).Label), I ((at_ l.Edges i.toNat).Cost)]), (11, I (k + 1))]) (O := [(23, tAI (c4.set ((((((at_ l.Edges i.toNat).To) * ((w.size : Int) + 1)) + k) + 1).toNat) ((at_ c4 (((node * ((w.size : Int) + 1)) + k).toNat)) + ((at_ l.Edges i.toNat).Cost))))]) rfl (⟨.inl rfl, .inl rfl, .inl rfl, .inl rfl, .inl rfl, .inl rfl, .inl rfl, .inl rfl, trivial⟩) (⟨.inr ⟨rfl, (by first | rfl | (simp; done) | (simp; omega) | omega), fun i_ hi_ => .inl (Zhc (enc := cI) rfl i_ hi_)⟩, trivial⟩) (Zbm ((k + 1), (c4.set ((((((at_ l.Edges i.toNat).To) * ((w.size : Int) + 1)) + k) + 1).toNat) ((at_ c4 (((node * ((w.size : Int) + 1)) + k).toNat)) + ((at_ l.Edges i.toNat).Cost)))) rfl (show (0 ≤ (k + 1) ∧ (k + 1) ≤ (w.size : Int)) ∧ (scI l w node i (k + 1) (c4.set ((((((at_ l.Edges i.toNat).To) * ((w.size : Int) + 1)) + k) + 1).toNat) ((at_ c4 (((node * ((w.size : Int) + 1)) + k).toNat)) + ((at_ l.Edges i.toNat).Cost)))) ∧ True from ⟨(by omega), (by (first | exact Zeo hsc4 (Zis hff (.inl (by rw [hc1]; omega)) (by omega)) | exact Zeo hsc4 (Zis hff (.inr (.inl (by assumption))) (by omega)) | exact Zeo hsc4 (Zis hff (.inr (.inr (by rw [hc1, hc2]; omega))) (by omega)) | (have q_ := Zsv hl hsc4 (by omega) hi ⟨by omega, hkw⟩ hff (by rw [hc1]; omega) (by rw [← hlb]; unfold chA; rw [show (k + 1).toNat = k.toNat + 1 from by omega]) (by rw [hc1, hc2]; omega); rw [hc1, ← Int.add_assoc] at q_; exact q_))), trivial⟩) (by first | (show (((w.size : Int) - (k + 1)).toNat : Nat) < ((w.size : Int) - k).toNat; omega) | (dsimp only; omega)))
         refine x_r [(1, .dec false), (10, .dec false)] [0, 1, 5, 6, 8, 9, 10, 11, 12, 117] [23] [.ptr false [I l.Nodes, Zag false l.Edges], Sv w, I ((w.size : Int) + 1), .arr 23, I node, I i, .ptr false [I ((at_ l.Edges i.toNat).From), I ((at_ l.Edges i.toNat).To), Sv ((at_ l.Edges i.toNat).Label), I ((at_ l.Edges i.toNat).Cost)], I k, I (at_ c4 (((node * ((w.size : Int) + 1)) + k).toNat)), Bv false] [some (tAI c4)] [¬ ((at_ c4 ((((((at_ l.Edges i.toNat).To) * ((w.size : Int) + 1)) + k) + 1).toNat)) < 0), inR .i64 ((at_ c4 (((node * ((w.size : Int) + 1)) + k).toNat)) + ((at_ l.Edges i.toNat).Cost)), ¬ (((at_ c4 (((node * ((w.size : Int) + 1)) + k).toNat)) + ((at_ l.Edges i.toNat).Cost)) < (at_ c4 ((((((at_ l.Edges i.toNat).To) * ((w.size : Int) + 1)) + k) + 1).toNat)))] ⟨h8, (Zah (by first | omega | (simp only [List.length_replicate, List.length_set]; omega)) (by first | omega | (simp only [List.length_replicate, List.length_set]; omega))), h9, trivial⟩ ?_
         refine Zad ?_
         refine Zav rfl ?_
         refine Zbk ?_
         refine Zbw 7 ?_
         refine Zad ?_
         refine x_r [] [0, 1, 5, 6, 8, 9, 10, 11] [23] [.ptr false [I l.Nodes, Zag false l.Edges], Sv w, I ((w.size : Int) + 1), .arr 23, I node, I i, .ptr false [I ((at_ l.Edges i.toNat).From), I ((at_ l.Edges i.toNat).To), Sv ((at_ l.Edges i.toNat).Label), I ((at_ l.Edges i.toNat).Cost)], I (k + 1)] [some (tAI c4)] [inR .i64 (k + 1)] ⟨(Zah (by first | omega | (simp only [List.length_replicate, List.length_set]; omega)) (by first | omega | (simp only [List.length_replicate, List.length_set]; omega))), trivial⟩ ?_
         exact Zbm ((k + 1), c4) rfl (show (0 ≤ (k + 1) ∧ (k + 1) ≤ (w.size : Int)) ∧ (scI l w node i (k + 1) c4) ∧ True from ⟨(by omega), (by (first | exact Zeo hsc4 (Zis hff (.inl (by rw [hc1]; omega)) (by omega)) | exact Zeo hsc4 (Zis hff (.inr (.inl (by assumption))) (by omega)) | exact Zeo hsc4 (Zis hff (.inr (.inr (by rw [hc1, hc2]; omega))) (by omega)) | (have q_ := Zsv hl hsc4 (by omega) hi ⟨by omega, hkw⟩ hff (by rw [hc1]; omega) (by rw [← hlb]; unfold chA; rw [show (k + 1).toNat = k.toNat + 1 from by omega]) (by rw [hc1, hc2]; omega); rw [hc1, ← Int.add_assoc] at q_; exact q_))), trivial⟩) (by first | (show (((w.size : Int) - (k + 1)).toNat : Nat) < ((w.size : Int) - k).toNat; omega) | (dsimp only; omega))
        have hlb := h7
        refine x_r [(1, .dec false), (12, .dec true)] [0, 1, 5, 6, 8, 9, 10, 11, 12, 93] [23] [.ptr false [I l.Nodes, Zag false l.Edges], Sv w, I ((w.size : Int) + 1), .arr 23, I node, I i, .ptr false [I ((at_ l.Edges i.toNat).From), I ((at_ l.Edges i.toNat).To), Sv ((at_ l.Edges i.toNat).Label), I ((at_ l.Edges i.toNat).Cost)], I k, I (at_ c4 (((node * ((w.size : Int) + 1)) + k).toNat)), Bv true] [some (tAI c4)] [¬ ((at_ c4 (((node * ((w.size : Int) + 1)) + k).toNat)) < 0), inR .i64 (k + 1), (0 : Int) ≤ k ∧ k ≤ (k + 1) ∧ (k + 1) ≤ (w.size : Int), (w.extract k.toNat (k + 1).toNat) ≠ ((at_ l.Edges i.toNat).Label)] ⟨h6, (Zah (by first | omega | (simp only [List.length_replicate, List.length_set]; omega)) (by first | omega | (simp only [List.length_replicate, List.length_set]; omega))), ⟨(by first | omega | (simp only [List.length_replicate, List.length_set]; omega)), (by first | omega | (simp only [List.length_replicate, List.length_set]; omega)), (by first | omega | (simp only [List.length_replicate, List.length_set]; omega))⟩, h7, trivial⟩ ?_
        refine Zad ?_
        refine Zcb rfl ?_
        refine Zdo ?_
        refine Zaw ?_
        refine Zax ?_
        refine Zad ?_
        refine x_r [] [0, 1, 5, 6, 8, 9, 10, 11] [23] [.ptr false [I l.Nodes, Zag false l.Edges], Sv w, I ((w.size : Int) + 1), .arr 23, I node, I i, .ptr false [I ((at_ l.Edges i.toNat).From), I ((at_ l.Edges i.toNat).To), Sv ((at_ l.Edges i.toNat).Label), I ((at_ l.Edges i.toNat).Cost)], I (k + 1)] [some (tAI c4)] [inR .i64 (k + 1)] ⟨(Zah (by first | omega | (simp only [List.length_replicate, List.length_set]; omega)) (by first | omega | (simp only [List.length_replicate, List.length_set]; omega))), trivial⟩ ?_
        exact Zbm ((k + 1), c4) rfl (show (0 ≤ (k + 1) ∧ (k + 1) ≤ (w.size : Int)) ∧ (scI l w node i (k + 1) c4) ∧ True from ⟨(by omega), (by (first | exact Zeo hsc4 (Zis hff (.inl (by rw [hc1]; omega)) (by omega)) | exact Zeo hsc4 (Zis hff (.inr (.inl (by assumption))) (by omega)) | exact Zeo hsc4 (Zis hff (.inr (.inr (by rw [hc1, hc2]; omega))) (by omega)) | (have q_ := Zsv hl hsc4 (by omega) hi ⟨by omega, hkw⟩ hff (by rw [hc1]; omega) (by rw [← hlb]; unfold chA; rw [show (k + 1).toNat = k.toNat + 1 from by omega]) (by rw [hc1, hc2]; omega); rw [hc1, ← Int.add_assoc] at q_; exact q_))), trivial⟩) (by first | (show (((w.size : Int) - (k + 1)).toNat : Nat) < ((w.size : Int) - k).toNat; omega) | (dsimp only; omega))
       have hfo := h5
       refine x_r [(3, .dec true), (10, .dec false)] [0, 1, 5, 6, 8, 9, 10, 11, 69] [23] [.ptr false [I l.Nodes, Zag false l.Edges], Sv w, I ((w.size : Int) + 1), .arr 23, I node, I i, .ptr false [I ((at_ l.Edges i.toNat).From), I ((at_ l.Edges i.toNat).To), Sv ((at_ l.Edges i.toNat).Label), I ((at_ l.Edges i.toNat).Cost)], I k, Bv false] [some (tAI c4)] [inR .i64 (k + 1), (k + 1) < ((w.size : Int) + 1), ¬ (((at_ l.Edges i.toNat).From) = node)] ⟨(Zah (by first | omega | (simp only [List.length_replicate, List.length_set]; omega)) (by first | omega | (simp only [List.length_replicate, List.length_set]; omega))), h4, h5, trivial⟩ ?_
       refine Zad ?_
       refine Zav rfl ?_
       refine Zdo ?_
       refine Zaw ?_
       refine Zbd ?_
       refine Zax ?_
       refine Zbw 5 ?_
       refine Zad ?_
       refine x_r [] [0, 1, 5, 6, 8, 9] [23] [.ptr false [I l.Nodes, Zag false l.Edges], Sv w, I ((w.size : Int) + 1), .arr 23, I node, I (i + 1)] [some (tAI c4)] [inR .i64 (i + 1)] ⟨(Zah (by first | omega | (simp only [List.length_replicate, List.length_set]; omega)) (by first | omega | (simp only [List.length_replicate, List.length_set]; omega))), trivial⟩ ?_
       exact Zbm ((i + 1), c4) rfl (show (0 ≤ (i + 1) ∧ (i + 1) ≤ (l.Edges.length : Int)) ∧ (scI l w node (i + 1) 0 c4) ∧ True from ⟨(by omega), (by first | exact Zqp hsc4 (by omega) (.inl hko) | exact Zqp hsc4 (by omega) (.inr hfo)), trivial⟩) (by first | (show (((l.Edges.length : Int) - (i + 1)).toNat : Nat) < ((l.Edges.length : Int) - i).toNat; omega) | (dsimp only; omega))
      have hko : (w.size : Int) ≤ k := by omega
      refine x_r [(3, .dec false)] [0, 1, 5, 6, 8, 9, 10, 11, 69] [23] [.ptr false [I l.Nodes, Zag false l.Edges], Sv w, I ((w.size : Int) + 1), .arr 23, I node, I i, .ptr false [I ((at_ l.Edges i.toNat).From), I ((at_ l.Edges i.toNat).To), Sv ((at_ l.Edges i.toNat).Label), I ((at_ l.Edges i.toNat).Cost)], I k, Bv false] [some (tAI c4)] [inR .i64 (k + 1), ¬ ((k + 1) < ((w.size : Int) + 1))] ⟨(Zah (by first | omega | (simp only [List.length_replicate, List.length_set]; omega)) (by first | omega | (simp only [List.length_replicate, List.length_set]; omega))), h4, trivial⟩ ?_
      refine Zad ?_
      refine Zav rfl ?_
      refine Zdo ?_
      refine Zaw ?_
      refine Zbd ?_
      refine Zax ?_
      refine Zbw 5 ?_
      refine Zad ?_
      refine x_r [] [0, 1, 5, 6, 8, 9] [23] [.ptr false [I l.Nodes, Zag false l.Edges], Sv w, I ((w.size : Int) + 1), .arr 23, I node, I (i + 1)] [some (tAI c4)] [inR .i64 (i + 1)] ⟨(Zah (by first | omega | (simp only [List.length_replicate, List.length_set]; omega)) (by first | omega | (simp only [List.length_replicate, List.length_set]; omega))), trivial⟩ ?_
      exact Zbm ((i + 1), c4) rfl (show (0 ≤ (i + 1) ∧ (i + 1) ≤ (l.Edges.length : Int)) ∧ (scI l w node (i + 1) 0 c4) ∧ True from ⟨(by omega), (by first | exact Zqp hsc4 (by omega) (.inl hko) | exact Zqp hsc4 (by omega) (.inr hfo)), trivial⟩) (by first | (show (((l.Edges.length : Int) - (i + 1)).toNat : Nat) < ((l.Edges.length : Int) - i).toNat; omega) | (dsimp only; omega))
     refine x_r [(6, .dec false)] [0, 1, 5, 6, 8, 9, 49] [23] [.ptr false [I l.Nodes, Zag false l.Edges], Sv w, I ((w.size : Int) + 1), .arr 23, I node, I i, Bv false] [some (tAI c3)] [¬ (i < (l.Edges.length : Int))] ⟨h3, trivial⟩ ?_
     refine Zad ?_
     refine Zav rfl ?_
     refine Zdo ?_
     refine Zaw ?_
     refine Zbd ?_
     refine Zax ?_
     refine Zbw 3 ?_
     refine Zad ?_
     refine x_r [] [0, 1, 5, 6, 8] [23] [.ptr false [I l.Nodes, Zag false l.Edges], Sv w, I ((w.size : Int) + 1), .arr 23, I (node + 1)] [some (tAI c3)] [inR .i64 (node + 1)] ⟨(Zah (by first | omega | (simp only [List.length_replicate, List.length_set]; omega)) (by first | omega | (simp only [List.length_replicate, List.length_set]; omega))), trivial⟩ ?_
     exact Zbm ((node + 1), c3) rfl (show (0 ≤ (node + 1) ∧ (node + 1) ≤ l.Nodes) ∧ (scI l w (node + 1) 0 0 c3) ∧ True from ⟨(by omega), (by exact sc_node hsc3 (by omega)), trivial⟩) (by first | (show ((l.Nodes - (node + 1)).toNat : Nat) < (l.Nodes - node).toNat; omega) | (dsimp only; omega))
    have hcl2 := hsc.1
    have hend := sc_end hl (by omega) hsc
    have hixe : (l.Nodes * ((w.size : Int) + 1) - 1).toNat = ((l.Nodes - 1) * ((w.size : Int) + 1) + (w.size : Int)).toNat := by rw [Int.sub_mul]; omega
    have hcle : clT w c2 (l.Nodes - 1) w.size = at_ c2 (l.Nodes * ((w.size : Int) + 1) - 1).toNat := by rw [hixe]; rfl
    refine x_r [(5, .dec false)] [0, 1, 5, 6, 8, 40] [23] [.ptr false [I l.Nodes, Zag false l.Edges], Sv w, I ((w.size : Int) + 1), .arr 23, I node, Bv false] [some (tAI c2)] [¬ (node < l.Nodes)] ⟨h2, trivial⟩ ?_
    refine Zad ?_
    refine Zav rfl ?_
    refine Zdo ?_
    refine Zaw ?_
    refine Zbd ?_
    refine Zax ?_
    refine Zad ?_
    refine xR [] [4] [] [I (at_ c2 (((l.Nodes * ((w.size : Int) + 1)) - 1).toNat))] [] [inR .i64 (l.Nodes * ((w.size : Int) + 1)), inR .i64 ((l.Nodes * ((w.size : Int) + 1)) - 1), (0 : Int) ≤ ((l.Nodes * ((w.size : Int) + 1)) - 1) ∧ ((l.Nodes * ((w.size : Int) + 1)) - 1) < (c2.length : Int), ((l.Nodes * ((w.size : Int) + 1)) - 1).toNat < c2.length] ⟨(Zah (by first | omega | (simp only [List.length_replicate, List.length_set]; omega)) (by first | omega | (simp only [List.length_replicate, List.length_set]; omega))), (Zah (by first | omega | (simp only [List.length_replicate, List.length_set]; omega)) (by first | omega | (simp only [List.length_replicate, List.length_set]; omega))), ⟨(by first | omega | (simp only [List.length_replicate, List.length_set]; omega)), (by first | omega | (simp only [List.length_replicate, List.length_set]; omega))⟩, (by first | omega | (simp only [List.length_replicate, List.length_set]; omega)), trivial⟩ ?_
    refine Zdh ?_
    refine Zce (at_ c2 (((l.Nodes * ((w.size : Int) + 1)) - 1).toNat)) (show (((at_ c2 (((l.Nodes * ((w.size : Int) + 1)) - 1).toNat)) = -1 ∧ ¬ tcF l w < 1099511627776) ∨ (0 ≤ (at_ c2 (((l.Nodes * ((w.size : Int) + 1)) - 1).toNat)) ∧ (at_ c2 (((l.Nodes * ((w.size : Int) + 1)) - 1).toNat)) = tcF l w ∧ tcF l w < 1099511627776)) ∧ (True) from ⟨(by (rw [← hcle]; exact hend)), trivial⟩) (trivial) (I (at_ c2 (((l.Nodes * ((w.size : Int) + 1)) - 1).toNat))) (by kernel_rfl) (.inl rfl) (fun _ => rfl) (fun _ => trivial)
  obtain ⟨v, ⟨hh0, _⟩, hc⟩ := hh
  exact ⟨v, hh0, hc⟩
theorem Zlr (l : Lattice) (w : ByteArray) (hl : Zcg l) (hw : w.size ≤ 1000) : ∃ (v : Int) (c : Int), ((c = 0 ∧ v = tcF l w ∧ tcF l w < 1099511627776) ∨ (c = 3 ∧ ¬ tcF l w < 1099511627776)) ∧ Con Tryz.prog 19 [Zbh l, Sv w] true (.tup [I v, I c]) := by
  have hh : ∃ r : Int × Int, (((r.2 = 0 ∧ r.1 = tcF l w ∧ tcF l w < 1099511627776) ∨ (r.2 = 3 ∧ ¬ tcF l w < 1099511627776)) ∧ (True)) ∧ Zbi Tryz.prog 19 [Zbh l, Sv w] (Zaf []) true (.tup [I r.1, I r.2]) (Zaf []) := by
    refine Zdl (Φ := fun r : Int × Int => ((r.2 = 0 ∧ r.1 = tcF l w ∧ tcF l w < 1099511627776) ∨ (r.2 = 3 ∧ ¬ tcF l w < 1099511627776)) ∧ (True)) [] (fun r => []) (fn := Tryz.f19) (nt := 17) Tryz.func19 rfl rfl (args := [Zbh l, Sv w]) rfl (Zbe (.inl ⟨rfl, by simp [Zan, Zaj, Zdv]⟩) (Zbe (.inl ⟨rfl, trivial⟩) Zdj)) (res := fun r => .tup [I r.1, I r.2]) ?_
    refine xR [(0, .new 2)] [1, 2] [2] [Sv w, .ref 2 0] [some (Zac l)] [] trivial ?_
    refine Zar ?_
    refine xR [(0, .call [(false, .ptr false [I l.Nodes, Zag false l.Edges])] true (Bv true))] [1, 2, 8] [2] [Sv w, .ref 2 0, Bv false] [some (Zac l)] [Con Tryz.prog 55 [.ptr false [I l.Nodes, Zag false l.Edges]] true (Bv true) ∧ ((false = true → true = true) ∧ AV.idsL [I l.Nodes, Zag false l.Edges] = [] ∧ (Zcp (I l.Nodes) = Zcp (I l.Nodes)) ∧ ((false = true → false = true) ∧ 4 = 4 ∧ l.Edges.length = l.Edges.length ∧ ∀ i_, i_ < l.Edges.length → (Zcv l.Edges) i_ = (Zcv l.Edges) i_ ∨ (AV.idsL ((Zcv l.Edges) i_) = [] ∧ leL (fun _ => none) false ((Zcv l.Edges) i_) ((Zcv l.Edges) i_))) ∧ ([] : List AV) = []) ∧ True] ⟨⟨(Zwl l hl), ⟨(fun h => by cases h), rfl, ⟨rfl, ⟨⟨(fun h => by cases h), rfl, rfl, fun i _ => .inl rfl⟩, rfl⟩⟩⟩, trivial⟩, trivial⟩ ?_
    refine Zav rfl ?_
    refine Zbk ?_
    refine Zad ?_
    refine Zar ?_
    refine Zar ?_
    by_cases h1 : 20 < (w.size : Int)
    ·have hlg := tcF_long hl (w := w) (by omega)
     refine x_r [(2, .dec true)] [1, 2, 11] [2] [Sv w, .ref 2 0, Bv true] [some (Zac l)] [20 < (w.size : Int)] ⟨h1, trivial⟩ ?_
     refine Zad ?_
     refine Zcb rfl ?_
     refine xR [] [4, 5] [] [I 0, I 3] [] [] trivial ?_
     refine Zdh ?_
     refine Zcl ?_
     refine Zce (0, 3) (show ((3 = 0 ∧ 0 = tcF l w ∧ tcF l w < 1099511627776) ∨ (3 = 3 ∧ ¬ tcF l w < 1099511627776)) ∧ (True) from ⟨(by first | exact .inr ⟨rfl, hlg⟩ | (rcases htc with q | q; (first | exact .inr ⟨rfl, q.2⟩ | omega); (first | exact .inl ⟨rfl, q.2.1, q.2.2⟩ | omega))), trivial⟩) (trivial) (.tup [I 0, I 3]) (by kernel_rfl) (.inl rfl) (fun _ => rfl) (fun _ => (by simp [Zan, Zaj]))
    refine x_r [(2, .dec false)] [1, 2, 11] [2] [Sv w, .ref 2 0, Bv false] [some (Zac l)] [¬ (20 < (w.size : Int))] ⟨h1, trivial⟩ ?_
    refine Zad ?_
    refine Zav rfl ?_
    refine Zbk ?_
    refine Zad ?_
    refine Zar ?_
    obtain ⟨v_1, hx1_0, hc1⟩ := Znq l w hl (by omega)
    have htc := hx1_0
    refine x_r [(1, .call [(false, .ptr false [I l.Nodes, Zag false l.Edges]), (true, .any)] true (I v_1))] [6] [] [I v_1] [] [Con Tryz.prog 56 [.ptr false [I l.Nodes, Zag false l.Edges], Sv w] true (I v_1) ∧ ((false = true → true = true) ∧ AV.idsL [I l.Nodes, Zag false l.Edges] = [] ∧ (Zcp (I l.Nodes) = Zcp (I l.Nodes)) ∧ ((false = true → false = true) ∧ 4 = 4 ∧ l.Edges.length = l.Edges.length ∧ ∀ i_, i_ < l.Edges.length → (Zcv l.Edges) i_ = (Zcv l.Edges) i_ ∨ (AV.idsL ((Zcv l.Edges) i_) = [] ∧ leL (fun _ => none) false ((Zcv l.Edges) i_) ((Zcv l.Edges) i_))) ∧ ([] : List AV) = []) ∧ True] ⟨⟨hc1, ⟨(fun h => by cases h), rfl, ⟨rfl, ⟨⟨(fun h => by cases h), rfl, rfl, fun i _ => .inl rfl⟩, rfl⟩⟩⟩, trivial⟩, trivial⟩ ?_
    refine Zad ?_
    refine Zar ?_
    refine Zar ?_
    by_cases h2 : v_1 < 0
    ·refine x_r [(1, .dec true)] [6, 15] [] [I v_1, Bv true] [] [v_1 < 0] ⟨h2, trivial⟩ ?_
     refine Zad ?_
     refine Zcb rfl ?_
     refine xR [] [4, 5] [] [I 0, I 3] [] [] trivial ?_
     refine Zdh ?_
     refine Zcl ?_
     refine Zce (0, 3) (show ((3 = 0 ∧ 0 = tcF l w ∧ tcF l w < 1099511627776) ∨ (3 = 3 ∧ ¬ tcF l w < 1099511627776)) ∧ (True) from ⟨(by first | exact .inr ⟨rfl, hlg⟩ | (rcases htc with q | q; (first | exact .inr ⟨rfl, q.2⟩ | omega); (first | exact .inl ⟨rfl, q.2.1, q.2.2⟩ | omega))), trivial⟩) (trivial) (.tup [I 0, I 3]) (by kernel_rfl) (.inl rfl) (fun _ => rfl) (fun _ => (by simp [Zan, Zaj]))
    refine x_r [(1, .dec false)] [6, 15] [] [I v_1, Bv false] [] [¬ (v_1 < 0)] ⟨h2, trivial⟩ ?_
    refine Zad ?_
    refine Zav rfl ?_
    refine Zbk ?_
    refine Zad ?_
    refine xR [] [4, 5] [] [I v_1, I 0] [] [] trivial ?_
    refine Zdh ?_
    refine Zce (v_1, 0) (show ((0 = 0 ∧ v_1 = tcF l w ∧ tcF l w < 1099511627776) ∨ (0 = 3 ∧ ¬ tcF l w < 1099511627776)) ∧ (True) from ⟨(by first | exact .inr ⟨rfl, hlg⟩ | (rcases htc with q | q; (first | exact .inr ⟨rfl, q.2⟩ | omega); (first | exact .inl ⟨rfl, q.2.1, q.2.2⟩ | omega))), trivial⟩) (trivial) (.tup [I v_1, I 0]) (by kernel_rfl) (.inl rfl) (fun _ => rfl) (fun _ => (by simp [Zan, Zaj]))
  obtain ⟨⟨v, c⟩, ⟨hh0, _⟩, hc⟩ := hh
  exact ⟨v, c, hh0, hc⟩
theorem Zji (s : ByteArray) (hs : Zew s = true) : Con Tryz.prog 111 [Sv s] true (Bv true) := by
  have hw := Zdn.1 hs
  have hz := hw.1
  refine Zeb (fn := Tryz.f111) (nt := 18) Tryz.func111 rfl rfl rfl rfl (by simp [Zaj, Zan]) fun B hB => ?_
  refine aR [] [0] [] [Sv s] [] [] hB trivial ?_
  refine Zam ?_
  refine aR [] [0, 3] [] [Sv s, I 0] [] [] hB trivial ?_
  refine Zbo ?_
  refine Zed (fun gn gσ => ∃ (i : Int), gn = ((s.size : Int) - i).toNat ∧ (0 ≤ i ∧ i ≤ (s.size : Int)) ∧ gσ = mkS [(0, Sv s), (3, I i)] []) (((s.size : Int) - 0).toNat) ⟨0, rfl, (by omega), rfl⟩ (fun gn gσ hI => ?_)
  obtain ⟨i, rfl, hi0, rfl⟩ := hI
  refine Zam ?_
  refine Zam ?_
  by_cases h1 : i < (s.size : Int)
  ·have hi : i.toNat < s.size := by omega
   have hlt := hw.2 _ hi
   refine Zbs [(3, .dec true)] [0, 3, 7] [] [Sv s, I i, Bv true] [] [i < (s.size : Int)] hB ⟨h1, trivial⟩ ?_
   refine Zae ?_
   refine Zbg rfl ?_
   refine Zaz ?_
   refine Zae ?_
   refine Zam ?_
   refine Zbo ?_
   refine aR [(3, .call [(true, .any)] true (Bv true))] [0, 3, 14] [] [Sv s, I i, Bv false] [] [(0 : Int) ≤ i ∧ i < (s.size : Int), Con Tryz.prog 163 [.val (.int .u8 (bAt s i.toNat))] true (Bv true) ∧ True] hB ⟨⟨(by omega), (by omega)⟩, ⟨(Zbv hlt (Zhg (bAt s i.toNat))), trivial⟩, trivial⟩ ?_
   refine Zat rfl ?_
   refine Zaz ?_
   refine Zbz 1 ?_
   refine Zae ?_
   refine Zbs [] [0, 3] [] [Sv s, I (i + 1)] [] [inR .i64 (i + 1)] hB ⟨(Zah (by omega) (by omega)), trivial⟩ ?_
   exact Zcc _ (by omega) ⟨(i + 1), rfl, (by omega), rfl⟩
  refine Zbs [(3, .dec false)] [0, 3, 7] [] [Sv s, I i, Bv false] [] [¬ (i < (s.size : Int))] hB ⟨h1, trivial⟩ ?_
  refine Zae ?_
  refine Zat rfl ?_
  refine Zee ?_
  refine Zau ?_
  refine Zau ?_
  refine Zca ?_
  refine Zae ?_
  refine aR [(2, .call [(true, .any), (true, .any), (true, .any)] true (Bv (inB (s.size : Int) 1 10)))] [2] [] [Bv (inB (s.size : Int) 1 10)] [] [Con Tryz.prog 107 [I (s.size : Int), I 1, I 10] true (Bv (inB (s.size : Int) 1 10)) ∧ True] hB ⟨⟨(Zjj (s.size : Int) 1 10), trivial⟩, trivial⟩ ?_
  refine Zba ?_
  refine Zbb hB (Bv (inB (s.size : Int) 1 10)) (by kernel_rfl) (.inl (by first | rfl | (refine congrArg Bv ?_; exact Zgn.2 (by omega)) | (refine congrArg Bv ?_; simp [inB]; omega))) rfl (fun _ => trivial)
theorem l16Ok_ok (lx : Lexicon) (hx : Zci lx) : Con Tryz.prog 57 [.ptr false [Zaa false lx.Entries]] true (Bv true) := by
  have hc := hx.1
  refine Zeb (fn := Tryz.f57) (nt := 60) Tryz.func57 rfl rfl rfl rfl (by simp [Zaj, Zan, Zcf]) fun B hB => ?_
  refine Zea (x := .ptr false [Zaa false lx.Entries]) 0 rfl (fun len_lx => ?_)
  simp [Zfx, Zkq, Zej, Zap, Zaa] at len_lx
  refine aR [] [0] [] [.ptr false [Zaa false lx.Entries]] [] [] hB trivial ?_
  refine Zam ?_
  refine aR [] [0, 3] [] [.ptr false [Zaa false lx.Entries], I 0] [] [] hB trivial ?_
  refine Zbo ?_
  refine Zed (fun gn gσ => ∃ (i : Int), gn = ((lx.Entries.length : Int) - i).toNat ∧ (0 ≤ i ∧ i ≤ (lx.Entries.length : Int)) ∧ gσ = mkS [(0, .ptr false [Zaa false lx.Entries]), (3, I i)] []) (((lx.Entries.length : Int) - 0).toNat) ⟨0, rfl, (by omega), rfl⟩ (fun gn gσ hI => ?_)
  obtain ⟨i, rfl, hi0, rfl⟩ := hI
  refine Zam ?_
  refine Zam ?_
  by_cases h1 : i < (lx.Entries.length : Int)
  ·have hi : i.toNat < lx.Entries.length := by omega
   have hen := hx.2.1 _ (Zcx hi)
   have hed := hen
   refine Zbs [(6, .dec true)] [0, 3, 11] [] [.ptr false [Zaa false lx.Entries], I i, Bv true] [] [i < (lx.Entries.length : Int)] hB ⟨h1, trivial⟩ ?_
   refine Zae ?_
   refine Zbg rfl ?_
   refine Zaz ?_
   refine Zae ?_
   refine Zam ?_
   refine Zbo ?_
   refine aR [] [0, 3, 4] [] [.ptr false [Zaa false lx.Entries], I i, .ptr false [Sv ((at_ lx.Entries i.toNat).Word), I ((at_ lx.Entries i.toNat).Cost)]] [] [(0 : Int) ≤ i ∧ i < (lx.Entries.length : Int)] hB ⟨⟨(by omega), (by omega)⟩, trivial⟩ ?_
   refine Zam ?_
   by_cases h2 : 0 < i
   ·have hpr := Zgq hx.2.2 (show (i - 1).toNat < i.toNat by omega) hi
    have hpa := (cmpN_w.anti _ _).1 hpr
    refine Zbs [(4, .call [(true, .any)] true (Bv true)), (11, .call [(true, .any), (true, .any), (true, .any)] true (Bv true)), (16, .dec true), (31, .dec false)] [0, 3, 53] [] [.ptr false [Zaa false lx.Entries], I i, Bv false] [] [Con Tryz.prog 111 [Sv ((at_ lx.Entries i.toNat).Word)] true (Bv true) ∧ True, Con Tryz.prog 107 [I ((at_ lx.Entries i.toNat).Cost), I 0, I 1000000] true (Bv true) ∧ True, 0 < i, inR .i64 (i - 1), (0 : Int) ≤ (i - 1) ∧ (i - 1) < (lx.Entries.length : Int), ¬ (Zds ((at_ lx.Entries i.toNat).Word) ((at_ lx.Entries ((i - 1).toNat)).Word) = true ∨ ((at_ lx.Entries i.toNat).Word) = ((at_ lx.Entries ((i - 1).toNat)).Word))] hB ⟨⟨(Zji ((at_ lx.Entries i.toNat).Word) hen.1), trivial⟩, ⟨(Zbv (Zgn.2 hen.2) (Zjj ((at_ lx.Entries i.toNat).Cost) 0 1000000)), trivial⟩, h2, (Zah (by omega) (by omega)), ⟨(by omega), (by omega)⟩, (by have q := Zfe.1 (show Zdm _ _ < 0 from hpr); exact fun z => z.elim (fun a => by rw [Zmq q] at a; cases a) (fun a => Ybc q a.symm)), trivial⟩ ?_
    refine Zae ?_
    refine Zat rfl ?_
    refine Zaz ?_
    refine Zbz 1 ?_
    refine Zae ?_
    refine Zbs [] [0, 3] [] [.ptr false [Zaa false lx.Entries], I (i + 1)] [] [inR .i64 (i + 1)] hB ⟨(Zah (by omega) (by omega)), trivial⟩ ?_
    exact Zcc _ (by omega) ⟨(i + 1), rfl, (by omega), rfl⟩
   refine Zbs [(4, .call [(true, .any)] true (Bv true)), (11, .call [(true, .any), (true, .any), (true, .any)] true (Bv true)), (16, .dec false)] [0, 3, 53] [] [.ptr false [Zaa false lx.Entries], I i, Bv false] [] [Con Tryz.prog 111 [Sv ((at_ lx.Entries i.toNat).Word)] true (Bv true) ∧ True, Con Tryz.prog 107 [I ((at_ lx.Entries i.toNat).Cost), I 0, I 1000000] true (Bv true) ∧ True, ¬ (0 < i)] hB ⟨⟨(Zji ((at_ lx.Entries i.toNat).Word) hen.1), trivial⟩, ⟨(Zbv (Zgn.2 hen.2) (Zjj ((at_ lx.Entries i.toNat).Cost) 0 1000000)), trivial⟩, h2, trivial⟩ ?_
   refine Zae ?_
   refine Zat rfl ?_
   refine Zaz ?_
   refine Zbz 1 ?_
   refine Zae ?_
   refine Zbs [] [0, 3] [] [.ptr false [Zaa false lx.Entries], I (i + 1)] [] [inR .i64 (i + 1)] hB ⟨(Zah (by omega) (by omega)), trivial⟩ ?_
   exact Zcc _ (by omega) ⟨(i + 1), rfl, (by omega), rfl⟩
  refine Zbs [(6, .dec false)] [0, 3, 11] [] [.ptr false [Zaa false lx.Entries], I i, Bv false] [] [¬ (i < (lx.Entries.length : Int))] hB ⟨h1, trivial⟩ ?_
  refine Zae ?_
  refine Zat rfl ?_
  refine Zee ?_
  refine Zau ?_
  refine Zau ?_
  refine Zca ?_
  refine Zae ?_
  refine aR [(5, .dec true)] [2] [] [Bv true] [] [(lx.Entries.length : Int) ≤ 60] hB ⟨(by omega), trivial⟩ ?_
  refine Zba ?_
  refine Zbb hB (Bv true) (by kernel_rfl) (.inl rfl) rfl (fun _ => trivial)
theorem Zyb (lx : Lexicon) (word : ByteArray) (hc : lx.Entries.length ≤ 1000) : ∃ (v : Int), ((v = -1 ∧ ∀ j : Nat, j < lx.Entries.length → (at_ lx.Entries j).Word ≠ word) ∨ ((0 ≤ v ∧ v < (lx.Entries.length : Int)) ∧ (at_ lx.Entries v.toNat).Word = word)) ∧ Con Tryz.prog 58 [.ptr false [Zaa false lx.Entries], Sv word] true (I v) := by
  have hh : ∃ r : Int, (((r = -1 ∧ ∀ j : Nat, j < lx.Entries.length → (at_ lx.Entries j).Word ≠ word) ∨ ((0 ≤ r ∧ r < (lx.Entries.length : Int)) ∧ (at_ lx.Entries r.toNat).Word = word)) ∧ (True)) ∧ Zbi Tryz.prog 58 [.ptr false [Zaa false lx.Entries], Sv word] (Zaf []) true (I r) (Zaf []) := by
    refine Zdl (Φ := fun r : Int => ((r = -1 ∧ ∀ j : Nat, j < lx.Entries.length → (at_ lx.Entries j).Word ≠ word) ∨ ((0 ≤ r ∧ r < (lx.Entries.length : Int)) ∧ (at_ lx.Entries r.toNat).Word = word)) ∧ (True)) [] (fun r => []) (fn := Tryz.f58) (nt := 26) Tryz.func58 rfl rfl (args := [.ptr false [Zaa false lx.Entries], Sv word]) rfl (Zbe (.inl ⟨rfl, by simp [Zan, Zaj, Zcf]⟩) (Zbe (.inl ⟨rfl, trivial⟩) Zdj)) (res := fun r => I r) ?_
    refine xR [] [0, 1] [] [.ptr false [Zaa false lx.Entries], Sv word] [] [] trivial ?_
    refine Zar ?_
    refine xR [] [0, 1, 5] [] [.ptr false [Zaa false lx.Entries], Sv word, I 0] [] [] trivial ?_
    refine Zbp ?_
    refine Zel (X := Int) (fun x => mkS [(0, .ptr false [Zaa false lx.Entries]), (1, Sv word), (5, I x)] []) (fun x => (0 ≤ x ∧ x ≤ (lx.Entries.length : Int)) ∧ (∀ j : Nat, (j : Int) < x → (at_ lx.Entries j).Word ≠ word) ∧ True) (fun x => ((lx.Entries.length : Int) - x).toNat) 0 rfl (show (0 ≤ (0 : Int) ∧ (0 : Int) ≤ (lx.Entries.length : Int)) ∧ (∀ j : Nat, (j : Int) < (0 : Int) → (at_ lx.Entries j).Word ≠ word) ∧ True from ⟨(by omega), (by intro j hj; omega), trivial⟩) (fun x hI => ?_)
    obtain ⟨i, hxx⟩ : ∃ i : Int, i = x := ⟨x, rfl⟩
    subst hxx
    obtain ⟨hi0, hno, _⟩ : (0 ≤ i ∧ i ≤ (lx.Entries.length : Int)) ∧ (∀ j : Nat, (j : Int) < i → (at_ lx.Entries j).Word ≠ word) ∧ True := hI
    show XW _ _ _ _ (mkS [(0, .ptr false [Zaa false lx.Entries]), (1, Sv word), (5, I i)] []) _ _
    refine Zar ?_
    refine Zar ?_
    by_cases h1 : i < (lx.Entries.length : Int)
    ·have hi : i.toNat < lx.Entries.length := by omega
     refine x_r [(6, .dec true)] [0, 1, 5, 12] [] [.ptr false [Zaa false lx.Entries], Sv word, I i, Bv true] [] [i < (lx.Entries.length : Int)] ⟨h1, trivial⟩ ?_
     refine Zad ?_
     refine Zcb rfl ?_
     refine Zbk ?_
     refine Zad ?_
     refine Zar ?_
     refine Zbp ?_
     refine Zar ?_
     by_cases h2 : ((at_ lx.Entries i.toNat).Word) = word
     ·refine x_r [(9, .dec true)] [0, 1, 5, 24] [] [.ptr false [Zaa false lx.Entries], Sv word, I i, Bv true] [] [(0 : Int) ≤ i ∧ i < (lx.Entries.length : Int), ((at_ lx.Entries i.toNat).Word) = word] ⟨⟨(by omega), (by omega)⟩, h2, trivial⟩ ?_
      refine Zad ?_
      refine Zcb rfl ?_
      refine xR [] [4] [] [I i] [] [] trivial ?_
      refine Zdh ?_
      refine Zge (Zcl (Zlv (Zge (Zcl ?_))))
      refine Zce i (show ((i = -1 ∧ ∀ j : Nat, j < lx.Entries.length → (at_ lx.Entries j).Word ≠ word) ∨ ((0 ≤ i ∧ i < (lx.Entries.length : Int)) ∧ (at_ lx.Entries i.toNat).Word = word)) ∧ (True) from ⟨(by first | exact .inr ⟨by omega, by assumption⟩ | exact .inl ⟨rfl, fun j hj => hno j (by omega)⟩), trivial⟩) (trivial) (I i) (by kernel_rfl) (.inl rfl) (fun _ => rfl) (fun _ => trivial)
     refine x_r [(9, .dec false)] [0, 1, 5, 24] [] [.ptr false [Zaa false lx.Entries], Sv word, I i, Bv false] [] [(0 : Int) ≤ i ∧ i < (lx.Entries.length : Int), ¬ (((at_ lx.Entries i.toNat).Word) = word)] ⟨⟨(by omega), (by omega)⟩, h2, trivial⟩ ?_
     refine Zad ?_
     refine Zav rfl ?_
     refine Zbk ?_
     refine Zbw 1 ?_
     refine Zad ?_
     refine x_r [] [0, 1, 5] [] [.ptr false [Zaa false lx.Entries], Sv word, I (i + 1)] [] [inR .i64 (i + 1)] ⟨(Zah (by omega) (by omega)), trivial⟩ ?_
     exact Zbm (i + 1) rfl (show (0 ≤ (i + 1) ∧ (i + 1) ≤ (lx.Entries.length : Int)) ∧ (∀ j : Nat, (j : Int) < (i + 1) → (at_ lx.Entries j).Word ≠ word) ∧ True from ⟨(by omega), (by intro j hj; by_cases ej : j = i.toNat; (subst ej; assumption); exact hno j (by omega)), trivial⟩) (by first | (show (((lx.Entries.length : Int) - (i + 1)).toNat : Nat) < ((lx.Entries.length : Int) - i).toNat; omega) | (dsimp only; omega))
    refine x_r [(6, .dec false)] [0, 1, 5, 12] [] [.ptr false [Zaa false lx.Entries], Sv word, I i, Bv false] [] [¬ (i < (lx.Entries.length : Int))] ⟨h1, trivial⟩ ?_
    refine Zad ?_
    refine Zav rfl ?_
    refine Zdo ?_
    refine Zaw ?_
    refine Zbd ?_
    refine Zax ?_
    refine Zad ?_
    refine xR [] [4] [] [I (-1)] [] [] trivial ?_
    refine Zdh ?_
    refine Zce (-1) (show (((-1) = -1 ∧ ∀ j : Nat, j < lx.Entries.length → (at_ lx.Entries j).Word ≠ word) ∨ ((0 ≤ (-1) ∧ (-1) < (lx.Entries.length : Int)) ∧ (at_ lx.Entries (-1).toNat).Word = word)) ∧ (True) from ⟨(by first | exact .inr ⟨by omega, by assumption⟩ | exact .inl ⟨rfl, fun j hj => hno j (by omega)⟩), trivial⟩) (trivial) (I (-1)) (by kernel_rfl) (.inl rfl) (fun _ => rfl) (fun _ => trivial)
  obtain ⟨v, ⟨hh0, _⟩, hc⟩ := hh
  exact ⟨v, hh0, hc⟩
theorem Zkr (lx : Lexicon) (word : ByteArray) (hx : Zci lx) : ∃ (v : Int) (c : Int), ((c = 0 ∧ v = Zvk lx word ∧ ∃ e ∈ lx.Entries, e.Word = word) ∨ (c = 3 ∧ ∀ e ∈ lx.Entries, e.Word ≠ word)) ∧ Con Tryz.prog 20 [.agg [Zaa false lx.Entries], Sv word] true (.tup [I v, I c]) := by
  have hc := hx.1
  have hh : ∃ r : Int × Int, (((r.2 = 0 ∧ r.1 = Zvk lx word ∧ ∃ e ∈ lx.Entries, e.Word = word) ∨ (r.2 = 3 ∧ ∀ e ∈ lx.Entries, e.Word ≠ word)) ∧ (True)) ∧ Zbi Tryz.prog 20 [.agg [Zaa false lx.Entries], Sv word] (Zaf []) true (.tup [I r.1, I r.2]) (Zaf []) := by
    refine Zdl (Φ := fun r : Int × Int => ((r.2 = 0 ∧ r.1 = Zvk lx word ∧ ∃ e ∈ lx.Entries, e.Word = word) ∨ (r.2 = 3 ∧ ∀ e ∈ lx.Entries, e.Word ≠ word)) ∧ (True)) [] (fun r => []) (fn := Tryz.f20) (nt := 19) Tryz.func20 rfl rfl (args := [.agg [Zaa false lx.Entries], Sv word]) rfl (Zbe (.inl ⟨rfl, by simp [Zan, Zaj, Zcf]⟩) (Zbe (.inl ⟨rfl, trivial⟩) Zdj)) (res := fun r => .tup [I r.1, I r.2]) ?_
    refine xR [(0, .new 2)] [1, 2] [2] [Sv word, .ref 2 0] [some (.box [Zaa false lx.Entries])] [] trivial ?_
    refine Zar ?_
    refine xR [(0, .call [(false, .ptr false [Zaa false lx.Entries])] true (Bv true))] [1, 2, 8] [2] [Sv word, .ref 2 0, Bv false] [some (.box [Zaa false lx.Entries])] [Con Tryz.prog 57 [.ptr false [Zaa false lx.Entries]] true (Bv true) ∧ ((false = true → true = true) ∧ AV.idsL [Zaa false lx.Entries] = [] ∧ ((false = true → false = true) ∧ 2 = 2 ∧ lx.Entries.length = lx.Entries.length ∧ ∀ i_, i_ < lx.Entries.length → (Zap lx.Entries) i_ = (Zap lx.Entries) i_ ∨ (AV.idsL ((Zap lx.Entries) i_) = [] ∧ leL (fun _ => none) false ((Zap lx.Entries) i_) ((Zap lx.Entries) i_))) ∧ ([] : List AV) = []) ∧ True] ⟨⟨(l16Ok_ok lx hx), ⟨(fun h => by cases h), rfl, ⟨⟨(fun h => by cases h), rfl, rfl, fun i _ => .inl rfl⟩, rfl⟩⟩, trivial⟩, trivial⟩ ?_
    refine Zav rfl ?_
    refine Zbk ?_
    refine Zad ?_
    refine Zar ?_
    obtain ⟨v_1, hx1_0, hc1⟩ := Zyb lx word (by omega)
    have hfd := hx1_0
    refine x_r [(1, .call [(false, .ptr false [Zaa false lx.Entries]), (true, .any)] true (I v_1))] [2, 6] [2] [.ref 2 0, I v_1] [some (.box [Zaa false lx.Entries])] [Con Tryz.prog 58 [.ptr false [Zaa false lx.Entries], Sv word] true (I v_1) ∧ ((false = true → true = true) ∧ AV.idsL [Zaa false lx.Entries] = [] ∧ ((false = true → false = true) ∧ 2 = 2 ∧ lx.Entries.length = lx.Entries.length ∧ ∀ i_, i_ < lx.Entries.length → (Zap lx.Entries) i_ = (Zap lx.Entries) i_ ∨ (AV.idsL ((Zap lx.Entries) i_) = [] ∧ leL (fun _ => none) false ((Zap lx.Entries) i_) ((Zap lx.Entries) i_))) ∧ ([] : List AV) = []) ∧ True] ⟨⟨hc1, ⟨(fun h => by cases h), rfl, ⟨⟨(fun h => by cases h), rfl, rfl, fun i _ => .inl rfl⟩, rfl⟩⟩, trivial⟩, trivial⟩ ?_
    refine Zad ?_
    refine Zar ?_
    refine Zar ?_
    by_cases h1 : v_1 < 0
    ·refine x_r [(1, .dec true)] [2, 6, 12] [2] [.ref 2 0, I v_1, Bv true] [some (.box [Zaa false lx.Entries])] [v_1 < 0] ⟨h1, trivial⟩ ?_
     refine Zad ?_
     refine Zcb rfl ?_
     refine xR [] [4, 5] [] [I 0, I 3] [] [] trivial ?_
     refine Zdh ?_
     refine Zcl ?_
     refine Zce (0, 3) (show ((3 = 0 ∧ 0 = Zvk lx word ∧ ∃ e ∈ lx.Entries, e.Word = word) ∨ (3 = 3 ∧ ∀ e ∈ lx.Entries, e.Word ≠ word)) ∧ (True) from ⟨(by first | (rcases hfd with q | q; omega; exact .inl ⟨rfl, (Zju hx (by omega) q.2).symm, _, Zcx (by omega), q.2⟩) | (rcases hfd with q | q; (exact .inr ⟨rfl, fun e he z => by obtain ⟨j, hj, q2⟩ := List.getElem_of_mem he; exact q.2 j hj (by rw [Zcz hj, q2]; exact z)⟩); omega)), trivial⟩) (trivial) (.tup [I 0, I 3]) (by kernel_rfl) (.inl rfl) (fun _ => rfl) (fun _ => (by simp [Zan, Zaj]))
    refine x_r [(1, .dec false)] [2, 6, 12] [2] [.ref 2 0, I v_1, Bv false] [some (.box [Zaa false lx.Entries])] [¬ (v_1 < 0)] ⟨h1, trivial⟩ ?_
    refine Zad ?_
    refine Zav rfl ?_
    refine Zbk ?_
    refine Zad ?_
    refine xR [] [4, 5] [] [I ((at_ lx.Entries v_1.toNat).Cost), I 0] [] [(0 : Int) ≤ v_1 ∧ v_1 < (lx.Entries.length : Int)] ⟨⟨(by omega), (by omega)⟩, trivial⟩ ?_
    refine Zdh ?_
    refine Zce ((at_ lx.Entries v_1.toNat).Cost, 0) (show ((0 = 0 ∧ ((at_ lx.Entries v_1.toNat).Cost) = Zvk lx word ∧ ∃ e ∈ lx.Entries, e.Word = word) ∨ (0 = 3 ∧ ∀ e ∈ lx.Entries, e.Word ≠ word)) ∧ (True) from ⟨(by first | (rcases hfd with q | q; omega; exact .inl ⟨rfl, (Zju hx (by omega) q.2).symm, _, Zcx (by omega), q.2⟩) | (rcases hfd with q | q; (exact .inr ⟨rfl, fun e he z => by obtain ⟨j, hj, q2⟩ := List.getElem_of_mem he; exact q.2 j hj (by rw [Zcz hj, q2]; exact z)⟩); omega)), trivial⟩) (trivial) (.tup [I ((at_ lx.Entries v_1.toNat).Cost), I 0]) (by kernel_rfl) (.inl rfl) (fun _ => rfl) (fun _ => (by simp [Zan, Zaj]))
  obtain ⟨⟨v, c⟩, ⟨hh0, _⟩, hc⟩ := hh
  exact ⟨v, c, hh0, hc⟩
theorem Zyv (code : List Int) (hc : (∀ j, j < code.length → 0 ≤ at_ code j ∧ at_ code j ≤ 255) ∧ code.length ≤ 4611686018427387904) : ∃ (v : ByteArray), (Zew v = true) ∧ Con Tryz.prog 21 [Zdf false code] true (Sv v) := by
  have hh : ∃ r : ByteArray, ((Zew r = true) ∧ (True)) ∧ Zbi Tryz.prog 21 [Zdf false code] (Zaf []) true (Sv r) (Zaf []) := by
    refine Zdl (Φ := fun r : ByteArray => (Zew r = true) ∧ (True)) [] (fun r => []) (fn := Tryz.f21) (nt := 7) Tryz.func21 rfl rfl (args := [Zdf false code]) rfl (Zbe (.inl ⟨rfl, Zgz false _⟩) Zdj) (res := fun r => Sv r) ?_
    refine xR [] [0] [] [Zdf false code] [] [] trivial ?_
    refine Zar ?_
    obtain ⟨s'_1, hx1_0, hc1⟩ := Zoj code
    obtain ⟨v_2, hx2_0, hx2_1, hc2⟩ := Zmr
    have hwa := hx2_0
    have hwb := hx2_1
    obtain ⟨v_3, s'_3, hx3_0, hx3_1, hx3_2, hx3_3, hx3_4, hc3⟩ := Zup s'_1 v_2 (by first | assumption | (simp only [Zcq] at *; simp_all; done)) (by omega) hwa
    have hw_v_3 : Zew v_3 = true := hwb _ hx3_4
    refine x_r [(1, .lend [] [(7001, Zab s'_1)] [(true, .any)] false (.ref 7001 0)), (2, .call [] true (slS true v_2)), (3, .lend [(7001, Zab s'_1, Zab s'_3)] [] [(true, .any), (false, slS false v_2)] true (Sv v_3))] [2] [] [Sv v_3] [] [Zbi Tryz.prog 38 [Zdf false code] (Zaf []) false (.ref 7001 0) (Zaf [(7001, Zab s'_1)]) ∧ True, Con Tryz.prog 60 [] true (slS true v_2) ∧ True, Zbi Tryz.prog 59 [.ref 7001 0, slS false v_2] (Zaf [(7001, Zab s'_1)]) true (Sv v_3) (Zaf [(7001, Zab s'_3)]) ∧ ((false = true → true = true) ∧ 1 = 1 ∧ v_2.length = v_2.length ∧ ∀ i_, i_ < v_2.length → (fS v_2) i_ = (fS v_2) i_ ∨ (AV.idsL ((fS v_2) i_) = [] ∧ leL (fun _ => none) false ((fS v_2) i_) ((fS v_2) i_))) ∧ (((Zab s'_1 : Ob) = Zab s'_1 ∨ Zih Zgf true (Zab s'_1) (Zab s'_1)) ∧ Zbu false (Zab s'_1)) ∧ True] ⟨⟨hc1, trivial⟩, ⟨hc2, trivial⟩, ⟨hc3, ⟨(fun h => by cases h), rfl, rfl, fun i _ => .inl rfl⟩, ⟨.inl rfl, (by simp [Zbu, Zaj, Zan, Zgz])⟩, trivial⟩, trivial⟩ ?_
    refine Zad ?_
    refine Zdh ?_
    refine Zce v_3 (show (Zew v_3 = true) ∧ (True) from ⟨(by assumption), trivial⟩) (trivial) (Sv v_3) (by kernel_rfl) (.inl rfl) (fun _ => rfl) (fun _ => trivial)
  obtain ⟨v, ⟨hh0, _⟩, hc⟩ := hh
  exact ⟨v, hh0, hc⟩
theorem Zok (s : List Entry) (hl : s.length ≤ 100000) : ∃ (out : List Entry), (out = s) ∧ Zbi Tryz.prog 64 [Zaa false s] (Zaf []) false (.arr 8681) (Zaf [(8681, .arr 2 out.length (Zap out))]) := by
  refine ⟨s, rfl, ?_⟩
  refine Zyy [] [(8681, .arr 2 s.length (Zap s))] (fn := Tryz.f64) (nt := 8) Tryz.func64 rfl rfl (args := [Zaa false s]) rfl (Zbe (.inl ⟨rfl, Zcf false _⟩) Zdj) (res := .arr 8681) (fun B hB => ?_)
  refine Zam ?_
  refine Zlu [] [0] [] [Zaa false s] [] [] (by kernel_rfl) hB trivial ?_
  refine Zae ?_
  refine Zam ?_
  refine Zam ?_
  refine Zlu [] [0, 4] [] [Zaa false s, .nilq s.length] [] [] (by kernel_rfl) hB trivial ?_
  refine Zae ?_
  refine aw_nilq (n := s.length) rfl (fun h1 => ?_) ?_
  · refine Zam ?_
    refine Zlu [] [2] [] [Zde] [] [] (by kernel_rfl) hB trivial ?_
    refine Zae ?_
    refine Zba ?_
    refine Zaq ?_
    refine ae_nil hB 2 8681 2 (fun _ => []) (by kernel_rfl) ?_
    refine Zhl hB [] (T := [(2, .arr 8681)]) (O := [(8681, .arr 2 s.length (Zap s))]) rfl (⟨.inl rfl, trivial⟩) (⟨.inr ⟨rfl, (by omega), fun i_ hi_ => absurd hi_ (by omega)⟩, trivial⟩) ?_
    refine Zpj hB [(8681, .arr 2 s.length (Zap s))] (⟨.inl rfl, trivial⟩) (.arr 8681) (by kernel_rfl) (.inl rfl) (fun h => by cases h) (fun h => by cases h)
  · refine Zaz ?_
    refine Zae ?_
    refine Zam ?_
    refine Zlu [(0, .new 5), (2, .new 7)] [2] [7] [.arr 7] [some (.arr 2 (0 + s.length) (Zfm 0 (Zgd [] 2) (Zap s)))] [(0 + s.length) * 24 ≤ 140737488355328] (by kernel_rfl) hB ⟨(by omega), trivial⟩ ?_
    refine Zae ?_
    refine Zba ?_
    refine Zhl hB [(8681, 7)] (T := [(2, .arr 8681)]) (O := [(8681, .arr 2 s.length (Zap s))]) rfl (⟨.inl rfl, trivial⟩) (⟨.inr ⟨rfl, (by simp), fun i_ hi_ => .inl (Zlw i_)⟩, trivial⟩) ?_
    refine Zpj hB [(8681, .arr 2 s.length (Zap s))] (⟨.inl rfl, trivial⟩) (.arr 8681) (by kernel_rfl) (.inl rfl) (fun h => by cases h) (fun h => by cases h)
set_option maxHeartbeats 4000000 in
set_option maxRecDepth 100000 in
theorem Zyc (b n c i vb vc : Nat) (cur cur2 : Array Value) (e e2 : TypeId) (cs vs : List Value) (w : World) (hw : w.heap[b]? = some (.cells cur e (0, 0))) (hi : i < n) (hroom : n + 1 ≤ c) (hcc : c * 2 ≤ cur.size) (hcm : c ≤ maxLen) (hvb : vb ≠ b) (hw2 : w.heap[vb]? = some (.cells cur2 e2 (0, 0)))
    (hvc : 1 ≤ vc) (hv2 : vc * 2 ≤ cur2.size) (hcl : cs.length = n * 2) (hvl : vs.length = 2) (hcs : ∀ (t : Nat) (v : Value), cs[t]? = some v → cur[t]? = some v) (hvs : ∀ (t : Nat) (v : Value), vs[t]? = some v → cur2[t]? = some v) (h1c : ∀ v ∈ cs, v.oneCell' = true) (h1v : ∀ v ∈ vs, v.oneCell' = true) :
    Calls Tryz.prog 65 #[.slice (some ⟨b, 0, none⟩) n c, .int .i64 i, .slice (some ⟨vb, 0, none⟩) 1 vc] w (InsPost w b (n + 1) 2 (cs.take (i * 2) ++ vs ++ cs.drop (i * 2))) := by
  have hc63 : c ≤ 9223372036854775807 := by unfold maxLen at hcm; omega
  have hbw : b < w.heap.size := (Array.getElem?_eq_some_iff.1 hw).1
  have hz2 : ¬ ((i : Int) = (n : Int)) := by omega
  have hsz : (Tryz.prog.info? 59).map (·.size) = some 2 := by kernel_rfl
  have hszw : ∀ w, (Go.sizeOf 59).run Tryz.prog w = .ok 2 w := Zbn (by kernel_rfl)
  have hfro : ∀ o, w.frozen? ⟨b, o, none⟩ = false := fun o => Lib.frozen_of_heap hw _
  have hcel : ∀ o, w.cell? ⟨b, o, none⟩ = cur[o]? := fun o => by simp [World.cell?, hw]
  have hcel2 : ∀ o, w.cell? ⟨vb, o, none⟩ = cur2[o]? := fun o => by simp [World.cell?, hw2]
  have hov : ∀ lb cb, (callFunc 116 #[.slice (some ⟨vb, 0, none⟩) 1 vc, .slice (some ⟨b, (i + 1) * 2, none⟩) lb cb]).run Tryz.prog w = .ok (.value (.bool false)) w := fun lb cb => by
    rw [run_callFunc_extern Tryz.func116 (by kernel_rfl) (by kernel_rfl) (by kernel_rfl) (e := Extern.SlicesOverlaps.overlaps #[43, 43] #[4]) (by kernel_rfl),
      Lib.run_overlaps_apart w 43 4 59 Tryz.underlying43 2 hszw ⟨vb, 0, none⟩ ⟨b, (i + 1) * 2, none⟩ 1 vc lb cb hvb e2 e cur2.size cur.size (by simp [World.shape?, hw2]) (by simp [World.shape?, hw]) (by omega) (Lib.frozen_of_heap hw2 _) (Lib.frozen_of_heap hw2 _)]
    rfl
  have hdl : (cs.drop (i * 2)).length = (n - i) * 2 := by rw [List.length_drop, hcl, Nat.sub_mul]
  have mixed : Tryz.prog.follows .mixedOrders = true := by kernel_rfl
  have hw1 : IntKind.i64.wrap ((i : Int) + 1) = (i : Int) + 1 := by rw [IntKind.wrap_i64]; omega
  have hb1 : (0 : Int) ≤ (i : Int) + 1 := by omega
  have hin : i ≤ n := by omega
  have htn : ((i : Int) + 1).toNat = i + 1 := by omega
  have hb2 : ¬ (c = i + 1) := by omega
  have hb3 : (i : Int) ≤ (n : Int) + 1 := by omega
  have hb4 : ¬ (c = i) := by omega
  have hcp1 : ∀ ty dc sc, (Builtin.copy_ #[43, 43] ty #[.slice (some ⟨b, (i + 1) * 2, none⟩) (n - i) dc, .slice (some ⟨b, i * 2, none⟩) (n + 1 - i) sc]).run Tryz.prog w.drew = .ok (goInt (Nat.min (n + 1 - i) (n - i))) (w.drew.setCells b ((i + 1) * 2) (cs.drop (i * 2))) := fun ty dc sc =>
    Zje w.drew _ _ ty 59 2 b ((i + 1) * 2) (n - i) dc ⟨b, i * 2, none⟩ (n + 1 - i) sc (cs.drop (i * 2)) Tryz.underlying43 hsz (by rw [hdl]; congr 1; simp only [Nat.min_def]; split <;> omega)
      (fun j v hj => by rw [Addr.add_lit]; rw [List.getElem?_drop] at hj; exact (hcel _).trans (hcs _ v hj))
      (fun j hj => by rw [show w.drew.cell? _ = w.cell? _ from rfl, hcel, Array.getElem?_eq_getElem (by rw [hdl] at hj; omega)]; rfl) (fun j hj => hfro _) (fun v hv => h1c v (List.mem_of_mem_drop hv))
  obtain ⟨W1, hW1⟩ : ∃ W1, W1 = w.drew.setCells b ((i + 1) * 2) (cs.drop (i * 2)) := ⟨_, rfl⟩
  obtain ⟨c1, a1, a2, a3, a4, a5, a6, a7, a8, a9⟩ := Zdu (cs.drop (i * 2)) b ((i + 1) * 2) cur e w.drew hw (by rw [hdl]; omega)
  rw [← hW1] at hcp1 a1 a5 a6 a7 a8 a9
  have hcp2 : ∀ (W : World), W.heap = W1.heap → ∀ ty dc, (Builtin.copy_ #[43, 43] ty #[.slice (some ⟨b, i * 2, none⟩) (n + 1 - i) dc, .slice (some ⟨vb, 0, none⟩) 1 vc]).run Tryz.prog W = .ok (goInt (Nat.min 1 (n + 1 - i))) (W.setCells b (i * 2) vs) := fun W hWh ty dc =>
    Zje W _ _ ty 59 2 b (i * 2) (n + 1 - i) dc ⟨vb, 0, none⟩ 1 vc vs Tryz.underlying43 hsz (by rw [hvl]; simp only [Nat.min_def]; split <;> omega)
      (fun j v hj => by rw [Addr.add_lit]; simp only [World.cell?, hWh]; rw [a5 vb hvb, show w.drew.heap = w.heap from rfl, hw2]; simpa using hvs j v hj)
      (fun j hj => by simp only [World.cell?, hWh]; rw [a1]; simp; omega) (fun j hj => by simp [World.frozen?, hWh, a1]) h1v
  go_enter Tryz.func65, Tryz.ntmps65
  go_wp2_with (simp only [hov])
  go_region_law_o (refine Zog rfl _ _ 43 43 rfl _ _ (by simp [Act.eval, Act.put]) (by simp [Act.eval, Act.put]) (hcp1 _ _ _) ?_)
  go_wp2_with (at_builtin; refine Zhu _ rfl _ _ 43 43 rfl _ _ rfl rfl (hcp2 _ rfl _ _) ?_)
  go_ret
  obtain ⟨c2, b1, b2, b3, b4, b5, b6, b7, b8, b9⟩ := Zdu vs b (i * 2) c1 e W1 a1 (by rw [hvl, a2]; omega)
  rw [← hW1]
  refine ⟨⟨b, c, c2, e, rfl, .inl rfl, by rw [b6, a6]; exact hbw, fun b' hb' hne => (b5 b' hne).trans (a5 b' hne), b1, by omega, hroom, by rw [b2, a2]; exact hcc, hcm, ?_⟩, b7.trans a7, b8.trans a8, b9.trans a9, by rw [b6, a6]; exact Nat.le_refl _⟩
  exact Yav (by rw [hcl]; omega) hvl hcs (fun j hj => by have := a3 j hj; rwa [show (i + 1) * 2 + j = i * 2 + 2 + j from by omega] at this) (fun j hj => a4 j (.inl (by omega))) b3 b4
set_option maxHeartbeats 4000000 in
set_option maxRecDepth 100000 in
theorem Ybd (b n c vb vc : Nat) (cur cur2 : Array Value) (e e2 : TypeId) (cs vs : List Value) (w : World) (hw : w.heap[b]? = some (.cells cur e (0, 0))) (hroom : n + 1 ≤ c) (hcc : c * 2 ≤ cur.size) (hcm : c ≤ maxLen) (hw2 : w.heap[vb]? = some (.cells cur2 e2 (0, 0)))
    (hcl : cs.length = n * 2) (hvl : vs.length = 2) (hcs : ∀ (t : Nat) (v : Value), cs[t]? = some v → cur[t]? = some v) (hvs : ∀ (t : Nat) (v : Value), vs[t]? = some v → cur2[t]? = some v) (h1v : ∀ v ∈ vs, v.oneCell' = true) :
    Calls Tryz.prog 65 #[.slice (some ⟨b, 0, none⟩) n c, .int .i64 n, .slice (some ⟨vb, 0, none⟩) 1 vc] w (InsPost w b (n + 1) 2 (cs.take (n * 2) ++ vs ++ cs.drop (n * 2))) := by
  have hc63 : c ≤ 9223372036854775807 := by unfold maxLen at hcm; omega
  have hbw : b < w.heap.size := (Array.getElem?_eq_some_iff.1 hw).1
  obtain ⟨i0, hi0, hz0⟩ := Option.map_eq_some_iff.1 (show (Tryz.prog.info? 59).map (fun i => i.size) = some 2 from by kernel_rfl)
  have hsrc : Src Tryz.prog i0.size 43 (.slice (some ⟨vb, 0, none⟩) 1 vc) 1 vs w := by
    rw [hz0]
    exact Src.ofSlice w Tryz.underlying43 ⟨vb, 0, none⟩ 1 vc vs (by omega) (fun j u hj => by rw [Addr.add_lit]; simp only [World.cell?, hw2]; simpa using hvs j u hj) h1v
  have mixed : Tryz.prog.follows .mixedOrders = true := by kernel_rfl
  have hcel : ∀ o, w.cell? ⟨b, o, none⟩ = cur[o]? := fun o => by simp [World.cell?, hw]
  go_enter Tryz.func65, Tryz.ntmps65
  go_wp2_with (at_builtin; refine wpList_append_room_src _ rfl _ _ 43 43 rfl 59 i0 Tryz.underlying43 hi0 b 0 n c rfl _ rfl 1 vs hsrc hroom (fun j hj => by rw [hz0, hcel, Array.getElem?_eq_getElem (by rw [hvl] at hj; omega)]; rfl) (fun j hj => Lib.frozen_of_heap hw _) ?_)
  go_ret
  obtain ⟨c2, b1, b2, b3, b4, b5, b6, b7, b8, b9⟩ := Zdu vs b (n * 2) cur e w hw (by rw [hvl]; omega)
  refine ⟨⟨b, c, c2, e, rfl, .inl rfl, by rw [b6]; exact hbw, fun b' hb' hne => b5 b' hne, b1, by omega, hroom, by rw [b2]; exact hcc, hcm, ?_⟩, b7, b8, b9, by rw [b6]; exact Nat.le_refl _⟩
  exact Yav (by rw [hcl]; omega) hvl hcs (c1 := cur) (fun j hj => by rw [List.length_drop, hcl] at hj; omega) (fun j hj => rfl) b3 b4
theorem Zsw (k : Nat) : (Builtin.zeroCells (Value.agg #[.string ⟨#[]⟩, .int .i64 0]).cells k).size = k * 2 := by simp [Builtin.zeroCells, Value.cells]
set_option maxHeartbeats 4000000 in
set_option maxRecDepth 100000 in
theorem Zol (base : Option Addr) (n c vb vc : Nat) (cur2 : Array Value) (e2 : TypeId) (cs vs : List Value) (w : World) (hnc : n ≤ c) (hroom : c < n + 1) (hn : n ≤ 1000000) (hnil : base = none → n = 0) (hcb : ∀ a, base = some a → ∀ (t : Nat) (v : Value), cs[t]? = some v → w.cell? (a.add t) = some v) (hw2 : w.heap[vb]? = some (.cells cur2 e2 (0, 0)))
    (hcl : cs.length = n * 2) (hvl : vs.length = 2) (hvs : ∀ (t : Nat) (v : Value), vs[t]? = some v → cur2[t]? = some v) (h1v : ∀ v ∈ vs, v.oneCell' = true) (k0 : Nat) :
    Calls Tryz.prog 65 #[.slice base n c, .int .i64 n, .slice (some ⟨vb, 0, none⟩) 1 vc] w (InsPost w k0 (n + 1) 2 (cs.take (n * 2) ++ vs ++ cs.drop (n * 2))) := by
  obtain ⟨i0, hi0, hq0⟩ := Option.map_eq_some_iff.1 (show (Tryz.prog.info? 59).map (fun i => (i.zero, i.size, i.bytes)) = some (some (Value.agg #[.string ⟨#[]⟩, .int .i64 0]), 2, 24) from by kernel_rfl)
  simp only [Prod.mk.injEq] at hq0
  obtain ⟨hz0, hzs, hzb⟩ := hq0
  have hsrc : Src Tryz.prog i0.size 43 (.slice (some ⟨vb, 0, none⟩) 1 vc) 1 vs w := by
    rw [hzs]
    exact Src.ofSlice w Tryz.underlying43 ⟨vb, 0, none⟩ 1 vc vs (by omega) (fun j u hj => by rw [Addr.add_lit]; simp only [World.cell?, hw2]; simpa using hvs j u hj) h1v
  have mixed : Tryz.prog.follows .mixedOrders = true := by kernel_rfl
  have hold : (Builtin.firstCells i0.size n (.slice base n c)).run Tryz.prog w.drew = .ok cs.toArray w.drew := by
    rw [hzs]
    cases base with
    | none =>
      have h0 := hnil rfl
      subst h0
      have hcs0 : cs = [] := List.length_eq_zero_iff.1 (by omega)
      rw [hcs0]
      exact run_firstCells_none w.drew 2 0 0 c
    | some a => exact run_firstCells_some w.drew 2 n a n c cs (by omega) (fun j v hj => hcb a rfl j v hj)
  have hfit : Builtin.nextslicecap (n + 1) c * i0.bytes ≤ 281474976710656 := by rw [hzb]; exact growslice_fits hroom (by omega)
  have hrun : ∀ ty, (Builtin.append_ #[43, 43] ty #[.slice base n c, .slice (some ⟨vb, 0, none⟩) 1 vc]).run Tryz.prog w = _ := fun ty =>
    run_append_grow_src w 43 43 ty 59 i0 _ Tryz.underlying43 hi0 hz0 base n c cs hold _ 1 vs hsrc hroom (by omega) hfit
  have hG1 := grownCap_ge w (n + 1) c 59
  have hG2 := grownCap_le_maxLen w (n + 1) c 59 (by unfold maxLen; omega)
  have hfin : InsPost w k0 (n + 1) 2 (cs.take (n * 2) ++ vs ++ cs.drop (n * 2)) (.returned (.slice (some ⟨w.heap.size, 0, none⟩) (n + 1) (grownCap w (n + 1) c 59))) (w.drew.alloc (.cells ((cs ++ vs).toArray ++ Builtin.zeroCells (Value.agg #[.string ⟨#[]⟩, .int .i64 0]).cells (grownCap w (n + 1) c 59 - (n + 1))) 59)) := by
    refine ⟨⟨w.heap.size, _, _, 59, rfl, .inr rfl, by simp, fun b' hb' hne => Go.heap_alloc_old w.drew _ hb', heap_alloc_new w.drew _, by omega, hG1, ?_, hG2, fun t v h => ?_⟩, rfl, rfl, rfl, by simp⟩
    · rw [Array.size_append, Zsw]; simp only [List.size_toArray, List.length_append, hcl, hvl]; omega
    · rw [show cs.take (n * 2) = cs from List.take_of_length_le (by omega), show cs.drop (n * 2) = [] from List.drop_of_length_le (by omega), List.append_nil] at h
      rw [Array.getElem?_append_left (by simpa using (List.getElem?_eq_some_iff.1 h).1)]
      simpa using h
  go_enter Tryz.func65, Tryz.ntmps65
  cases base with
  | none =>
    have h0 := hnil rfl
    subst h0
    go_wp2_with (at_builtin; refine Lib.wpList_append_run _ rfl _ _ _ _ rfl _ _ rfl rfl _ _ (hrun _) ?_)
    go_ret
    exact hfin
  | some a =>
    obtain ⟨ab, ao, asp⟩ := a
    go_wp2_with (at_builtin; refine Lib.wpList_append_run _ rfl _ _ _ _ rfl _ _ rfl rfl _ _ (hrun _) ?_)
    all_goals (go_ret; exact hfin)
set_option maxHeartbeats 4000000 in
set_option maxRecDepth 100000 in
theorem Ybe (b n c i vb vc : Nat) (cur cur2 : Array Value) (e e2 : TypeId) (cs vs : List Value) (w : World) (hw : w.heap[b]? = some (.cells cur e (0, 0))) (hi : i < n) (hnc : n ≤ c) (hroom : c < n + 1) (hn : n ≤ 1000000) (hcc : c * 2 ≤ cur.size) (hw2 : w.heap[vb]? = some (.cells cur2 e2 (0, 0)))
    (hcl : cs.length = n * 2) (hvl : vs.length = 2) (hcs : ∀ (t : Nat) (v : Value), cs[t]? = some v → cur[t]? = some v) (hvs : ∀ (t : Nat) (v : Value), vs[t]? = some v → cur2[t]? = some v) (h1c : ∀ v ∈ cs, v.oneCell' = true) (h1v : ∀ v ∈ vs, v.oneCell' = true) :
    Calls Tryz.prog 65 #[.slice (some ⟨b, 0, none⟩) n c, .int .i64 i, .slice (some ⟨vb, 0, none⟩) 1 vc] w (InsPost w b (n + 1) 2 (cs.take (i * 2) ++ vs ++ cs.drop (i * 2))) := by
  obtain ⟨i0, hi0, hq0⟩ := Option.map_eq_some_iff.1 (show (Tryz.prog.info? 59).map (fun i => (i.zero, i.size, i.bytes)) = some (some (Value.agg #[.string ⟨#[]⟩, .int .i64 0]), 2, 24) from by kernel_rfl)
  simp only [Prod.mk.injEq] at hq0
  obtain ⟨hz0, hzs, hzb⟩ := hq0
  have mixed : Tryz.prog.follows .mixedOrders = true := by kernel_rfl
  have hz2 : ¬ ((i : Int) = (n : Int)) := by omega
  have hz3 : (c : Int) < (n : Int) + 1 := by omega
  have hsz : (Tryz.prog.info? 59).map (·.size) = some 2 := by rw [hi0]; simp [hzs]
  have hbw : b < w.heap.size := (Array.getElem?_eq_some_iff.1 hw).1
  have hvw : vb < w.heap.size := (Array.getElem?_eq_some_iff.1 hw2).1
  have hcel : ∀ o, w.cell? ⟨b, o, none⟩ = cur[o]? := fun o => by simp [World.cell?, hw]
  have hkk : (n : Int) + 1 - (i : Int) = ((n + 1 - i : Nat) : Int) := by omega
  have hik : i + (n + 1 - i) = n + 1 := by omega
  have htl : (cs.take (i * 2)).length = i * 2 := by rw [List.length_take]; omega
  have hold : (Builtin.firstCells i0.size i (.slice (some ⟨b, 0, none⟩) i c)).run Tryz.prog w.drew = .ok (cs.take (i * 2)).toArray w.drew := by
    rw [hzs]
    exact run_firstCells_some w.drew 2 i ⟨b, 0, none⟩ i c (cs.take (i * 2)) htl (fun j v hj => by
      rw [Addr.add_lit, Nat.zero_add]
      have hjl := (List.getElem?_eq_some_iff.1 hj).1
      rw [List.getElem?_take, if_pos (by omega)] at hj
      exact (hcel _).trans (hcs j v hj))
  obtain ⟨G, hG⟩ : ∃ G, G = grownCap w (n + 1) c 59 := ⟨_, rfl⟩
  have hGn : n + 1 ≤ G := by rw [hG]; exact grownCap_ge w _ _ _
  have hGm : G ≤ maxLen := by rw [hG]; exact grownCap_le_maxLen w (n + 1) c 59 (by unfold maxLen; omega)
  have hG63 : G ≤ 9223372036854775807 := by unfold maxLen at hGm; omega
  obtain ⟨ROW, hROW⟩ : ∃ ROW : Array Value, ROW = (cs.take (i * 2)).toArray ++ Builtin.zeroCells (Value.agg #[.string ⟨#[]⟩, .int .i64 0]).cells (n + 1 - i) ++ Builtin.zeroCells (Value.agg #[.string ⟨#[]⟩, .int .i64 0]).cells (G - (n + 1)) := ⟨_, rfl⟩
  have hfit : Builtin.nextslicecap (n + 1) c * i0.bytes ≤ 281474976710656 := by rw [hzb]; exact growslice_fits hroom (by omega)
  have hrz : ∀ ty, (Builtin.append_ #[43, 3] ty #[.slice (some ⟨b, 0, none⟩) i c, .int .i64 ((n : Int) + 1 - (i : Int))]).run Tryz.prog w =
      .ok (.slice (some ⟨w.heap.size, 0, none⟩) (n + 1) G) (w.drew.alloc (.cells ROW 59)) := fun ty => by
    have h := Lib.run_append_grow_zeros w 43 3 ty 59 i0 _ .i64 .i64 Tryz.underlying43 Tryz.underlying3 hi0 hz0 (some ⟨b, 0, none⟩) i c (cs.take (i * 2)) hold (n + 1 - i) (by omega) (by omega) (by omega) (by omega) (by rw [hzb]; omega) (by rw [hik]; exact hfit)
    rw [hik, ← hG, ← hROW] at h
    rw [hkk]
    exact h
  have hRl : ROW.size = G * 2 := by rw [hROW]; simp only [Array.size_append, Zsw, List.size_toArray, htl]; omega
  have hR0 : ∀ j, j < i * 2 → ROW[j]? = cs[j]? := fun j hj => by
    rw [hROW, Array.append_assoc, Array.getElem?_append_left (by simpa [htl] using hj)]
    simp only [List.getElem?_toArray]
    rw [List.getElem?_take, if_pos hj]
  obtain ⟨W1, hW1⟩ : ∃ W1, W1 = w.drew.alloc (.cells ROW 59) := ⟨_, rfl⟩
  rw [← hW1] at hrz
  have g1 : W1.heap[w.heap.size]? = some (.cells ROW 59 (0, 0)) := by rw [hW1]; exact heap_alloc_new w.drew _
  have g2 : ∀ k, k < w.heap.size → W1.heap[k]? = w.heap[k]? := fun k hk => by rw [hW1]; exact Go.heap_alloc_old w.drew _ hk
  have g3 : W1.heap.size = w.heap.size + 1 := by rw [hW1]; exact World.size_alloc _ _
  obtain ⟨c1, a1, a2, a3, a4, a5, a6, a7, a8, a9⟩ := Zdu vs w.heap.size (i * 2) ROW 59 W1 g1 (by rw [hvl, hRl]; omega)
  have hcpA : ∀ (W : World), W.heap = W1.heap → ∀ ty dc, (Builtin.copy_ #[43, 43] ty #[.slice (some ⟨w.heap.size, i * 2, none⟩) (n + 1 - i) dc, .slice (some ⟨vb, 0, none⟩) 1 vc]).run Tryz.prog W = .ok (goInt (Nat.min 1 (n + 1 - i))) (W.setCells w.heap.size (i * 2) vs) := fun W hWh ty dc =>
    Zje W _ _ ty 59 2 w.heap.size (i * 2) (n + 1 - i) dc ⟨vb, 0, none⟩ 1 vc vs Tryz.underlying43 hsz (by rw [hvl]; simp only [Nat.min_def]; split <;> omega)
      (fun j v hj => by rw [Addr.add_lit]; simp only [World.cell?, hWh]; rw [g2 vb hvw, hw2]; simpa using hvs j v hj)
      (fun j hj => by simp only [World.cell?, hWh]; rw [g1]; simp; omega) (fun j hj => by simp [World.frozen?, hWh, g1]) h1v
  have hdl : (cs.drop (i * 2)).length = (n - i) * 2 := by rw [List.length_drop, hcl, Nat.sub_mul]
  have hcpB : ∀ (W : World), W.heap = (W1.setCells w.heap.size (i * 2) vs).heap → ∀ ty dc sc, (Builtin.copy_ #[43, 43] ty #[.slice (some ⟨w.heap.size, (i + 1) * 2, none⟩) (n - i) dc, .slice (some ⟨b, i * 2, none⟩) (n - i) sc]).run Tryz.prog W = .ok (goInt (Nat.min (n - i) (n - i))) (W.setCells w.heap.size ((i + 1) * 2) (cs.drop (i * 2))) := fun W hWh ty dc sc =>
    Zje W _ _ ty 59 2 w.heap.size ((i + 1) * 2) (n - i) dc ⟨b, i * 2, none⟩ (n - i) sc (cs.drop (i * 2)) Tryz.underlying43 hsz (by rw [hdl]; congr 1; simp only [Nat.min_def]; split <;> omega)
      (fun j v hj => by
        rw [Addr.add_lit]; simp only [World.cell?, hWh]; rw [a5 b (by omega), g2 b hbw, hw]
        rw [List.getElem?_drop] at hj
        simpa using hcs _ v hj)
      (fun j hj => by simp only [World.cell?, hWh]; rw [a1]; simp; omega) (fun j hj => by simp [World.frozen?, hWh, a1]) (fun v hv => h1c v (List.mem_of_mem_drop hv))
  have hGi : ¬ (G = i) := by omega
  have hGim : ¬ (G = i + 1) := by omega
  have hci : ¬ (c = i) := by omega
  have hw1 : IntKind.i64.wrap ((i : Int) + 1) = (i : Int) + 1 := by rw [IntKind.wrap_i64]; omega
  have hb1 : (0 : Int) ≤ (i : Int) + 1 := by omega
  have hin : i ≤ n := by omega
  have htn : ((i : Int) + 1).toNat = i + 1 := by omega
  have hb3 : (i : Int) ≤ (n : Int) := by omega
  clear hkk hik hold hROW hG hfit
  subst hW1
  have hE1 : ((w.alloc (.cells ROW 59)).drew).heap = (w.drew.alloc (.cells ROW 59)).heap := rfl
  have hF1 : (((w.alloc (.cells ROW 59)).drew.setCells w.heap.size (i * 2) vs).drew).heap = ((w.drew.alloc (.cells ROW 59)).setCells w.heap.size (i * 2) vs).heap := rfl
  go_enter Tryz.func65, Tryz.ntmps65
  go_wp2_with (first
    | (at_builtin; refine Lib.wpList_append_run _ rfl _ _ _ _ rfl _ _ rfl rfl _ _ (hrz _) ?_)
    | (at_builtin; refine Zhu _ rfl _ _ 43 43 rfl _ _ rfl rfl (hcpA _ hE1 _ _) ?_)
    | (at_builtin; refine Zhu _ rfl _ _ 43 43 rfl _ _ rfl rfl (hcpB _ rfl _ _ _) ?_))
  go_region_law_o (refine Zog rfl _ _ 43 43 rfl (.slice (some ⟨w.heap.size, (i + 1) * 2, none⟩) (n - i) (G - (i + 1))) (.slice (some ⟨b, i * 2, none⟩) (n - i) (c - i)) (by simp [Act.eval, Act.put]) (by simp [Act.eval, Act.put]) (hcpB _ hF1 3 (G - (i + 1)) (c - i)) ?_)
  go_wp2
  go_ret
  obtain ⟨c2, b1, b2, b3, b4, b5, b6, b7, b8, b9⟩ := Zdu (cs.drop (i * 2)) w.heap.size ((i + 1) * 2) c1 59 ((((w.alloc (.cells ROW 59)).drew).setCells w.heap.size (i * 2) vs).drew) a1 (by rw [hdl, a2, hRl]; omega)
  refine ⟨⟨w.heap.size, G, c2, 59, rfl, .inr rfl, by rw [b6]; show w.heap.size < ((w.drew.alloc (.cells ROW 59)).setCells w.heap.size (i * 2) vs).heap.size; rw [a6, g3]; omega, fun b' hb' hne => (b5 b' hne).trans ((a5 b' hne).trans (g2 b' hb')), b1, by omega, hGn, by rw [b2, a2, hRl]; exact Nat.le_refl _, hGm, ?_⟩, b7.trans a7, b8.trans a8, b9.trans a9, by rw [b6]; show w.heap.size ≤ ((w.drew.alloc (.cells ROW 59)).setCells w.heap.size (i * 2) vs).heap.size; rw [a6, g3]; omega⟩
  refine ins_row2 (by rw [hcl]; omega) hvl (fun j hj => ?_) (fun j hj => ?_) (fun j hj => ?_)
  · rw [b4 j (.inl (by omega)), a4 j (.inl hj), hR0 j hj]
  · rw [b4 (i * 2 + j) (.inl (by omega)), a3 j (by omega)]
  · have := b3 j hj
    rwa [show (i + 1) * 2 + j = i * 2 + 2 + j from by omega] at this
def Zsx (x : Entry) : List Value := [.string x.Word, .int .i64 x.Cost]
theorem insN_ok (xs : List Entry) (i : Int) (ys : List Entry) (hi : 0 ≤ i ∧ i ≤ (xs.length : Int)) (hy : ys.length = 1) (hl : xs.length ≤ 1000) : ∃ v : List Entry, (v = xs.take i.toNat ++ ys ++ xs.drop i.toNat) ∧ Zxi Tryz.prog 65 [] [.arr 8690, I i, .arr 8692] (Zaf [(8690, .arr 2 xs.length (Zap xs)), (8692, .arr 2 ys.length (Zap ys))]) false (.arr 8691) (Zaf [(8691, .arr 2 v.length (Zap v))]) := by
  have hk : ∀ x : Entry, (Zsx x).length = 2 := fun _ => rfl
  have h1 : ∀ x : Entry, ∀ v ∈ Zsx x, v.oneCell' = true := fun x v hv => by simp only [Zsx, List.mem_cons, List.not_mem_nil, or_false] at hv; rcases hv with rfl | rfl <;> rfl
  have hb : ∀ x : Entry, ∀ v ∈ Zsx x, blk v = none := fun x v hv => by simp only [Zsx, List.mem_cons, List.not_mem_nil, or_false] at hv; rcases hv with rfl | rfl <;> rfl
  have h1L : ∀ zs : List Entry, ∀ v ∈ Zcu Zsx zs, v.oneCell' = true := fun zs v hv => by
    obtain ⟨x, _, hx⟩ := List.mem_flatMap.1 hv
    exact h1 x v hx
  refine ⟨_, rfl, Yax hk (by decide) h1 hb hi (by omega) (fun k c cur e w vb vc cur2 e2 hw h0 hn hcc hcm hcs hvb hw2 h0v hyv hv2 hvs => ?_) (fun A w vb vc cur2 e2 hx hw2 h0v hyv hv2 hvs => ?_) 8690 8692 8691 (by decide) (fun p _ => rfl) (fun p _ => rfl) (fun p _ => rfl)⟩
  · obtain ⟨m, rfl⟩ : ∃ m : Nat, i = (m : Int) := ⟨i.toNat, by omega⟩
    rw [Int.toNat_natCast, Yaw hk xs ys m (by omega), hy]
    have hcl := Zfc hk xs
    have hvl : (Zcu Zsx ys).length = 2 := by rw [Zfc hk, hy]
    rw [hy] at hyv
    by_cases hmn : m = xs.length
    · subst hmn
      by_cases hr : xs.length + 1 ≤ c
      · exact Ybd k xs.length c vb vc cur cur2 e e2 _ _ w hw hr hcc hcm hw2 hcl hvl hcs hvs (h1L ys)
      · exact Zol (some ⟨k, 0, none⟩) xs.length c vb vc cur2 e2 _ _ w hn (by omega) (by omega) (fun q => by cases q) (fun a ha t v ht => by cases ha; rw [Addr.add_lit, Nat.zero_add]; simpa [World.cell?, hw] using hcs t v ht) hw2 hcl hvl hvs (h1L ys) k
    · by_cases hr : xs.length + 1 ≤ c
      · exact Zyc k xs.length c m vb vc cur cur2 e e2 _ _ w hw (by omega) hr hcc hcm hvb hw2 hyv hv2 hcl hvl hcs hvs (h1L xs) (h1L ys)
      · exact Ybe k xs.length c m vb vc cur cur2 e e2 _ _ w hw (by omega) hn (by omega) (by omega) hcc hw2 hcl hvl hcs hvs (h1L xs) (h1L ys)
  · have hi0 : i = ((0 : Nat) : Int) := by rw [hx] at hi; simp at hi; omega
    have hvl : (Zcu Zsx ys).length = 2 := by rw [Zfc hk, hy]
    have := Zol A 0 0 vb vc cur2 e2 [] _ w (Nat.le_refl _) (by decide) (by decide) (fun _ => rfl) (fun a _ t v ht => by simp at ht) hw2 rfl hvl hvs (h1L ys) w.heap.size
    rw [hi0, hy]
    simpa using this
theorem Ztt (x : Lexicon) (e : Entry) (hx : Zci x) (he : Zoz e) (h60 : x.Entries.length < 60) : ∃ (v : Lexicon) (c : Int), (Zci v) ∧ (e ∈ v.Entries) ∧ (c = 0) ∧ Con Tryz.prog 22 [.agg [Zaa false x.Entries], Zgo e] true (.tup [.agg [Zaa true v.Entries], I c]) := by
  have hc := hx.1
  have hew := (Zdn.1 he.1).1
  have hec := he.2
  have hh : ∃ r : Lexicon × Int, ((Zci r.1) ∧ (e ∈ r.1.Entries) ∧ (r.2 = 0) ∧ (True)) ∧ Zbi Tryz.prog 22 [.agg [Zaa false x.Entries], Zgo e] (Zaf []) true (.tup [.agg [Zaa true r.1.Entries], I r.2]) (Zaf []) := by
    refine Zdl (Φ := fun r : Lexicon × Int => (Zci r.1) ∧ (e ∈ r.1.Entries) ∧ (r.2 = 0) ∧ (True)) [] (fun r => []) (fn := Tryz.f22) (nt := 57) Tryz.func22 rfl rfl (args := [.agg [Zaa false x.Entries], Zgo e]) rfl (Zbe (.inl ⟨rfl, by simp [Zan, Zaj, Zcf]⟩) (Zbe (.inl ⟨rfl, by simp [Zan, Zaj]⟩) Zdj)) (res := fun r => .tup [.agg [Zaa true r.1.Entries], I r.2]) ?_
    refine xR [(0, .new 2), (1, .new 3), (2, .new 4)] [2, 3, 4] [2, 3, 4] [.ref 2 0, .ref 3 0, .ref 4 0] [some (.box [Zaa false x.Entries]), some (Zcy e), some (.box [Zde])] [] trivial ?_
    refine Zar ?_
    refine Zbp ?_
    refine xR [(1, .call [(true, .any)] true (Bv true))] [2, 3, 4, 9] [2, 3, 4] [.ref 2 0, .ref 3 0, .ref 4 0, Bv false] [some (.box [Zaa false x.Entries]), some (Zcy e), some (.box [Zde])] [Con Tryz.prog 51 [.agg [Zaa false x.Entries]] true (Bv true) ∧ True] ⟨⟨(Zdi x hx), trivial⟩, trivial⟩ ?_
    refine Zav rfl ?_
    refine xR [(2, .call [(true, .any)] true (Bv true))] [2, 3, 4, 14] [2, 3, 4] [.ref 2 0, .ref 3 0, .ref 4 0, Bv false] [some (.box [Zaa false x.Entries]), some (Zcy e), some (.box [Zde])] [Con Tryz.prog 61 [Sv e.Word] true (Bv true) ∧ True] ⟨⟨(Zbv he.1 (Zms e.Word (by omega))), trivial⟩, trivial⟩ ?_
    refine Zav rfl ?_
    refine xR [(2, .call [(true, .any)] true (Bv true))] [2, 3, 4, 20] [2, 3, 4] [.ref 2 0, .ref 3 0, .ref 4 0, Bv false] [some (.box [Zaa false x.Entries]), some (Zcy e), some (.box [Zde])] [Con Tryz.prog 62 [I e.Cost] true (Bv true) ∧ True] ⟨⟨(Zbv (Zgn.2 (by omega)) (Zjk e.Cost)), trivial⟩, trivial⟩ ?_
    refine Zav rfl ?_
    refine Zbk ?_
    refine Zbw 0 ?_
    refine Zad ?_
    refine Zar ?_
    obtain ⟨pl_1, found_1, hx1_0, hx1_1, hx1_2, hx1_3, hx1_4, hc1⟩ := Zia x e.Word hx
    have hb0 := hx1_0
    have hb1 := hx1_1
    have hb2 := hx1_2
    have hlo := hx1_3
    have hhi := hx1_4
    refine x_r [(3, .call [(true, .any), (true, .any)] true (.tup [I pl_1, Bv found_1]))] [2, 3, 4, 6, 7] [2, 3, 4] [.ref 2 0, .ref 3 0, .ref 4 0, I pl_1, Bv found_1] [some (.box [Zaa false x.Entries]), some (Zcy e), some (.box [Zde])] [Con Tryz.prog 63 [.agg [Zaa false x.Entries], Sv e.Word] true (.tup [I pl_1, Bv found_1]) ∧ True] ⟨⟨hc1, trivial⟩, trivial⟩ ?_
    refine Zad ?_
    refine Zar ?_
    obtain ⟨out_2, hx2_0, hc2⟩ := Zok x.Entries (by omega)
    have hcl : out_2 = x.Entries := hx2_0
    have hcll : out_2.length = x.Entries.length := by rw [hcl]
    refine x_r [(2, .lend [] [(8681, Zbl out_2)] [(true, .any)] false (.arr 8681)), (4, .new 8)] [2, 3, 4, 6, 7, 8] [2, 3, 4, 8, 8681] [.ref 2 0, .ref 3 0, .ref 4 0, I pl_1, Bv found_1, .ref 8 0] [some (.box [Zaa false x.Entries]), some (Zcy e), some (.box [Zde]), some (.box [.arr 8681]), some (Zbl out_2)] [Zbi Tryz.prog 64 [Zaa false x.Entries] (Zaf []) false (.arr 8681) (Zaf [(8681, Zbl out_2)]) ∧ True] ⟨⟨hc2, trivial⟩, trivial⟩ ?_
    refine Zad ?_
    refine Zar ?_
    refine xR [] [2, 3, 4, 6, 8, 37] [2, 3, 4, 8, 8681] [.ref 2 0, .ref 3 0, .ref 4 0, I pl_1, .ref 8 0, Bv found_1] [some (.box [Zaa false x.Entries]), some (Zcy e), some (.box [Zde]), some (.box [.arr 8681]), some (Zbl out_2)] [] trivial ?_
    rcases Bool.eq_false_or_eq_true found_1 with h1 | h1
    ·refine Zcb (congrArg Bv h1) ?_
     refine Zar ?_
     have hb3 := hb1 (by first | assumption | rfl)
     have hb4 := hb3.1
     refine x_r [] [4, 8] [4, 8, 8681] [.ref 4 0, .ref 8 0] [some (.box [Zde]), some (.box [.arr 8681]), some (.arr 2 out_2.length (fun q => bif Nat.beq q pl_1.toNat then [Sv e.Word, I e.Cost] else (Zap out_2) q))] [(0 : Int) ≤ pl_1 ∧ pl_1 < (out_2.length : Int), pl_1.toNat < out_2.length] ⟨⟨(by omega), (by omega)⟩, (by omega), trivial⟩ ?_
     refine Zad ?_
     refine xR [] [4, 5] [4, 8681] [.ref 4 0, I 0] [some (.box [.arr 8681]), some (.arr 2 out_2.length (fun q => bif Nat.beq q pl_1.toNat then [Sv e.Word, I e.Cost] else (Zap out_2) q))] [] trivial ?_
     refine Zdh ?_
     refine Zcl ?_
     refine Zce ((Lexicon.mk (out_2.set pl_1.toNat e)), 0) (show (Zci (Lexicon.mk (out_2.set pl_1.toNat e))) ∧ (e ∈ (Lexicon.mk (out_2.set pl_1.toNat e)).Entries) ∧ (0 = 0) ∧ (True) from ⟨(by first | (rw [hcl]; exact Zsy hx he (by omega) hb3.2) | (rw [hins, hcl]; exact Ybf hx he h60 (by omega) (fun j hj => hlo j (by omega)) (fun j h1 h2 => hhi j (by omega) h2) hb5)), (by first | (rw [hins]; exact Zep.2 (.inl rfl)) | (exact Zom (by rw [hcll]; omega))), (by rfl), trivial⟩) (trivial) (.tup [.agg [.arr 8681], I 0]) (by kernel_rfl) (.inr ⟨⟨⟨(fun _ => rfl), rfl, (by first | rfl | (simp; done) | (simp; omega) | omega), fun i_ hi_ => .inl (Zhc (enc := Zej) rfl i_ hi_)⟩, rfl⟩, ⟨rfl, rfl⟩⟩) (fun _ => rfl) (fun _ => (by simp [Zan, Zaj, Zcf]))
    refine Zav (congrArg Bv h1) ?_
    refine Zbk ?_
    refine Zad ?_
    refine Zar ?_
    refine Zar ?_
    have hb5 := hb2 (by first | assumption | rfl | simp_all)
    refine x_r [(3, .dec false)] [3, 4, 6, 8, 47] [3, 4, 8, 8681] [.ref 3 0, .ref 4 0, I pl_1, .ref 8 0, Bv false] [some (Zcy e), some (.box [Zde]), some (.box [.arr 8681]), some (Zbl out_2)] [¬ (60 ≤ (x.Entries.length : Int))] ⟨(by omega), trivial⟩ ?_
    refine Zad ?_
    refine Zav rfl ?_
    refine Zbk ?_
    refine Zad ?_
    refine Zar ?_
    refine Zek [(8690, 8681)] (T := [(3, .ref 3 0), (4, .ref 4 0), (6, I pl_1), (8, .ref 8 0), (47, Bv false)]) (O := [(3, Zcy e), (4, .box [Zde]), (8, .box [.arr 8690]), (8690, Zbl out_2)]) rfl (⟨.inl rfl, .inl rfl, .inl rfl, .inl rfl, .inl rfl, trivial⟩) (⟨.inl rfl, .inl rfl, .inl rfl, .inl rfl, trivial⟩) ?_
    obtain ⟨v_3, hx3_0, hc3⟩ := insN_ok out_2 pl_1 ([e]) (by rw [hcll]; exact hb0) rfl (by omega)
    have hins := hx3_0
    refine x_r [(4, .new 8692), (5, .lendc [] [(8690, Zbl out_2), (8692, Zbl ([e]))] [(8691, Zbl v_3)] [(true, .any), (true, .any), (true, .any)] false (.arr 8691))] [4, 8] [4, 8, 8691] [.ref 4 0, .ref 8 0] [some (.box [Zde]), some (.box [.arr 8691]), some (Zbl v_3)] [Zxi Tryz.prog 65 [] [.arr 8690, I pl_1, .arr 8692] (Zaf [(8690, Zbl out_2), (8692, Zbl ([e]))]) false (.arr 8691) (Zaf [(8691, Zbl v_3)]) ∧ (((Zbl out_2 : Ob) = Zbl out_2 ∨ Zih Zgf true (Zbl out_2) (Zbl out_2)) ∧ Zbu false (Zbl out_2)) ∧ (((.arr 2 1 (Zgd [Sv e.Word, I e.Cost] 2) : Ob) = Zbl ([e]) ∨ Zih Zgf true (.arr 2 1 (Zgd [Sv e.Word, I e.Cost] 2)) (Zbl ([e]))) ∧ Zbu false (Zbl ([e]))) ∧ True] ⟨⟨hc3, ⟨.inl rfl, fun _ _ => Zmt false _⟩, ⟨.inr ⟨rfl, (by first | rfl | (simp; done) | (simp; omega) | omega), fun i_ hi_ => .inl (match i_, hi_ with | 0, _ => rfl | (i + 1), h => absurd h (by simp))⟩, fun _ _ => Zmt false _⟩, trivial⟩, trivial⟩ ?_
    refine Zad ?_
    refine xR [] [4, 5] [4, 8691] [.ref 4 0, I 0] [some (.box [.arr 8691]), some (Zbl v_3)] [] trivial ?_
    refine Zdh ?_
    refine Zce ((Lexicon.mk v_3), 0) (show (Zci (Lexicon.mk v_3)) ∧ (e ∈ (Lexicon.mk v_3).Entries) ∧ (0 = 0) ∧ (True) from ⟨(by first | (rw [hcl]; exact Zsy hx he (by omega) hb3.2) | (rw [hins, hcl]; exact Ybf hx he h60 (by omega) (fun j hj => hlo j (by omega)) (fun j h1 h2 => hhi j (by omega) h2) hb5)), (by first | (rw [hins]; exact Zep.2 (.inl rfl)) | (exact Zom (by rw [hcll]; omega))), (by rfl), trivial⟩) (trivial) (.tup [.agg [.arr 8691], I 0]) (by kernel_rfl) (.inr ⟨⟨⟨(fun _ => rfl), rfl, rfl, fun i _ => .inl rfl⟩, rfl⟩, ⟨rfl, rfl⟩⟩) (fun _ => rfl) (fun _ => (by simp [Zan, Zaj, Zcf]))
  obtain ⟨⟨v, c⟩, ⟨hh0, hh1, hh2, _⟩, hc⟩ := hh
  exact ⟨v, c, hh0, hh1, hh2, hc⟩
theorem Zkh (x : Lexicon) (word : ByteArray) (hx : Zci x) : ∃ (v : Int) (c : Int), ((c = 0 ∧ v = Zvk x word ∧ ∃ e ∈ x.Entries, e.Word = word) ∨ (c = 3 ∧ ∀ e ∈ x.Entries, e.Word ≠ word)) ∧ Con Tryz.prog 23 [.agg [Zaa false x.Entries], Sv word] true (.tup [I v, I c]) := by
  have hc := hx.1
  have hh : ∃ r : Int × Int, (((r.2 = 0 ∧ r.1 = Zvk x word ∧ ∃ e ∈ x.Entries, e.Word = word) ∨ (r.2 = 3 ∧ ∀ e ∈ x.Entries, e.Word ≠ word)) ∧ (True)) ∧ Zbi Tryz.prog 23 [.agg [Zaa false x.Entries], Sv word] (Zaf []) true (.tup [I r.1, I r.2]) (Zaf []) := by
    refine Zdl (Φ := fun r : Int × Int => ((r.2 = 0 ∧ r.1 = Zvk x word ∧ ∃ e ∈ x.Entries, e.Word = word) ∨ (r.2 = 3 ∧ ∀ e ∈ x.Entries, e.Word ≠ word)) ∧ (True)) [] (fun r => []) (fn := Tryz.f23) (nt := 25) Tryz.func23 rfl rfl (args := [.agg [Zaa false x.Entries], Sv word]) rfl (Zbe (.inl ⟨rfl, by simp [Zan, Zaj, Zcf]⟩) (Zbe (.inl ⟨rfl, trivial⟩) Zdj)) (res := fun r => .tup [I r.1, I r.2]) ?_
    refine xR [(0, .new 2)] [1, 2] [2] [Sv word, .ref 2 0] [some (.box [Zaa false x.Entries])] [] trivial ?_
    refine Zar ?_
    refine xR [(1, .call [(true, .any)] true (Bv true))] [1, 2, 10] [2] [Sv word, .ref 2 0, Bv false] [some (.box [Zaa false x.Entries])] [Con Tryz.prog 51 [.agg [Zaa false x.Entries]] true (Bv true) ∧ True] ⟨⟨(Zdi x hx), trivial⟩, trivial⟩ ?_
    refine Zav rfl ?_
    refine Zbk ?_
    refine Zad ?_
    refine Zar ?_
    obtain ⟨pl_1, found_1, hx1_0, hx1_1, hx1_2, hx1_3, hx1_4, hc1⟩ := Zia x word hx
    have hp0 := hx1_0
    have hp1 := hx1_1
    have hp2 := hx1_2
    refine x_r [(2, .call [(true, .any), (true, .any)] true (.tup [I pl_1, Bv found_1]))] [2, 6, 7] [2] [.ref 2 0, I pl_1, Bv found_1] [some (.box [Zaa false x.Entries])] [Con Tryz.prog 63 [.agg [Zaa false x.Entries], Sv word] true (.tup [I pl_1, Bv found_1]) ∧ True] ⟨⟨hc1, trivial⟩, trivial⟩ ?_
    refine Zad ?_
    refine Zar ?_
    refine Zar ?_
    rcases Bool.eq_false_or_eq_true found_1 with h1 | h1
    ·subst h1
     refine x_r [] [2, 6, 18] [2] [.ref 2 0, I pl_1, Bv false] [some (.box [Zaa false x.Entries])] [] trivial ?_
     refine Zad ?_
     refine Zav rfl ?_
     refine Zbk ?_
     refine Zad ?_
     refine Zar ?_
     have hpy := hp1 (by first | assumption | rfl)
     have hpy1 := hpy.1
     refine x_r [] [4, 5] [] [I ((at_ x.Entries pl_1.toNat).Cost), I 0] [] [(0 : Int) ≤ pl_1 ∧ pl_1 < (x.Entries.length : Int)] ⟨⟨(by omega), (by omega)⟩, trivial⟩ ?_
     refine Zad ?_
     refine Zdh ?_
     refine Zce ((at_ x.Entries pl_1.toNat).Cost, 0) (show ((0 = 0 ∧ ((at_ x.Entries pl_1.toNat).Cost) = Zvk x word ∧ ∃ e ∈ x.Entries, e.Word = word) ∨ (0 = 3 ∧ ∀ e ∈ x.Entries, e.Word ≠ word)) ∧ (True) from ⟨(by first | exact .inl ⟨rfl, (Zju hx (by omega) hpy.2).symm, _, Zcx (by omega), hpy.2⟩ | exact .inr ⟨rfl, fun e he z => by obtain ⟨j, hj, q2⟩ := List.getElem_of_mem he; exact hp2 (by simp_all) j hj (by rw [Zcz hj, q2]; exact z)⟩), trivial⟩) (trivial) (.tup [I ((at_ x.Entries pl_1.toNat).Cost), I 0]) (by kernel_rfl) (.inl rfl) (fun _ => rfl) (fun _ => (by simp [Zan, Zaj]))
    subst h1
    refine x_r [] [2, 6, 18] [2] [.ref 2 0, I pl_1, Bv true] [some (.box [Zaa false x.Entries])] [] trivial ?_
    refine Zad ?_
    refine Zcb rfl ?_
    refine xR [] [4, 5] [] [I 0, I 3] [] [] trivial ?_
    refine Zdh ?_
    refine Zcl ?_
    refine Zce (0, 3) (show ((3 = 0 ∧ 0 = Zvk x word ∧ ∃ e ∈ x.Entries, e.Word = word) ∨ (3 = 3 ∧ ∀ e ∈ x.Entries, e.Word ≠ word)) ∧ (True) from ⟨(by first | exact .inl ⟨rfl, (Zju hx (by omega) hpy.2).symm, _, Zcx (by omega), hpy.2⟩ | exact .inr ⟨rfl, fun e he z => by obtain ⟨j, hj, q2⟩ := List.getElem_of_mem he; exact hp2 (by simp_all) j hj (by rw [Zcz hj, q2]; exact z)⟩), trivial⟩) (trivial) (.tup [I 0, I 3]) (by kernel_rfl) (.inl rfl) (fun _ => rfl) (fun _ => (by simp [Zan, Zaj]))
  obtain ⟨⟨v, c⟩, ⟨hh0, _⟩, hc⟩ := hh
  exact ⟨v, c, hh0, hc⟩
set_option maxHeartbeats 2000000 in
set_option maxRecDepth 100000 in
theorem Zyd (i j r t n : Nat) (hij : i + 1 = j) (hjr : j + r = n) (hit : i + r = t) (k c : Nat) (cur : Array Value) (e : TypeId) (vs : List Value) (w : World) (hw : w.heap[k]? = some (.cells cur e (0, 0))) (hnc : n ≤ c) (hcc : c * 2 ≤ cur.size) (hcm : c ≤ maxLen)
    (hvl : vs.length = r * 2) (hvs : ∀ (q : Nat) (u : Value), vs[q]? = some u → cur[j * 2 + q]? = some u) (h1c : ∀ u ∈ vs, u.oneCell' = true) :
    Calls Tryz.prog 66 #[.slice (some ⟨k, 0, none⟩) n c, .int .i64 (i : Int), .int .i64 (j : Int)] w fun e w' => e = .returned (.slice (some ⟨k, 0, none⟩) t c) ∧ ∃ q, w' = ((w.drewN q).setCells k (i * 2) vs).setCells k (t * 2) [.string ⟨#[]⟩, .int .i64 0] := by
  have hcm' : c ≤ 9223372036854775807 := by unfold maxLen at hcm; omega
  obtain ⟨i0, hi0, hz0⟩ := Option.map_eq_some_iff.1 (show (Tryz.prog.info? 59).map (fun i => i.size) = some 2 from by kernel_rfl)
  obtain ⟨A, hA, hA2⟩ : ∃ A : Addr, (if c = j then (some (⟨k, 0, none⟩ : Addr)) else some ⟨k, 0 + j * 2, none⟩) = some A ∧ (r = 0 ∨ A = ⟨k, 0 + j * 2, none⟩) := by
    by_cases h : c = j
    · exact ⟨_, by rw [if_pos h], .inl (by omega)⟩
    · exact ⟨_, by rw [if_neg h], .inr rfl⟩
  have hnj : n - j = r := by omega
  have hnt : n - t = 1 := by omega
  obtain ⟨cur1, a1, a2, a3, a4, a5, a6, a7, a8, a9⟩ := Zdu vs k (i * 2) cur e w.drew hw (by rw [hvl]; omega)
  have hcl : ∀ ty cc, (Builtin.clear_ #[43] ty #[.slice (some ⟨k, t * 2, none⟩) 1 cc]).run Tryz.prog (w.drew.setCells k (i * 2) vs) = .ok (.tuple #[]) ((w.drew.setCells k (i * 2) vs).setCells k (t * 2) [.string ⟨#[]⟩, .int .i64 0]) := fun ty cc =>
    Zpe (w.drew.setCells k (i * 2) vs) _ _ ty (.agg #[.string ⟨#[]⟩, .int .i64 0]) Tryz.underlying43 Tryz.zeroValue59 (by simp [Value.cells, Value.oneCell']) k (t * 2) _ (fun j hj => by
      have hj : j < 2 := hj
      have hs : t * 2 + j < cur1.size := by omega
      rw [Lib.cell_of_heap a1]
      simp [hs]) (fun j hj => Lib.frozen_of_heap a1 _)
  have mixed : Tryz.prog.follows .mixedOrders = true := by kernel_rfl
  have hnw : ∀ (q : Nat) (u : Value), vs[q]? = some u → w.cell? (A.add q) = some u := fun q u hu => by
    rcases hA2 with z | z
    · rw [z] at hvl
      have := (List.getElem?_eq_some_iff.1 hu).1
      omega
    · rw [z, Addr.add_lit, Lib.cell_of_heap hw, Nat.zero_add]
      exact hvs q u hu
  have hsp : ∀ q, q < vs.length → (w.cell? ⟨k, 0 + i * 2 + q, none⟩).isSome = true ∧ w.frozen? ⟨k, 0 + i * 2 + q, none⟩ = false := fun q hq => by
    have hs : i * 2 + q < cur.size := by omega
    refine ⟨?_, Lib.frozen_of_heap hw _⟩
    rw [Lib.cell_of_heap hw, Nat.zero_add]
    simp [hs]
  have hic : i ≤ c := by omega
  have hjc : j ≤ c := by omega
  have hjn : j ≤ n := by omega
  have hij2 : i ≤ j := by omega
  have htn : t ≤ n := by omega
  have htc : t ≤ c := by omega
  have hct : ¬ c = t := by omega
  have hne : ¬ i = j := by omega
  go_enter Tryz.func66, Tryz.ntmps66
  go_wp2_with fail
  go_region_law_o (refine step_append_room rfl (.tmp 22) (.tmp 25) 43 rfl 59 i0 2 Tryz.underlying43 hi0 hz0 k 0 i c (by simp [Act.eval, Act.put]) A r (c - j) vs (by simp [Act.eval, Act.put, hnj]; simpa using hA) hvl (fun q u hu => hnw q u hu) h1c (by omega) (fun q hq => hsp q hq) ?_; rw [show i + r = t from hit])
  go_wp2
  all_goals (go_ret; exact ⟨rfl, 1, rfl⟩)
theorem Ybg {xs : List Entry} {p q : Nat} {u : AV} (h : (Zap xs p)[q]? = some u) : q < 2 := by
  have := (List.getElem?_eq_some_iff.1 h).1
  exact this
theorem delE_ok {xs : List Entry} {a b : Int} (ha : 0 ≤ a ∧ a < (xs.length : Int)) (hb : b = a + 1) (h1 : 1 ≤ xs.length) : MvcOK Tryz.prog 66 2 xs.length (xs.take a.toNat ++ xs.drop (a.toNat + 1)).length (Zap xs) (Zap (xs.take a.toNat ++ xs.drop (a.toNat + 1))) [.int .i64 a, .int .i64 b] := by
  obtain ⟨i, hi⟩ : ∃ i : Nat, (i : Int) = a := ⟨a.toNat, by omega⟩
  have hbi : b = ((i + 1 : Nat) : Int) := by omega
  rw [hbi, ← hi, Int.toNat_natCast]
  have hin : i < xs.length := by omega
  have hl : (xs.take i ++ xs.drop (i + 1)).length = xs.length - 1 := by rw [List.length_append, List.length_take, List.length_drop]; omega
  rw [hl]
  refine ⟨h1, fun _ _ => rfl, fun R hR1 hR2 k c cur e w hw hnc hcc hcm hcell => ?_⟩
  have hk : k < w.heap.size := (Array.getElem?_eq_some_iff.1 hw).1
  have hcc2 : xs.length * 2 ≤ cur.size := Nat.le_trans (Nat.mul_le_mul_right _ hnc) hcc
  obtain ⟨vs, hvd⟩ : ∃ vs, vs = (cur.toList.drop ((i + 1) * 2)).take ((xs.length - (i + 1)) * 2) := ⟨_, rfl⟩
  have hvl : vs.length = (xs.length - (i + 1)) * 2 := by
    have hcz : cur.toList.length = cur.size := Array.length_toList
    rw [hvd, List.length_take, List.length_drop, hcz]
    exact Nat.min_eq_left (by omega)
  have hvq : ∀ q, q < (xs.length - (i + 1)) * 2 → vs[q]? = cur[(i + 1) * 2 + q]? := fun q hq => by
    rw [hvd, List.getElem?_take, if_pos hq, List.getElem?_drop, Array.getElem?_toList]
  have h1a : ∀ p, p < xs.length → ∀ q, q < 2 → ∃ x, cur[p * 2 + q]? = some x ∧ x.oneCell' = true := fun p hp q hq => by
    have hlen : (Zap xs p).length = 2 := (hcell p hp).1
    obtain ⟨x, e1, e2, _⟩ := (hcell p hp).2 q _ (List.getElem?_eq_getElem (by omega))
    exact ⟨x, e1, e2⟩
  have h1c : ∀ u ∈ vs, u.oneCell' = true := fun u hu => by
    obtain ⟨q, hq, z⟩ := List.getElem_of_mem hu
    have hq2 : q < (xs.length - (i + 1)) * 2 := by omega
    have e1 := hvq q hq2
    rw [List.getElem?_eq_getElem hq, z] at e1
    obtain ⟨x, f1, f2⟩ := h1a (i + 1 + q / 2) (by omega) (q % 2) (by omega)
    rw [show (i + 1 + q / 2) * 2 + q % 2 = (i + 1) * 2 + q from by omega, ← e1] at f1
    cases f1; exact f2
  refine (Zyd i (i + 1) (xs.length - (i + 1)) (xs.length - 1) xs.length rfl (by omega) (by omega) k c cur e vs w hw hnc hcc hcm hvl (fun q u hu => by
    have := (List.getElem?_eq_some_iff.1 hu).1
    rw [← hvq q (by omega)]; exact hu) h1c).mono ?_
  rintro q w' ⟨rfl, d, rfl⟩
  obtain ⟨cur1, a1, a2, a3, a4, a5, a6, a7, a8, a9⟩ := Zdu vs k (i * 2) cur e (w.drewN d) hw (by rw [hvl]; omega)
  obtain ⟨cur2, b1, b2, b3, b4, b5, b6, b7, b8, b9⟩ := Zdu [Value.string ⟨#[]⟩, .int .i64 0] k ((xs.length - 1) * 2) cur1 e _ a1 (by rw [a2]; show (xs.length - 1) * 2 + 2 ≤ _; omega)
  refine ⟨k, c, cur2, rfl, b7.trans a7, b8.trans a8, b9.trans a9, by rw [b6, a6]; exact Nat.le_refl _, .inl rfl, by rw [b6, a6]; exact hk, fun b' _ hb' => (b5 b' hb').trans (a5 b' hb'), b1, by omega, by omega, by rw [b2, a2]; exact hcc, hcm, fun p hp q u hu => ?_⟩
  have hq2 := Ybg hu
  have e0 : cur2[p * 2 + q]? = cur1[p * 2 + q]? := b4 _ (.inl (by omega))
  rw [e0]
  by_cases hpi : p < i
  · rw [a4 _ (.inl (by omega))]
    have e1 : at_ (xs.take i ++ xs.drop (i + 1)) p = at_ xs p := by
      rw [Zcz (by rw [hl]; omega), Zcz (by omega), List.getElem_append_left (by rw [List.length_take]; omega), List.getElem_take]
    refine (hcell p (by omega)).2 q u ?_
    unfold Zap at hu ⊢
    rw [e1] at hu; exact hu
  · have e1 : at_ (xs.take i ++ xs.drop (i + 1)) p = at_ xs (p + 1) := by
      rw [Zcz (by rw [hl]; omega), Zcz (by omega), List.getElem_append_right (by rw [List.length_take]; omega), List.getElem_drop]
      congr 1
      rw [List.length_take]; omega
    have e2 := a3 ((p - i) * 2 + q) (by rw [hvl]; omega)
    rw [show i * 2 + ((p - i) * 2 + q) = p * 2 + q from by omega, hvq _ (by omega), show (i + 1) * 2 + ((p - i) * 2 + q) = (p + 1) * 2 + q from by omega] at e2
    rw [e2]
    refine (hcell (p + 1) (by omega)).2 q u ?_
    unfold Zap at hu ⊢
    rw [e1] at hu; exact hu
theorem Zrg (x : Lexicon) (word : ByteArray) (hx : Zci x) (hw : ∃ y_ ∈ x.Entries, y_.Word = word) : ∃ (v : Lexicon) (c : Int), (Zci v) ∧ (∀ y_ ∈ v.Entries, y_.Word ≠ word) ∧ (c = 0) ∧ Con Tryz.prog 24 [.agg [Zaa false x.Entries], Sv word] true (.tup [.agg [Zaa true v.Entries], I c]) := by
  have hc := hx.1
  have hwi : ∃ j : Nat, j < x.Entries.length ∧ (at_ x.Entries j).Word = word := by obtain ⟨y, hy, q⟩ := hw; obtain ⟨j, hj, z⟩ := List.getElem_of_mem hy; exact ⟨j, hj, by rw [Zcz hj, z]; exact q⟩
  have hh : ∃ r : Lexicon × Int, ((Zci r.1) ∧ (∀ y_ ∈ r.1.Entries, y_.Word ≠ word) ∧ (r.2 = 0) ∧ (True)) ∧ Zbi Tryz.prog 24 [.agg [Zaa false x.Entries], Sv word] (Zaf []) true (.tup [.agg [Zaa true r.1.Entries], I r.2]) (Zaf []) := by
    refine Zdl (Φ := fun r : Lexicon × Int => (Zci r.1) ∧ (∀ y_ ∈ r.1.Entries, y_.Word ≠ word) ∧ (r.2 = 0) ∧ (True)) [] (fun r => []) (fn := Tryz.f24) (nt := 29) Tryz.func24 rfl rfl (args := [.agg [Zaa false x.Entries], Sv word]) rfl (Zbe (.inl ⟨rfl, by simp [Zan, Zaj, Zcf]⟩) (Zbe (.inl ⟨rfl, trivial⟩) Zdj)) (res := fun r => .tup [.agg [Zaa true r.1.Entries], I r.2]) ?_
    refine xR [(0, .new 2), (1, .new 4)] [1, 2, 4] [2, 4] [Sv word, .ref 2 0, .ref 4 0] [some (.box [Zaa false x.Entries]), some (.box [Zde])] [] trivial ?_
    refine Zar ?_
    refine xR [(1, .call [(true, .any)] true (Bv true))] [1, 2, 4, 10] [2, 4] [Sv word, .ref 2 0, .ref 4 0, Bv false] [some (.box [Zaa false x.Entries]), some (.box [Zde])] [Con Tryz.prog 51 [.agg [Zaa false x.Entries]] true (Bv true) ∧ True] ⟨⟨(Zdi x hx), trivial⟩, trivial⟩ ?_
    refine Zav rfl ?_
    refine Zbk ?_
    refine Zad ?_
    refine Zar ?_
    obtain ⟨pl_1, found_1, hx1_0, hx1_1, hx1_2, hx1_3, hx1_4, hc1⟩ := Zia x word hx
    have hb0 := hx1_0
    have hb1 := hx1_1
    have hb2 := hx1_2
    have hlo := hx1_3
    have hhi := hx1_4
    have hfd : found_1 = true := by cases hq_ : found_1 with | true => rfl | false => exact absurd hwi (fun ⟨j, hj, z⟩ => hb2 hq_ j hj z)
    have hb3 := hb1 hfd
    have hb4 := hb3.1
    have hdl := lex_del hx (k := pl_1.toNat) (by omega)
    rw [hb3.2] at hdl
    refine x_r [(2, .call [(true, .any), (true, .any)] true (.tup [I pl_1, Bv found_1]))] [2, 4, 6, 7] [2, 4] [.ref 2 0, .ref 4 0, I pl_1, Bv found_1] [some (.box [Zaa false x.Entries]), some (.box [Zde])] [Con Tryz.prog 63 [.agg [Zaa false x.Entries], Sv word] true (.tup [I pl_1, Bv found_1]) ∧ True] ⟨⟨hc1, trivial⟩, trivial⟩ ?_
    refine Zad ?_
    refine Zar ?_
    refine Zar ?_
    obtain rfl : found_1 = true := hfd
    refine x_r [] [2, 4, 6, 19] [2, 4] [.ref 2 0, .ref 4 0, I pl_1, Bv false] [some (.box [Zaa false x.Entries]), some (.box [Zde])] [] trivial ?_
    refine Zad ?_
    refine Zav rfl ?_
    refine Zbk ?_
    refine Zad ?_
    refine Zar ?_
    obtain ⟨out_2, hx2_0, hc2⟩ := Zok x.Entries (by omega)
    have hcl : out_2 = x.Entries := hx2_0
    have hcll : out_2.length = x.Entries.length := by rw [hcl]
    refine x_r [(2, .lend [] [(8681, Zbl out_2)] [(true, .any)] false (.arr 8681)), (6, .movc 8681 8671 2 out_2.length ((out_2.take (pl_1).toNat ++ out_2.drop ((pl_1).toNat + 1)).length) (Zap out_2) (Zap (out_2.take (pl_1).toNat ++ out_2.drop ((pl_1).toNat + 1))) [.int .i64 pl_1, .int .i64 (pl_1 + 1)])] [4, 5] [4, 8671] [.ref 4 0, I 0] [some (.box [.arr 8671]), some (Zbl (out_2.take (pl_1).toNat ++ out_2.drop ((pl_1).toNat + 1)))] [Zbi Tryz.prog 64 [Zaa false x.Entries] (Zaf []) false (.arr 8681) (Zaf [(8681, Zbl out_2)]) ∧ True, inR .i64 (pl_1 + 1), (([.arr 8681, I pl_1, I (pl_1 + 1)] : List AV) = [.arr 8681, I pl_1, I (pl_1 + 1)]) ∧ ((Zbl out_2 : Ob) = .arr 2 out_2.length (Zap out_2)) ∧ MvcOK Tryz.prog 66 2 out_2.length ((out_2.take (pl_1).toNat ++ out_2.drop ((pl_1).toNat + 1)).length) (Zap out_2) (Zap (out_2.take (pl_1).toNat ++ out_2.drop ((pl_1).toNat + 1))) [.int .i64 pl_1, .int .i64 (pl_1 + 1)]] ⟨⟨hc2, trivial⟩, (Zah (by omega) (by omega)), ⟨rfl, rfl, delE_ok (by (try rw [hcll]); omega) (by (try rw [hcll]); omega) (by (try rw [hcll]); omega)⟩, trivial⟩ ?_
    refine Zad ?_
    refine Zdh ?_
    refine Zce ((Lexicon.mk (out_2.take (pl_1).toNat ++ out_2.drop ((pl_1).toNat + 1))), 0) (show (Zci (Lexicon.mk (out_2.take (pl_1).toNat ++ out_2.drop ((pl_1).toNat + 1)))) ∧ (∀ y_ ∈ (Lexicon.mk (out_2.take (pl_1).toNat ++ out_2.drop ((pl_1).toNat + 1))).Entries, y_.Word ≠ word) ∧ (0 = 0) ∧ (True) from ⟨(by (rw [hcl]; exact hdl.1)), (by (rw [hcl]; exact hdl.2)), (by rfl), trivial⟩) (trivial) (.tup [.agg [.arr 8671], I 0]) (by kernel_rfl) (.inr ⟨⟨⟨(fun _ => rfl), rfl, rfl, fun i _ => .inl rfl⟩, rfl⟩, ⟨rfl, rfl⟩⟩) (fun _ => rfl) (fun _ => (by simp [Zan, Zaj, Zcf]))
  obtain ⟨⟨v, c⟩, ⟨hh0, hh1, hh2, _⟩, hc⟩ := hh
  exact ⟨v, c, hh0, hh1, hh2, hc⟩
def strB (xs : List Int) : ByteArray := ⟨(xs.map fun n => UInt8.ofNat n.toNat).toArray⟩
def bytesL (s : ByteArray) : List Int := s.data.toList.map fun b => (b.toNat : Int)
@[simp] theorem bytesL_len (s : ByteArray) : (bytesL s).length = s.size := by unfold bytesL; rw [List.length_map, Array.length_toList]; rfl
def Zfs (n : Int) : ByteArray := ⟨(Lib.itoa n).toArray⟩
def digs (u : Nat) : List Int := if h : u = 0 then [] else digs (u / 10) ++ [48 + ((u % 10 : Nat) : Int)]
termination_by u
decreasing_by omega
theorem Zmu : digs 0 = [] := by rw [digs]; simp
theorem Zwm {u : Nat} (h : u ≠ 0) : digs u = digs (u / 10) ++ [48 + ((u % 10 : Nat) : Int)] := by rw [digs]; simp [h]
theorem digs_len : ∀ (k u : Nat), u < 10 ^ k → (digs u).length ≤ k := by
  intro k
  induction k with
  | zero => intro u h; have : u = 0 := by simpa using h
            subst this; simp [Zmu]
  | succ k ih =>
    intro u h
    by_cases e : u = 0
    · subst e; simp [Zmu]
    · rw [Zwm e]
      have := ih (u / 10) (by rw [Nat.pow_succ] at h; omega)
      simp; omega
theorem Zwn : ∀ u : Nat, u ≠ 0 → (digs u).map (fun n => UInt8.ofNat n.toNat) = Lib.decDigits u := by
  intro u
  induction u using Nat.strongRecOn with
  | _ u ih =>
    intro e
    rw [Zwm e, Lib.decDigits, List.map_append]
    by_cases h : u < 10
    · rw [dif_pos h, show u / 10 = 0 by omega, Zmu]
      simp only [List.map_nil, List.nil_append, List.map_cons]
      congr 2
      omega
    · rw [dif_neg h, ih (u / 10) (by omega) (by omega)]
      simp only [List.map_cons, List.map_nil]
      congr 3
theorem decB_pos {n : Int} (h : 0 < n) : Zfs n = strB (digs n.natAbs) := by
  unfold Zfs strB Lib.itoa
  rw [if_neg (by omega), Zwn _ (by omega), show n.toNat = n.natAbs by omega]
theorem decB_neg {n : Int} (h : n < 0) : Zfs n = (⟨#[45]⟩ : ByteArray) ++ strB (digs n.natAbs) := by
  unfold Zfs strB Lib.itoa
  rw [if_pos h, Zwn _ (by omega)]
  apply ByteArray.ext
  rw [ByteArray.data_append]
  simp
theorem Ybh : Zfs 0 = (⟨#[48]⟩ : ByteArray) := by
  unfold Zfs Lib.itoa
  rw [if_neg (by decide)]
  simp [Lib.decDigits]
theorem Zon (xs : List Int) : (strB xs).size = xs.length := by simp [strB, ByteArray.size]
theorem Zrc {n : Int} (h : -9223372036854775808 ≤ n ∧ n ≤ 9223372036854775807) : (Zfs n).size ≤ 20 := by
  have hl := digs_len 19 n.natAbs (by omega)
  rcases Int.lt_trichotomy n 0 with h1 | h1 | h1
  · rw [decB_neg h1, ByteArray.size_append, Zon]
    have : (⟨#[45]⟩ : ByteArray).size = 1 := rfl
    omega
  · subst h1; rw [Ybh]; decide
  · rw [decB_pos h1, Zon]; omega
theorem Zsz (n base : Int) (h : -9223372036854775808 ≤ n ∧ n ≤ 9223372036854775807) (hb : base = 10) : Con Tryz.prog 100 [I n, I base] true (Sv (Zfs n)) := by
  subst hb
  refine Zeq (vals := [.int .i64 n, .int .i64 10]) fun w hw => ?_
  refine (Tryz.strconv_FormatInt_10 n h.1 h.2 w (WX_tab hw)).mono ?_
  rintro e w' ⟨rfl, k, os, rfl⟩
  exact ⟨rfl, Lib.below_grow _ _ (Nat.le_refl _) k os⟩
theorem Zne (n : Int) (hn : -9223372036854775808 ≤ n ∧ n ≤ 9223372036854775807) : Con Tryz.prog 47 [I n] true (Sv (Zfs n)) := by
  refine Zeb (fn := Tryz.f47) (nt := 5) Tryz.func47 rfl rfl rfl rfl (by simp [Zaj, Zan]) fun B hB => ?_
  refine aR [] [0] [] [I n] [] [] hB trivial ?_
  refine aR [(1, .call [(true, .any), (true, .any)] true (Sv (Zfs n)))] [2] [] [Sv (Zfs n)] [] [Con Tryz.prog 100 [I n, I 10] true (Sv (Zfs n)) ∧ True] hB ⟨⟨(Zsz n 10 (by omega) rfl), trivial⟩, trivial⟩ ?_
  refine Zba ?_
  refine Zbb hB (Sv (Zfs n)) (by kernel_rfl) (.inl rfl) rfl (fun _ => trivial)
def Znd (sep : ByteArray) : List ByteArray → ByteArray
  | [] => ⟨#[]⟩
  | y :: l => (sep ++ y) ++ Znd sep l
def jnB (sep : ByteArray) : List ByteArray → ByteArray
  | [] => ⟨#[]⟩
  | x :: l => x ++ Znd sep l
theorem Zpb (x : ByteArray) : x ++ (⟨#[]⟩ : ByteArray) = x := by apply ByteArray.ext; simp
theorem nil_ba (x : ByteArray) : (⟨#[]⟩ : ByteArray) ++ x = x := by apply ByteArray.ext; simp
theorem Zoo (sep y : ByteArray) : ∀ l, Znd sep (l ++ [y]) = (Znd sep l ++ sep) ++ y
  | [] => by simp only [List.nil_append, Znd, Zpb, nil_ba]
  | x :: l => by simp only [List.cons_append, Znd, Zoo sep y l, ByteArray.append_assoc]
theorem jnB_snoc {sep y : ByteArray} {l : List ByteArray} (h : l ≠ []) : jnB sep (l ++ [y]) = (jnB sep l ++ sep) ++ y := by
  cases l with
  | nil => exact absurd rfl h
  | cons x l => simp only [List.cons_append, jnB, Zoo, ByteArray.append_assoc]
def noB (c : UInt8) (s : ByteArray) : Prop := c ∉ s.data.toList
def splC (c : UInt8) (s : ByteArray) : List ByteArray := Lib.splitB ⟨#[c]⟩ 0 (Lib.countB s ⟨#[c]⟩) s
theorem Zik (c : UInt8) : ∀ l : List UInt8, c ∉ l → Lib.indexByte l c = -1
  | [], _ => rfl
  | b :: l, h => by
    have h1 : ¬ b = c := fun e => h (by simp [e])
    have h2 := Zik c l (fun e => h (by simp [e]))
    simp [Lib.indexByte, h1, h2]
theorem Zjl (c : UInt8) (r : List UInt8) : ∀ l : List UInt8, c ∉ l → Lib.indexByte (l ++ c :: r) c = (l.length : Int)
  | [], _ => by simp [Lib.indexByte]
  | b :: l, h => by
    have h1 : ¬ b = c := fun e => h (by simp [e])
    have h2 := Zjl c r l (fun e => h (by simp [e]))
    have h3 : ¬ (l.length : Int) = -1 := by omega
    simp [Lib.indexByte, h1, h2, h3]
theorem spl_none {c : UInt8} {s : ByteArray} (h : noB c s) : splC c s = [s] := by
  have hi : Lib.indexB s ⟨#[c]⟩ = -1 := by
    show Lib.index s.data.toList [c] = -1
    rw [Lib.index_one, Zik c _ h]
  unfold splC
  rw [Lib.countB_miss _ _ hi, Lib.splitB_zero]
theorem ext_left (x y : ByteArray) : (x ++ y).extract 0 x.size = x := by
  exact ByteArray.extract_append_eq_left rfl
theorem Ybi (x y : ByteArray) : (x ++ y).extract x.size (x ++ y).size = y := by
  exact ByteArray.extract_append_eq_right rfl ByteArray.size_append
theorem spl_cons {c : UInt8} {x r : ByteArray} (h : noB c x) : splC c ((x ++ ⟨#[c]⟩) ++ r) = x :: splC c r := by
  have hi : Lib.indexB ((x ++ ⟨#[c]⟩) ++ r) ⟨#[c]⟩ = ((x.size : Nat) : Int) := by
    show Lib.index ((x ++ ⟨#[c]⟩) ++ r).data.toList [c] = _
    rw [Lib.index_one]
    have : ((x ++ ⟨#[c]⟩) ++ r).data.toList = x.data.toList ++ c :: r.data.toList := by simp
    rw [this, Zjl c _ _ h]
    rfl
  have hz : (x ++ (⟨#[c]⟩ : ByteArray)).size = x.size + (⟨#[c]⟩ : ByteArray).size := by rw [ByteArray.size_append]
  have he : ((x ++ ⟨#[c]⟩) ++ r).extract (x.size + (⟨#[c]⟩ : ByteArray).size) ((x ++ ⟨#[c]⟩) ++ r).size = r := by
    rw [← hz]; exact Ybi _ _
  have hl : ((x ++ ⟨#[c]⟩) ++ r).extract 0 (x.size + 0) = x := by
    rw [Nat.add_zero, ByteArray.append_assoc]; exact ext_left _ _
  unfold splC
  rw [Lib.countB_hit _ _ _ (show 1 ≤ (⟨#[c]⟩ : ByteArray).size from Nat.le_refl 1) hi, he, Nat.add_comm 1, Lib.splitB_hit _ _ _ _ _ hi, he, hl]
theorem Zox {c : UInt8} : ∀ {xs : List ByteArray}, xs ≠ [] → (∀ x ∈ xs, noB c x) → splC c (jnB ⟨#[c]⟩ xs) = xs
  | [], h, _ => absurd rfl h
  | [x], _, h => by
    rw [jnB, Znd, Zpb]; exact spl_none (h x (by simp))
  | x :: y :: l, _, h => by
    have e : jnB ⟨#[c]⟩ (x :: y :: l) = (x ++ ⟨#[c]⟩) ++ jnB ⟨#[c]⟩ (y :: l) := by simp only [jnB, Znd, ByteArray.append_assoc]
    rw [e, spl_cons (h x (by simp)), Zox (by simp) fun z hz => h z (by simp [hz])]
theorem Zyq {c : UInt8} {x y : ByteArray} (h1 : noB c x) (h2 : noB c y) : noB c (x ++ y) := by
  unfold noB at *; simp [h1, h2]
theorem Zec : ∀ (k u : Nat), u < k → ∀ b ∈ Lib.decDigits u, 48 ≤ b.toNat ∧ b.toNat ≤ 57
  | 0, u, h, _, _ => absurd h (Nat.not_lt_zero _)
  | k + 1, u, h, b, hb => by
    rw [Lib.decDigits] at hb
    split at hb
    · have hb := List.mem_singleton.1 hb; subst hb; rw [UInt8.toNat_ofNat']; omega
    · rcases List.mem_append.1 hb with hb | hb
      · exact Zec k (u / 10) (by omega) b hb
      · have hb := List.mem_singleton.1 hb; subst hb; rw [UInt8.toNat_ofNat']; omega
theorem Zye (n : Int) : ∀ b ∈ (Zfs n).data.toList, b.toNat = 45 ∨ (48 ≤ b.toNat ∧ b.toNat ≤ 57) := fun b hb => by
  have hb : b ∈ Lib.itoa n := by simpa [Zfs] using hb
  unfold Lib.itoa at hb
  split at hb
  · rcases List.mem_cons.1 hb with e | hb
    · subst e; exact .inl rfl
    · exact .inr (Zec _ _ (Nat.lt_succ_self _) b hb)
  · exact .inr (Zec _ _ (Nat.lt_succ_self _) b hb)
theorem Zvh {c : UInt8} (hc : c.toNat < 45 ∨ 57 < c.toNat) (n : Int) : noB c (Zfs n) := fun h => by
  have := Zye n c h
  omega
theorem Zfg (u : Nat) : Lib.decDigits u ≠ [] := by rw [Lib.decDigits]; split <;> simp
theorem Ybj (M : Nat) : ∀ (l r : List UInt8) (acc : Nat), Lib.parseUintM M acc (l ++ r) = match Lib.parseUintM M acc l with | .ok v => Lib.parseUintM M v r | .«syntax» => .«syntax» | .range => .range
  | [], r, acc => rfl
  | c :: l, r, acc => by
    simp only [List.cons_append, Lib.parseUintM]
    split
    · split
      · rfl
      · split
        · rfl
        · exact Ybj M l r _
    · rfl
theorem Zuq {M : Nat} (hM : 1000000000000000000 ≤ M) : ∀ (k u : Nat), u < k → u < 1000000000000000000 → Lib.parseUintM M 0 (Lib.decDigits u) = .ok u
  | 0, u, h, _ => absurd h (Nat.not_lt_zero _)
  | k + 1, u, h, h2 => by
    rw [Lib.decDigits]
    split
    · rename_i h3
      have e : (UInt8.ofNat (48 + u)).toNat = 48 + u := by rw [UInt8.toNat_ofNat']; omega
      simp only [Lib.parseUintM, e]
      rw [if_pos (by omega), if_neg (by omega), if_neg (by omega)]
      simp
    · rename_i h3
      rw [Ybj, Zuq hM k (u / 10) (by omega) (by omega)]
      have e : (UInt8.ofNat (48 + u % 10)).toNat = 48 + u % 10 := by rw [UInt8.toNat_ofNat']; omega
      simp only [Lib.parseUintM, e]
      rw [if_pos (by omega), if_neg (by omega), if_neg (by omega)]
      congr 1
      omega
theorem Zrb {n : Int} (h : -1000000000000000000 < n ∧ n < 1000000000000000000) : Lib.parseIntB 64 (Zfs n).data.toList = .ok n := by
  have e : (Zfs n).data.toList = Lib.itoa n := by simp [Zfs]
  rw [e]
  unfold Lib.itoa
  split
  · rename_i h0
    rw [Lib.parseIntB_minus]
    unfold Lib.parseUintB
    rw [if_neg (Zfg _), Zuq (by decide) _ _ (Nat.lt_succ_self _) (by omega)]
    simp only [Lib.signedC]
    rw [if_neg (by omega)]
    congr 1
    omega
  · rename_i h0
    obtain ⟨c, r, hc⟩ : ∃ c r, Lib.decDigits n.toNat = c :: r := by
      cases h : Lib.decDigits n.toNat with
      | nil => exact absurd h (Zfg _)
      | cons c r => exact ⟨c, r, rfl⟩
    have hb := Zec _ n.toNat (Nat.lt_succ_self _) c (by rw [hc]; simp)
    rw [hc, Lib.parseIntB_plain 64 c r (by omega) (by omega), ← hc]
    unfold Lib.parseUintB
    rw [if_neg (Zfg _), Zuq (by decide) _ _ (Nat.lt_succ_self _) (by omega)]
    simp only [Lib.signlessC]
    rw [if_neg (by omega)]
    congr 1
    omega
theorem Zlp {P : Program} {f : FuncId} {vals : List Value} {n : Nat} {T : TypeId} {cs : Array Value} {g : Nat → Value} (hn : n ≤ maxLen) (hc : ∀ i, i < n → cs[i]? = some (g i) ∧ (g i).oneCell' = true)
    (h : ∀ w, WX w → Calls P f vals.toArray w fun e w' => e = .returned (.slice (some ⟨w.heap.size, 0, none⟩) n n) ∧ w' = w.alloc (.cells cs T)) : Con P f (vals.map .val) true (.sl true 1 n fun i => [.val (g i)]) := by
  intro B vals' hbo hm hr
  have : vals' = vals := by
    have hl := hr.1
    simp at hl
    apply List.ext_getElem hl.symm
    intro i h1 h2
    have := hr.2 i (.val vals[i]) vals'[i] (by simp [List.getElem?_map, List.getElem?_eq_getElem h2]) (List.getElem?_eq_getElem h1)
    generalize vals[i] = x at *
    generalize vals'[i] = y at *
    cases this with | tree _ _ h => cases h; rfl
  subst this
  refine (h B.w0 (hm.glob _ (Kept.refl _ _))).mono ?_
  rintro e w' ⟨rfl, rfl⟩
  have hk : Kept B.w0 (fun _ => False) (B.w0.alloc (.cells cs T)) := ⟨rfl, rfl, rfl, by simp, fun k hk _ => Go.heap_alloc_old _ _ hk⟩
  have hnew := heap_alloc_new B.w0 (.cells cs T)
  refine ⟨_, B.κ0, rfl, hm.world hk, .tree _ _ (.sl true 1 n _ B.w0.heap.size 0 n (fun i _ => g i) ⟨(Array.getElem?_eq_some_iff.1 hnew).1, ⟨fun _ => .inl (Nat.le_refl _), fun h => absurd (.inl (Nat.le_refl _)) h⟩, fun i hi => absurd rfl hi⟩ (Nat.le_refl _) hn (fun _ _ => rfl) (fun i j hi hj => ?_) fun i j u hi hu => ?_)⟩
  · have : j = 0 := by omega
    subst this
    refine ⟨?_, (hc i hi).2⟩
    have := (hc i hi).1
    rw [Lib.cell_of_heap hnew]
    simpa using this
  · cases j with
    | zero => simp at hu; subst hu; exact .val _
    | succ j => simp at hu
theorem Ztq {sep s : ByteArray} (h1 : sep.size = 1) : (Lib.splitB sep 0 (Lib.countB s sep) s).length = Lib.countB s sep + 1 := Lib.splitB_all sep (by omega) 0 _ s rfl
def Zow (sep s : ByteArray) : List ByteArray := Lib.splitB sep 0 (Lib.countB s sep) s
theorem splB_C (c : UInt8) (s : ByteArray) : Zow ⟨#[c]⟩ s = splC c s := rfl
def sufB (s p : ByteArray) : Bool := Lib.hasSuffix s.data.toList p.data.toList
def Ztl (s p : ByteArray) : ByteArray := ⟨(Lib.trimSuffix s.data.toList p.data.toList).toArray⟩
theorem Zvf (x y : ByteArray) : sufB (x ++ y) y = true := by simp [sufB, Lib.hasSuffix]
theorem trsB_app (x y : ByteArray) : Ztl (x ++ y) y = x := by
  unfold Ztl Lib.trimSuffix
  have h := Zvf x y
  unfold sufB at h
  rw [if_pos h]
  apply ByteArray.ext
  simp
theorem jnB_one (sep : ByteArray) {xs : List ByteArray} (h : xs.length = 1) : jnB sep xs = at_ xs 0 := by
  match xs, h with
  | [x], _ => simp [jnB, Znd, Zpb, at_]
theorem jnB_take {sep : ByteArray} {xs : List ByteArray} {k : Nat} (h : k + 1 < xs.length) : jnB sep (xs.take (k + 2)) = (jnB sep (xs.take (k + 1)) ++ sep) ++ at_ xs (k + 1) := by
  rw [show xs.take (k + 2) = xs.take (k + 1) ++ [at_ xs (k + 1)] from by rw [List.take_succ_eq_append_getElem h, Zcz h], jnB_snoc]
  intro e
  have h2 : (xs.take (k + 1)).length = k + 1 := by rw [List.length_take]; omega
  rw [e] at h2
  simp at h2
theorem Zym {sep : ByteArray} {xs : List ByteArray} (h : 1 ≤ xs.length) : jnB sep (xs.take 1) = at_ xs 0 := by
  have e : (xs.take 1).length = 1 := by simp; omega
  rw [jnB_one sep e]
  simp [at_]
end Go.Proofs.YtdinloamhmdgjaaGreatDoor.Ax
