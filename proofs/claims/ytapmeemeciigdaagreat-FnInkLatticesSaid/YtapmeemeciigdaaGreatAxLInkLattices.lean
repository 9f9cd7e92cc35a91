/- The statement FnInkLattices: contracts of what it reaches, and its proof. No conditions. -/
import Derived.Test.YtapmeemeciigdaaGreatAxLInkLattices4
import Derived.Lib.IndexBytes
import Derived.Lib.ItoaNum
import Derived.Lib.ParseIntBCases
import Derived.Lib.SplitLaws
import Derived.Test.YtapmeemeciigdaaGreatAxR
import Derived.Test.YtapmeemeciigdaaGreatAxS
import Derived.Test.YtapmeemeciigdaaGreatAxSF
import Derived.Test.YtapmeemeciigdaaGreatAxY
import Derived.Test.YtapmeemeciigdaaGreatSfEdgShelf
import Derived.Test.YtapmeemeciigdaaGreatSortShelf
namespace Go.Proofs.YtapmeemeciigdaaGreat.Ax
open Go.RowKit Go.ChangeShapes Go.WideShapes
set_option linter.unusedVariables false
set_option linter.unusedSimpArgs false
theorem Yat (x : Ink) : Con Tryz.prog 23 [.ptr false [Zae false x.Strokes]] true (Bv (Zbp x)) := by
  refine Zbu (fn := Tryz.f23) (nt := 53) Tryz.func23 rfl rfl rfl rfl (by simp [Zag, Zaj, Zck]) fun B hB => ?_
  refine Zbt (x := .ptr false [Zae false x.Strokes]) 0 rfl (fun len_x => ?_)
  simp [Zdk, Zgf, Zee, Zft, Zdl, Zbl, Zaq, Zae] at len_x
  refine aQ [] [0] [] [] hB trivial ?_
  refine Zah ?_
  refine aR [] [0, 3] [] [.ptr false [Zae false x.Strokes], I 0] [] [] hB trivial ?_
  refine Zau ?_
  refine Zcn (fun gn gσ => ∃ (i : Int), gn = ((x.Strokes.length : Int) - i).toNat ∧ (0 ≤ i ∧ i ≤ (x.Strokes.length : Int)) ∧ (∀ j : Nat, (j : Int) < i → Zok x.Strokes j = true) ∧ gσ = mkS [(0, .ptr false [Zae false x.Strokes]), (3, I i)] []) (((x.Strokes.length : Int) - 0).toNat) ⟨0, rfl, om, (by intro j hj; omega), rfl⟩ (fun gn gσ hI => ?_)
  obtain ⟨i, rfl, hi0, hall0, rfl⟩ := hI
  refine Zah ?_
  refine Zah ?_
  by_cases h1 : i < (x.Strokes.length : Int)
  ·have hi : i.toNat < x.Strokes.length := by omega
   refine Zbm [(6, .dec true)] [0, 3, 10] [] [_] hB ⟨h1, trivial⟩ ?_
   refine Zaa ?_
   refine Zbq ?_
   refine Zas ?_
   refine Zaa ?_
   refine Zah ?_
   refine Zau ?_
   refine Zah ?_
   rcases Bool.eq_false_or_eq_true (Zar (at_ x.Strokes i.toNat)) with h2 | h2
   ·have hln := Zeo h2
    by_cases h3 : 0 < i
    ·have hpr := Zeo (Zlm (hall0 (i - 1).toNat om))
     by_cases h4 : ((at_ ((at_ x.Strokes i.toNat).Points) 0).T) ≤ ((at_ (at_ x.Strokes ((i - 1).toNat)).Points ((at_ x.Strokes ((i - 1).toNat)).Points.length - 1)).T)
     ·have hall : Znc x.Strokes.length (Zok x.Strokes) = false := Zgg hi (Yez h3 h4)
      refine Zbm [(6, .call [(true, .any)] true (Bv true)), (10, .dec true), (30, .call [(true, .any)] true (I ((at_ (at_ x.Strokes ((i - 1).toNat)).Points ((at_ x.Strokes ((i - 1).toNat)).Points.length - 1)).T))), (31, .dec true)] [0, 3, 46] [] [(0 : Int) ≤ i ∧ i < (x.Strokes.length : Int), Con Tryz.prog 57 [.ptr false [Zaq false ((at_ x.Strokes i.toNat).Points)]] true (Bv true) ∧ True, _, (0 : Int) ≤ i ∧ i < (x.Strokes.length : Int), (0 : Int) ≤ 0 ∧ 0 < ((((at_ x.Strokes i.toNat).Points).length) : Int), inR .i64 (i - 1), (0 : Int) ≤ (i - 1) ∧ (i - 1) < (x.Strokes.length : Int), _ ∧ True, _] hB ⟨⟨om, om⟩, ⟨(Zap h2 (Zim (at_ x.Strokes i.toNat))), trivial⟩, h3, ⟨om, om⟩, ⟨om, om⟩, (Zac om om), ⟨om, om⟩, ⟨(Znd (at_ x.Strokes ((i - 1).toNat)) om), trivial⟩, h4, trivial⟩ ?_
      refine Zaa ?_
      refine Zbq ?_
      refine aR [] [2] [] [Bv false] [] [] hB trivial ?_
      refine Zam ?_
      refine Zao (Zak (Zak (Zao (Zak ?_))))
      refine Zan hB (Bv false) (by kernel_rfl) (.inl (by first | rfl | (refine congrArg Bv ?_; simp [Zbp, *]; done) | (refine congrArg Bv ?_; simp [Zbp, *]; omega) | (refine congrArg Bv ?_; simp_all [Zbp]; done) | (refine congrArg Bv ?_; simp_all [Zbp]; omega))) rfl (fun _ => trivial)
     have hok := Yau h2 h3 h4
     refine Zbm [(6, .call [(true, .any)] true (Bv true)), (10, .dec true), (30, .call [(true, .any)] true (I ((at_ (at_ x.Strokes ((i - 1).toNat)).Points ((at_ x.Strokes ((i - 1).toNat)).Points.length - 1)).T))), (31, .dec false)] [0, 3, 46] [] [(0 : Int) ≤ i ∧ i < (x.Strokes.length : Int), Con Tryz.prog 57 [.ptr false [Zaq false ((at_ x.Strokes i.toNat).Points)]] true (Bv true) ∧ True, _, (0 : Int) ≤ i ∧ i < (x.Strokes.length : Int), (0 : Int) ≤ 0 ∧ 0 < ((((at_ x.Strokes i.toNat).Points).length) : Int), inR .i64 (i - 1), (0 : Int) ≤ (i - 1) ∧ (i - 1) < (x.Strokes.length : Int), _ ∧ True, _] hB ⟨⟨om, om⟩, ⟨(Zap h2 (Zim (at_ x.Strokes i.toNat))), trivial⟩, h3, ⟨om, om⟩, ⟨om, om⟩, (Zac om om), ⟨om, om⟩, ⟨(Znd (at_ x.Strokes ((i - 1).toNat)) om), trivial⟩, h4, trivial⟩ ?_
     refine Zaa ?_
     refine Zbj ?_
     refine Zas ?_
     refine Zba 1 ?_
     refine Zaa ?_
     refine Zdg [] [0, 3] [] [.ptr false [Zae false x.Strokes], I (i + 1)] [] [inR .i64 (i + 1)] hB ⟨(Zac om om), trivial⟩ ?_
     exact Zbf _ om ⟨(i + 1), rfl, om, (by intro j hj; by_cases ej : j = i.toNat; (subst ej; first | assumption | exact hok); exact hall0 j om), rfl⟩
    have hok := Zvw h2 hi0.1 h3
    refine Zbm [(6, .call [(true, .any)] true (Bv true)), (10, .dec false)] [0, 3, 46] [] [(0 : Int) ≤ i ∧ i < (x.Strokes.length : Int), Con Tryz.prog 57 [.ptr false [Zaq false ((at_ x.Strokes i.toNat).Points)]] true (Bv true) ∧ True, _] hB ⟨⟨om, om⟩, ⟨(Zap h2 (Zim (at_ x.Strokes i.toNat))), trivial⟩, h3, trivial⟩ ?_
    refine Zaa ?_
    refine Zbj ?_
    refine Zas ?_
    refine Zba 1 ?_
    refine Zaa ?_
    refine Zdg [] [0, 3] [] [.ptr false [Zae false x.Strokes], I (i + 1)] [] [inR .i64 (i + 1)] hB ⟨(Zac om om), trivial⟩ ?_
    exact Zbf _ om ⟨(i + 1), rfl, om, (by intro j hj; by_cases ej : j = i.toNat; (subst ej; first | assumption | exact hok); exact hall0 j om), rfl⟩
   have hall : Znc x.Strokes.length (Zok x.Strokes) = false := Zgg hi (Yav (by simpa using h2))
   refine Zbm [(6, .call [(true, .any)] true (Bv false))] [0, 3, 46] [] [(0 : Int) ≤ i ∧ i < (x.Strokes.length : Int), Con Tryz.prog 57 [.ptr false [Zaq false ((at_ x.Strokes i.toNat).Points)]] true (Bv false) ∧ True] hB ⟨⟨om, om⟩, ⟨(Zap h2 (Zim (at_ x.Strokes i.toNat))), trivial⟩, trivial⟩ ?_
   refine Zaa ?_
   refine Zbq ?_
   refine aR [] [2] [] [Bv false] [] [] hB trivial ?_
   refine Zam ?_
   refine Zao (Zak (Zak (Zao (Zak ?_))))
   refine Zan hB (Bv false) (by kernel_rfl) (.inl (by first | rfl | (refine congrArg Bv ?_; simp [Zbp, *]; done) | (refine congrArg Bv ?_; simp [Zbp, *]; omega) | (refine congrArg Bv ?_; simp_all [Zbp]; done) | (refine congrArg Bv ?_; simp_all [Zbp]; omega))) rfl (fun _ => trivial)
  have hall : Znc x.Strokes.length (Zok x.Strokes) = true := Zit (fun j hj => hall0 j om)
  refine Zbm [(6, .dec false)] [0, 3, 10] [] [_] hB ⟨h1, trivial⟩ ?_
  refine Zaa ?_
  refine Zbj ?_
  refine Zcj ?_
  refine Zal ?_
  refine Zal ?_
  refine Zaw ?_
  refine Zaa ?_
  refine aR [] [2] [] [Bv (decide ((x.Strokes.length : Int) ≤ 16))] [] [] hB trivial ?_
  refine Zam ?_
  refine Zan hB (Bv (decide ((x.Strokes.length : Int) ≤ 16))) (by kernel_rfl) (.inl (by first | rfl | (refine congrArg Bv ?_; simp [Zbp, *]; done) | (refine congrArg Bv ?_; simp [Zbp, *]; omega) | (refine congrArg Bv ?_; simp_all [Zbp]; done) | (refine congrArg Bv ?_; simp_all [Zbp]; omega))) rfl (fun _ => trivial)
theorem Zmh (s : Stroke) (ok : Zar s = true) : Con Tryz.prog 142 [.ptr false [Zaq false s.Points]] true (Bv (Zrh s)) := by
  have hbo := Zin ok
  unfold Zfk at hbo
  refine Zbu (fn := Tryz.f142) (nt := 20) Tryz.func142 rfl rfl rfl rfl (by simp [Zag, Zaj, Zec]) fun B hB => ?_
  refine Zbt (x := .ptr false [Zaq false s.Points]) 0 rfl (fun len_s => ?_)
  simp [Zdk, Zgf, Zee, Zdl, Zaq] at len_s
  refine aQ [] [0] [] [] hB trivial ?_
  refine aQ [(1, .call [(true, .any)] true (Zfo (Zby s.Points s.Points.length))), (2, .new 3)] [3] [3] [_ ∧ True] hB ⟨⟨(Zhw s ok), trivial⟩, trivial⟩ ?_
  refine Zah ?_
  by_cases h1 : (((Zby s.Points s.Points.length).X2) - ((Zby s.Points s.Points.length).X1)) ≤ 160
  ·refine Zdg [(5, .dec true)] [2] [] [Bv (decide ((((Zby s.Points s.Points.length).Y2) - ((Zby s.Points s.Points.length).Y1)) ≤ 160))] [] [inR .i64 (((Zby s.Points s.Points.length).X2) - ((Zby s.Points s.Points.length).X1)), _, inR .i64 (((Zby s.Points s.Points.length).Y2) - ((Zby s.Points s.Points.length).Y1))] hB ⟨(Zac om om), h1, (Zac om om), trivial⟩ ?_
   refine Zaa ?_
   refine Zam ?_
   refine Zan hB (Bv (decide ((((Zby s.Points s.Points.length).Y2) - ((Zby s.Points s.Points.length).Y1)) ≤ 160))) (by kernel_rfl) (.inl (by refine congrArg Bv ?_; first | (simp [Zrh, *]; done) | (simp [Zrh]; omega))) rfl (fun _ => trivial)
  refine Zdg [(5, .dec false)] [2] [] [Bv false] [] [inR .i64 (((Zby s.Points s.Points.length).X2) - ((Zby s.Points s.Points.length).X1)), _] hB ⟨(Zac om om), h1, trivial⟩ ?_
  refine Zaa ?_
  refine Zam ?_
  refine Zan hB (Bv false) (by kernel_rfl) (.inl (by refine congrArg Bv ?_; first | (simp [Zrh, *]; done) | (simp [Zrh]; omega))) rfl (fun _ => trivial)
theorem Yde (x : Ink) (stroke : Int) (ok : Zbp x = true) (hs : 0 ≤ stroke ∧ stroke < (x.Strokes.length : Int)) : Con Tryz.prog 102 [.ptr false [Zae false x.Strokes], I stroke] true (I (Zdh x.Strokes stroke.toNat)) := by
  have hio : stroke.toNat < x.Strokes.length := by omega
  have hod := Zdc ok _ hio
  have hbd := Zin hod
  unfold Zfk at hbd
  refine Zbu (fn := Tryz.f102) (nt := 69) Tryz.func102 rfl rfl rfl rfl (by simp [Zag, Zaj, Zck]) fun B hB => ?_
  refine Zbt (x := .ptr false [Zae false x.Strokes]) 0 rfl (fun len_x => ?_)
  simp [Zdk, Zgf, Zee, Zft, Zdl, Zbl, Zaq, Zae] at len_x
  refine aQ [] [0, 1] [] [] hB trivial ?_
  refine Zah ?_
  refine Zah ?_
  rcases Bool.eq_false_or_eq_true (Zrh (at_ x.Strokes stroke.toNat)) with h1 | h1
  ·refine Zbm [(6, .call [(true, .any)] true (Bv true))] [0, 1, 18] [] [(0 : Int) ≤ stroke ∧ stroke < (x.Strokes.length : Int), Con Tryz.prog 142 [.ptr false [Zaq false ((at_ x.Strokes stroke.toNat).Points)]] true (Bv true) ∧ True] hB ⟨⟨om, om⟩, ⟨(Zap h1 (Zmh (at_ x.Strokes stroke.toNat) (by first | assumption | exact Zdc ok _ om))), trivial⟩, trivial⟩ ?_
   refine Zaa ?_
   refine Zbj ?_
   refine Zas ?_
   refine Zaa ?_
   refine aQ [(6, .call [(true, .any)] true (Zfo (Zby (at_ x.Strokes stroke.toNat).Points (at_ x.Strokes stroke.toNat).Points.length))), (7, .new 5)] [0, 1, 5] [5] [(0 : Int) ≤ stroke ∧ stroke < (x.Strokes.length : Int), _ ∧ True] hB ⟨⟨om, om⟩, ⟨(Zhw (at_ x.Strokes stroke.toNat) (by first | assumption | exact Zdc ok _ om)), trivial⟩, trivial⟩ ?_
   refine aQ [] [0, 1, 5, 6] [5] [] hB trivial ?_
   refine aQ [] [0, 1, 5, 6, 7] [5] [] hB trivial ?_
   refine Zah ?_
   refine aR [] [0, 1, 5, 6, 7, 8] [5] [.ptr false [Zae false x.Strokes], I stroke, .ref 5 0, I (-1), I 0, I 0] [some (Zef (Zby (at_ x.Strokes stroke.toNat).Points (at_ x.Strokes stroke.toNat).Points.length))] [] hB trivial ?_
   refine Zau ?_
   refine Zcn (fun gn gσ => ∃ (home : Int) (most : Int) (k : Int), gn = (stroke - k).toNat ∧ (0 ≤ k ∧ k ≤ stroke) ∧ (home = (Zhh x.Strokes (Zby (at_ x.Strokes stroke.toNat).Points (at_ x.Strokes stroke.toNat).Points.length) k.toNat).1 ∧ (home = -1 → most = 0) ∧ (¬ home = -1 → most = (Zhh x.Strokes (Zby (at_ x.Strokes stroke.toNat).Points (at_ x.Strokes stroke.toNat).Points.length) k.toNat).2)) ∧ gσ = mkS [(0, .ptr false [Zae false x.Strokes]), (1, I stroke), (5, .ref 5 0), (6, I home), (7, I most), (8, I k)] [(5, Zef (Zby (at_ x.Strokes stroke.toNat).Points (at_ x.Strokes stroke.toNat).Points.length))]) ((stroke - 0).toNat) ⟨(-1), 0, 0, rfl, om, (by exact ⟨rfl, fun _ => rfl, fun q => absurd rfl q⟩), rfl⟩ (fun gn gσ hI => ?_)
   obtain ⟨home, most, k, rfl, hi0, hg0, rfl⟩ := hI
   refine Zah ?_
   refine Zah ?_
   by_cases h2 : k < stroke
   ·have hi : k.toNat < x.Strokes.length := by omega
    have hos := Zdc ok _ hi
    have hbo := Zin hos
    unfold Zfk at hbo
    have hcm : Zrf (at_ x.Strokes k.toNat) (Zby (at_ x.Strokes stroke.toNat).Points (at_ x.Strokes stroke.toNat).Points.length) = Zrf (at_ x.Strokes k.toNat) (Zby (at_ x.Strokes stroke.toNat).Points (at_ x.Strokes stroke.toNat).Points.length) := rfl
    have hgb := Zou x.Strokes (Zby (at_ x.Strokes stroke.toNat).Points (at_ x.Strokes stroke.toNat).Points.length) k.toNat
    refine Zbm [(2, .dec true)] [0, 1, 5, 6, 7, 8, 28] [5] [_] hB ⟨h2, trivial⟩ ?_
    refine Zaa ?_
    refine Zbq ?_
    refine Zas ?_
    refine Zaa ?_
    refine Zah ?_
    refine Zau ?_
    refine Zah ?_
    refine Zah ?_
    rcases Bool.eq_false_or_eq_true (Zrh (at_ x.Strokes k.toNat)) with h3 | h3
    ·have hgn := Zmi (ss := x.Strokes) (d := (Zby (at_ x.Strokes stroke.toNat).Points (at_ x.Strokes stroke.toNat).Points.length)) hi0.1 (fun q => by have q1 := q.1; rw [h3] at q1; cases q1)
     refine Zbm [(6, .call [(true, .any)] true (Bv true))] [0, 1, 5, 6, 7, 8, 37] [5] [(0 : Int) ≤ k ∧ k < (x.Strokes.length : Int), Con Tryz.prog 142 [.ptr false [Zaq false ((at_ x.Strokes k.toNat).Points)]] true (Bv true) ∧ True] hB ⟨⟨om, om⟩, ⟨(Zap h3 (Zmh (at_ x.Strokes k.toNat) (by first | assumption | exact Zdc ok _ om))), trivial⟩, trivial⟩ ?_
     refine Zaa ?_
     refine Zbq ?_
     refine Zcj ?_
     refine Zal ?_
     refine Zaw ?_
     refine Zaa ?_
     refine Zdg [] [0, 1, 5, 6, 7, 8] [5] [.ptr false [Zae false x.Strokes], I stroke, .ref 5 0, I home, I most, I (k + 1)] [some (Zef (Zby (at_ x.Strokes stroke.toNat).Points (at_ x.Strokes stroke.toNat).Points.length))] [inR .i64 (k + 1)] hB ⟨(Zac om om), trivial⟩ ?_
     exact Zbf _ om ⟨home, most, (k + 1), rfl, om, (by rw [hgn]; first | exact hg0 | exact ⟨rfl, fun q => by omega, fun _ => by unfold Zrf; omega⟩), rfl⟩
    refine Zbm [(6, .call [(true, .any)] true (Bv false))] [0, 1, 5, 6, 7, 8, 37] [5] [(0 : Int) ≤ k ∧ k < (x.Strokes.length : Int), Con Tryz.prog 142 [.ptr false [Zaq false ((at_ x.Strokes k.toNat).Points)]] true (Bv false) ∧ True] hB ⟨⟨om, om⟩, ⟨(Zap h3 (Zmh (at_ x.Strokes k.toNat) (by first | assumption | exact Zdc ok _ om))), trivial⟩, trivial⟩ ?_
    refine Zaa ?_
    refine Zbj ?_
    refine Zas ?_
    refine Zaa ?_
    refine aQ [(6, .call [(true, .any)] true (Zfo (Zby (at_ x.Strokes k.toNat).Points (at_ x.Strokes k.toNat).Points.length))), (7, .new 9)] [0, 1, 5, 6, 7, 8, 9] [5, 9] [(0 : Int) ≤ k ∧ k < (x.Strokes.length : Int), _ ∧ True] hB ⟨⟨om, om⟩, ⟨(Zhw (at_ x.Strokes k.toNat) (by first | assumption | exact Zdc ok _ om)), trivial⟩, trivial⟩ ?_
    refine aQ [(5, .call [(true, .any), (true, .any)] true (I (min (((Zby (at_ x.Strokes stroke.toNat).Points (at_ x.Strokes stroke.toNat).Points.length).X2) + 40) ((Zby (at_ x.Strokes k.toNat).Points (at_ x.Strokes k.toNat).Points.length).X2)))), (11, .call [(true, .any), (true, .any)] true (I (max (((Zby (at_ x.Strokes stroke.toNat).Points (at_ x.Strokes stroke.toNat).Points.length).X1) - 40) ((Zby (at_ x.Strokes k.toNat).Points (at_ x.Strokes k.toNat).Points.length).X1))))] [0, 1, 5, 6, 7, 8, 10] [5] [inR .i64 (((Zby (at_ x.Strokes stroke.toNat).Points (at_ x.Strokes stroke.toNat).Points.length).X2) + 40), _ ∧ True, inR .i64 (((Zby (at_ x.Strokes stroke.toNat).Points (at_ x.Strokes stroke.toNat).Points.length).X1) - 40), _ ∧ True, inR .i64 ((min (((Zby (at_ x.Strokes stroke.toNat).Points (at_ x.Strokes stroke.toNat).Points.length).X2) + 40) ((Zby (at_ x.Strokes k.toNat).Points (at_ x.Strokes k.toNat).Points.length).X2)) - (max (((Zby (at_ x.Strokes stroke.toNat).Points (at_ x.Strokes stroke.toNat).Points.length).X1) - 40) ((Zby (at_ x.Strokes k.toNat).Points (at_ x.Strokes k.toNat).Points.length).X1))), inR .i64 (((min (((Zby (at_ x.Strokes stroke.toNat).Points (at_ x.Strokes stroke.toNat).Points.length).X2) + 40) ((Zby (at_ x.Strokes k.toNat).Points (at_ x.Strokes k.toNat).Points.length).X2)) - (max (((Zby (at_ x.Strokes stroke.toNat).Points (at_ x.Strokes stroke.toNat).Points.length).X1) - 40) ((Zby (at_ x.Strokes k.toNat).Points (at_ x.Strokes k.toNat).Points.length).X1))) + 1)] hB ⟨(Zac om om), ⟨(Zfp (((Zby (at_ x.Strokes stroke.toNat).Points (at_ x.Strokes stroke.toNat).Points.length).X2) + 40) ((Zby (at_ x.Strokes k.toNat).Points (at_ x.Strokes k.toNat).Points.length).X2)), trivial⟩, (Zac om om), ⟨(Zhx (((Zby (at_ x.Strokes stroke.toNat).Points (at_ x.Strokes stroke.toNat).Points.length).X1) - 40) ((Zby (at_ x.Strokes k.toNat).Points (at_ x.Strokes k.toNat).Points.length).X1)), trivial⟩, (Zac om om), (Zac om om), trivial⟩ ?_
    refine Zah ?_
    by_cases h4 : 0 < (((min (((Zby (at_ x.Strokes stroke.toNat).Points (at_ x.Strokes stroke.toNat).Points.length).X2) + 40) ((Zby (at_ x.Strokes k.toNat).Points (at_ x.Strokes k.toNat).Points.length).X2)) - (max (((Zby (at_ x.Strokes stroke.toNat).Points (at_ x.Strokes stroke.toNat).Points.length).X1) - 40) ((Zby (at_ x.Strokes k.toNat).Points (at_ x.Strokes k.toNat).Points.length).X1))) + 1)
    ·by_cases h5 : most ≤ (((min (((Zby (at_ x.Strokes stroke.toNat).Points (at_ x.Strokes stroke.toNat).Points.length).X2) + 40) ((Zby (at_ x.Strokes k.toNat).Points (at_ x.Strokes k.toNat).Points.length).X2)) - (max (((Zby (at_ x.Strokes stroke.toNat).Points (at_ x.Strokes stroke.toNat).Points.length).X1) - 40) ((Zby (at_ x.Strokes k.toNat).Points (at_ x.Strokes k.toNat).Points.length).X1))) + 1)
     ·have hgn := Zvx (ss := x.Strokes) (d := (Zby (at_ x.Strokes stroke.toNat).Points (at_ x.Strokes stroke.toNat).Points.length)) hi0.1 h3 (by unfold Zrf; omega)
      refine Zbm [(1, .dec true), (5, .dec true)] [0, 1, 5, 6, 7, 8, 10, 65] [5] [_, _] hB ⟨h4, h5, trivial⟩ ?_
      refine Zaa ?_
      refine Zbq ?_
      refine aQ [] [0, 1, 5, 6, 8, 10] [5] [] hB trivial ?_
      refine Zbm [] [0, 1, 5, 6, 7, 8] [5] [] hB trivial ?_
      refine Zba 1 ?_
      refine Zaa ?_
      refine Zdg [] [0, 1, 5, 6, 7, 8] [5] [.ptr false [Zae false x.Strokes], I stroke, .ref 5 0, I k, I (((min (((Zby (at_ x.Strokes stroke.toNat).Points (at_ x.Strokes stroke.toNat).Points.length).X2) + 40) ((Zby (at_ x.Strokes k.toNat).Points (at_ x.Strokes k.toNat).Points.length).X2)) - (max (((Zby (at_ x.Strokes stroke.toNat).Points (at_ x.Strokes stroke.toNat).Points.length).X1) - 40) ((Zby (at_ x.Strokes k.toNat).Points (at_ x.Strokes k.toNat).Points.length).X1))) + 1), I (k + 1)] [some (Zef (Zby (at_ x.Strokes stroke.toNat).Points (at_ x.Strokes stroke.toNat).Points.length))] [inR .i64 (k + 1)] hB ⟨(Zac om om), trivial⟩ ?_
      exact Zbf _ om ⟨k, (((min (((Zby (at_ x.Strokes stroke.toNat).Points (at_ x.Strokes stroke.toNat).Points.length).X2) + 40) ((Zby (at_ x.Strokes k.toNat).Points (at_ x.Strokes k.toNat).Points.length).X2)) - (max (((Zby (at_ x.Strokes stroke.toNat).Points (at_ x.Strokes stroke.toNat).Points.length).X1) - 40) ((Zby (at_ x.Strokes k.toNat).Points (at_ x.Strokes k.toNat).Points.length).X1))) + 1), (k + 1), rfl, om, (by rw [hgn]; first | exact hg0 | exact ⟨rfl, fun q => by omega, fun _ => by unfold Zrf; omega⟩), rfl⟩
     have hgn := Zmi (ss := x.Strokes) (d := (Zby (at_ x.Strokes stroke.toNat).Points (at_ x.Strokes stroke.toNat).Points.length)) hi0.1 (fun q => by have q2 := q.2; unfold Zrf at q2; omega)
     refine Zbm [(1, .dec true), (5, .dec false)] [0, 1, 5, 6, 7, 8, 10, 65] [5] [_, _] hB ⟨h4, h5, trivial⟩ ?_
     refine Zaa ?_
     refine Zbj ?_
     refine Zas ?_
     refine Zba 1 ?_
     refine Zaa ?_
     refine Zdg [] [0, 1, 5, 6, 7, 8] [5] [.ptr false [Zae false x.Strokes], I stroke, .ref 5 0, I home, I most, I (k + 1)] [some (Zef (Zby (at_ x.Strokes stroke.toNat).Points (at_ x.Strokes stroke.toNat).Points.length))] [inR .i64 (k + 1)] hB ⟨(Zac om om), trivial⟩ ?_
     exact Zbf _ om ⟨home, most, (k + 1), rfl, om, (by rw [hgn]; first | exact hg0 | exact ⟨rfl, fun q => by omega, fun _ => by unfold Zrf; omega⟩), rfl⟩
    have hgn := Zmi (ss := x.Strokes) (d := (Zby (at_ x.Strokes stroke.toNat).Points (at_ x.Strokes stroke.toNat).Points.length)) hi0.1 (fun q => by have q2 := q.2; unfold Zrf at q2; omega)
    refine Zbm [(1, .dec false)] [0, 1, 5, 6, 7, 8, 10, 65] [5] [_] hB ⟨h4, trivial⟩ ?_
    refine Zaa ?_
    refine Zbj ?_
    refine Zas ?_
    refine Zba 1 ?_
    refine Zaa ?_
    refine Zdg [] [0, 1, 5, 6, 7, 8] [5] [.ptr false [Zae false x.Strokes], I stroke, .ref 5 0, I home, I most, I (k + 1)] [some (Zef (Zby (at_ x.Strokes stroke.toNat).Points (at_ x.Strokes stroke.toNat).Points.length))] [inR .i64 (k + 1)] hB ⟨(Zac om om), trivial⟩ ?_
    exact Zbf _ om ⟨home, most, (k + 1), rfl, om, (by rw [hgn]; first | exact hg0 | exact ⟨rfl, fun q => by omega, fun _ => by unfold Zrf; omega⟩), rfl⟩
   have hie : k.toNat = stroke.toNat := by omega
   refine Zbm [(2, .dec false)] [0, 1, 5, 6, 7, 8, 28] [5] [_] hB ⟨h2, trivial⟩ ?_
   refine Zaa ?_
   refine Zbj ?_
   refine Zcj ?_
   refine Zal ?_
   refine Zal ?_
   refine Zaw ?_
   refine Zaa ?_
   refine aR [] [4] [] [I home] [] [] hB trivial ?_
   refine Zam ?_
   refine Zan hB (I home) (by kernel_rfl) (.inl (by first | (rw [Zdh, if_pos (by assumption), ← hie]; exact congrArg I hg0.1) | (simp [Zdh, *]; done))) rfl (fun _ => trivial)
  refine Zbm [(6, .call [(true, .any)] true (Bv false))] [0, 1, 18] [] [(0 : Int) ≤ stroke ∧ stroke < (x.Strokes.length : Int), Con Tryz.prog 142 [.ptr false [Zaq false ((at_ x.Strokes stroke.toNat).Points)]] true (Bv false) ∧ True] hB ⟨⟨om, om⟩, ⟨(Zap h1 (Zmh (at_ x.Strokes stroke.toNat) (by first | assumption | exact Zdc ok _ om))), trivial⟩, trivial⟩ ?_
  refine Zaa ?_
  refine Zbq ?_
  refine aR [] [4] [] [I (-1)] [] [] hB trivial ?_
  refine Zam ?_
  refine Zak ?_
  refine Zan hB (I (-1)) (by kernel_rfl) (.inl (by first | (rw [Zdh, if_pos (by assumption), ← hie]; exact congrArg I hg0.1) | (simp [Zdh, *]; done))) rfl (fun _ => trivial)
theorem app_next {xs : List Int} {i : Int} {f : Nat → Int} {y : Int} (hl : (xs.length : Int) = i) (h : ∀ j : Nat, (j : Int) < i → at_ xs j = f j) (hy : y = f i.toNat) : ∀ j : Nat, (j : Int) < i + 1 → at_ (xs ++ [y]) j = f j := fun j hj => by
 by_cases e : (j : Int) < i
 ·have : at_ (xs ++ [y]) j = at_ xs j := by simp [at_, List.getElem?_append_left (show j < xs.length by omega)]
  rw [this]; exact h j e
 ·have : j = xs.length := by omega
  subst this
  have e2 : i.toNat = xs.length := by omega
  simp [at_, hy, e2]
theorem Zyq (ik : Ink) (ok : Zbp ik = true) : ∃ (order : List Int), (order = Yaw ik.Strokes) ∧ Zbb Tryz.prog 59 [.ptr false [Zae false ik.Strokes]] (Zaf []) false (.arr 8311) (Zaf [(8311, tAI order)]) := by
  have hil := Zgp ok
  have hh : ∃ r : (List Int), ((r = Yaw ik.Strokes) ∧ (True)) ∧ Zbb Tryz.prog 59 [.ptr false [Zae false ik.Strokes]] (Zaf []) false (.arr 8311) (Zaf [(8311, tAI r)]) := by
    refine Zdv (Φ := fun r : (List Int) => (r = Yaw ik.Strokes) ∧ (True)) [] (fun r => [(8311, tAI r)]) (fn := Tryz.f59) (nt := 57) Tryz.func59 rfl rfl (args := [.ptr false [Zae false ik.Strokes]]) rfl (Zbd (.inl ⟨rfl, by simp [Zaj, Zag, Zck]⟩) Zdp) (res := fun r => .arr 8311) ?_
    refine xQ [] [0] [] [] trivial ?_
    refine xQ [(0, .new 8)] [0, 3] [8] [] trivial ?_
    refine Zat ?_
    refine xR [] [0, 3, 4] [8] [.ptr false [Zae false ik.Strokes], .arr 8, I 0] [some (.arr 1 0 (Zgm [] 1))] [] trivial ?_
    refine Zbn ?_
    refine Zcw [] (T := [(0, .ptr false [Zae false ik.Strokes]), (3, .arr 8), (4, I 0)]) (O := [(8, tAI ([] : List Int))]) rfl (⟨.inl rfl, .inl rfl, .inl rfl, trivial⟩) (⟨.inr ⟨rfl, (by first | rfl | (simp; done) | (simp; omega) | omega), fun i_ hi_ => absurd hi_ (Nat.not_lt_zero _)⟩, trivial⟩) ?_
    refine Zeb (X := (List Int) × Int) (fun x => mkS [(0, .ptr false [Zae false ik.Strokes]), (3, .arr 8), (4, I x.2)] [(8, tAI x.1)]) (fun x => (0 ≤ x.2 ∧ x.2 ≤ (ik.Strokes.length : Int)) ∧ ((x.1.length : Int) = x.2) ∧ (∀ j : Nat, (j : Int) < x.2 → at_ x.1 j = Zdh ik.Strokes j) ∧ True) (fun x => ((ik.Strokes.length : Int) - x.2).toNat) (([] : List Int), 0) rfl (show (0 ≤ (0 : Int) ∧ (0 : Int) ≤ (ik.Strokes.length : Int)) ∧ ((([] : List Int).length : Int) = (0 : Int)) ∧ (∀ j : Nat, (j : Int) < (0 : Int) → at_ ([] : List Int) j = Zdh ik.Strokes j) ∧ True from ⟨om, (by rfl), (by intro j hj; omega), trivial⟩) (fun x hI => ?_)
    obtain ⟨homes, k⟩ := x
    obtain ⟨hi0, hl0, hh0, _⟩ : (0 ≤ k ∧ k ≤ (ik.Strokes.length : Int)) ∧ ((homes.length : Int) = k) ∧ (∀ j : Nat, (j : Int) < k → at_ homes j = Zdh ik.Strokes j) ∧ True := hI
    show XW _ _ _ _ (mkS [(0, .ptr false [Zae false ik.Strokes]), (3, .arr 8), (4, I k)] [(8, tAI homes)]) _ _
    refine Zat ?_
    refine Zat ?_
    by_cases h1 : k < (ik.Strokes.length : Int)
    ·have hi : k.toNat < ik.Strokes.length := by omega
     refine x_q [(6, .dec true)] [0, 3, 4, 15] [8] [_] ⟨h1, trivial⟩ ?_
     refine Zad ?_
     refine Zfl ?_
     refine Zbv ?_
     refine Zad ?_
     refine Zat ?_
     refine Zbn ?_
     refine x_q [(3, .call [(true, .any), (true, .any)] true (I (Zdh ik.Strokes k.toNat))), (4, .new 22), (5, .new 23)] [0, 3, 4] [23] [_ ∧ True, (homes.length + 1) * 8 ≤ 140737488355328] ⟨⟨(Yde ik k ok om), trivial⟩, om, trivial⟩ ?_
     refine Zbo 1 ?_
     refine Zad ?_
     refine x_r [] [0, 3, 4] [23] [.ptr false [Zae false ik.Strokes], .arr 23, I (k + 1)] [some (.arr 1 (homes.length + 1) (Zgb homes.length (fI homes) (Zgm [I (Zdh ik.Strokes k.toNat)] 1)))] [inR .i64 (k + 1)] ⟨(Zac om om), trivial⟩ ?_
     refine Zcl [(8, 23)] (T := [(0, .ptr false [Zae false ik.Strokes]), (3, .arr 8), (4, I (k + 1))]) (O := [(8, tAI (homes ++ [(Zdh ik.Strokes k.toNat)]))]) rfl (⟨.inl rfl, .inl rfl, .inl rfl, trivial⟩) (⟨.inr ⟨rfl, (by first | rfl | (simp; done) | (simp; omega) | omega), fun i_ hi_ => .inl (Zcm (enc := cI) (xs := homes) rfl i_ hi_)⟩, trivial⟩) (Zbh ((homes ++ [(Zdh ik.Strokes k.toNat)]), (k + 1)) rfl (show (0 ≤ (k + 1) ∧ (k + 1) ≤ (ik.Strokes.length : Int)) ∧ (((homes ++ [(Zdh ik.Strokes k.toNat)]).length : Int) = (k + 1)) ∧ (∀ j : Nat, (j : Int) < (k + 1) → at_ (homes ++ [(Zdh ik.Strokes k.toNat)]) j = Zdh ik.Strokes j) ∧ True from ⟨om, (by simp; omega), (by exact app_next hl0 hh0 rfl), trivial⟩) (by first | (show (((ik.Strokes.length : Int) - (k + 1)).toNat : Nat) < ((ik.Strokes.length : Int) - k).toNat; omega) | (dsimp only; omega)))
    have hfin : homes = Zaz ik.Strokes := Zvy om (fun j hj => hh0 j om)
    subst hfin
    refine x_r [(6, .dec false)] [0, 3, 4, 15] [8] [.ptr false [Zae false ik.Strokes], .arr 8, I k, Bv false] [some (tAI (Zaz ik.Strokes))] [_] ⟨h1, trivial⟩ ?_
    refine Zad ?_
    refine Zcd rfl ?_
    refine Zde ?_
    refine Zax ?_
    refine Zbe ?_
    refine Zay ?_
    refine Zad ?_
    refine xQ [(0, .new 24)] [3, 5] [8, 24] [] trivial ?_
    refine Zat ?_
    refine xR [] [3, 5, 6] [8, 24] [.arr 8, .arr 24, I 0] [some (tAI (Zaz ik.Strokes)), some (.arr 1 0 (Zgm [] 1))] [] trivial ?_
    refine Zbn ?_
    refine Zcw [] (T := [(3, slI true (Zaz ik.Strokes)), (5, .arr 24), (6, I 0)]) (O := [(24, tAI ([] : List Int))]) rfl (⟨.inr ⟨(fun _ => rfl), rfl, rfl, fun i _ => .inl rfl⟩, .inl rfl, .inl rfl, trivial⟩) (⟨.inr ⟨rfl, (by first | rfl | (simp; done) | (simp; omega) | omega), fun i_ hi_ => absurd hi_ (Nat.not_lt_zero _)⟩, trivial⟩) ?_
    refine Zeb (X := (List Int) × Int) (fun x => mkS [(3, slI true (Zaz ik.Strokes)), (5, .arr 24), (6, I x.2)] [(24, tAI x.1)]) (fun x => (0 ≤ x.2 ∧ x.2 ≤ (ik.Strokes.length : Int)) ∧ (x.1 = Zjj (Zaz ik.Strokes) x.2.toNat) ∧ True) (fun x => ((ik.Strokes.length : Int) - x.2).toNat) (([] : List Int), 0) rfl (show (0 ≤ (0 : Int) ∧ (0 : Int) ≤ (ik.Strokes.length : Int)) ∧ (([] : List Int) = Zjj (Zaz ik.Strokes) (0 : Int).toNat) ∧ True from ⟨om, (by rfl), trivial⟩) (fun x hI => ?_)
    obtain ⟨out, q⟩ := x
    obtain ⟨hi1, ho1, _⟩ : (0 ≤ q ∧ q ≤ (ik.Strokes.length : Int)) ∧ (out = Zjj (Zaz ik.Strokes) q.toNat) ∧ True := hI
    show XW _ _ _ _ (mkS [(3, slI true (Zaz ik.Strokes)), (5, .arr 24), (6, I q)] [(24, tAI out)]) _ _
    refine Zat ?_
    refine Zat ?_
    by_cases h2 : q < (((Zaz ik.Strokes).length) : Int)
    ·have hi : q.toNat < ik.Strokes.length := by omega
     have hol := Zte (Zaz ik.Strokes) q.toNat
     rw [Zep] at hol
     have hlb := Nat.mul_le_mul (show q.toNat ≤ 16 by omega) (show ik.Strokes.length + 1 ≤ 17 by omega)
     have hrl := Zmj (Zaz ik.Strokes) q.toNat ik.Strokes.length
     have hhl := Zep ik.Strokes
     have holn : out.length = (Zjj (Zaz ik.Strokes) q.toNat).length := by rw [ho1]
     refine x_q [(3, .dec true)] [3, 5, 6, 28] [24] [_] ⟨h2, trivial⟩ ?_
     refine Zad ?_
     refine Zfl ?_
     refine Zbv ?_
     refine Zad ?_
     refine Zat ?_
     refine Zbn ?_
     refine Zat ?_
     refine Zat ?_
     by_cases h3 : 0 ≤ (at_ (Zaz ik.Strokes) q.toNat)
     ·refine x_q [(4, .dec true)] [3, 5, 6, 35] [24] [(0 : Int) ≤ q ∧ q < (((Zaz ik.Strokes).length) : Int), _] ⟨⟨om, om⟩, h3, trivial⟩ ?_
      refine Zad ?_
      refine Zfl ?_
      refine Zde ?_
      refine Zax ?_
      refine Zay ?_
      refine Zad ?_
      refine x_r [] [3, 5, 6] [24] [slI true (Zaz ik.Strokes), .arr 24, I (q + 1)] [some (tAI out)] [inR .i64 (q + 1)] ⟨(Zac om om), trivial⟩ ?_
      exact Zbh (out, (q + 1)) rfl (show (0 ≤ (q + 1) ∧ (q + 1) ≤ (ik.Strokes.length : Int)) ∧ (out = Zjj (Zaz ik.Strokes) (q + 1).toNat) ∧ True from ⟨om, (by first | (rw [Ztf hi1.1 om]; exact ho1) | (rw [Zov hi1.1 (Zep _).symm om, ho2, hie])), trivial⟩) (by first | (show (((ik.Strokes.length : Int) - (q + 1)).toNat : Nat) < ((ik.Strokes.length : Int) - q).toNat; omega) | (dsimp only; omega))
     refine x_q [(4, .dec false)] [3, 5, 6, 35] [24] [(0 : Int) ≤ q ∧ q < (((Zaz ik.Strokes).length) : Int), _] ⟨⟨om, om⟩, h3, trivial⟩ ?_
     refine Zad ?_
     refine Zkr ?_
     refine Zbv ?_
     refine Zad ?_
     refine xQ [(2, .new 38), (3, .new 39)] [3, 5, 6] [39] [(out.length + 1) * 8 ≤ 140737488355328] ⟨om, trivial⟩ ?_
     refine xR [] [3, 5, 6, 7] [39] [slI true (Zaz ik.Strokes), .arr 39, I q, I 0] [some (.arr 1 (out.length + 1) (Zgb out.length (fI out) (Zgm [I q] 1)))] [] trivial ?_
     refine Zbn ?_
     refine Zcw [] (T := [(3, slI true (Zaz ik.Strokes)), (5, .arr 39), (6, I q), (7, I 0)]) (O := [(39, tAI (out ++ [q]))]) rfl (⟨.inl rfl, .inl rfl, .inl rfl, .inl rfl, trivial⟩) (⟨.inr ⟨rfl, (by first | rfl | (simp; done) | (simp; omega) | omega), fun i_ hi_ => .inl (Zcm (enc := cI) (xs := out) rfl i_ hi_)⟩, trivial⟩) ?_
     refine Zeb (X := (List Int) × Int) (fun x => mkS [(3, slI true (Zaz ik.Strokes)), (5, .arr 39), (6, I q), (7, I x.2)] [(39, tAI x.1)]) (fun x => (0 ≤ x.2 ∧ x.2 ≤ (ik.Strokes.length : Int)) ∧ (x.1 = (Zjj (Zaz ik.Strokes) q.toNat ++ [q]) ++ Zpn (Zaz ik.Strokes) q.toNat x.2.toNat) ∧ True) (fun x => ((ik.Strokes.length : Int) - x.2).toNat) ((out ++ [q]), 0) rfl (show (0 ≤ (0 : Int) ∧ (0 : Int) ≤ (ik.Strokes.length : Int)) ∧ ((out ++ [q]) = (Zjj (Zaz ik.Strokes) q.toNat ++ [q]) ++ Zpn (Zaz ik.Strokes) q.toNat (0 : Int).toNat) ∧ True from ⟨om, (by rw [ho1]; exact (List.append_nil _).symm), trivial⟩) (fun x hI => ?_)
     obtain ⟨out', d⟩ := x
     obtain ⟨hi2, ho2, _⟩ : (0 ≤ d ∧ d ≤ (ik.Strokes.length : Int)) ∧ (out' = (Zjj (Zaz ik.Strokes) q.toNat ++ [q]) ++ Zpn (Zaz ik.Strokes) q.toNat d.toNat) ∧ True := hI
     show XW _ _ _ _ (mkS [(3, slI true (Zaz ik.Strokes)), (5, .arr 39), (6, I q), (7, I d)] [(39, tAI out')]) _ _
     refine Zat ?_
     refine Zat ?_
     by_cases h4 : d < (((Zaz ik.Strokes).length) : Int)
     ·have hi2x : d.toNat < ik.Strokes.length := by omega
      have hrp := Zmj (Zaz ik.Strokes) q.toNat d.toNat
      have hon := congrArg List.length ho2
      simp only [List.length_append, List.length_cons, List.length_nil] at hon
      refine x_q [(3, .dec true)] [3, 5, 6, 7, 43] [39] [_] ⟨h4, trivial⟩ ?_
      refine Zad ?_
      refine Zfl ?_
      refine Zbv ?_
      refine Zad ?_
      refine Zat ?_
      refine Zbn ?_
      refine Zat ?_
      by_cases h5 : (at_ (Zaz ik.Strokes) d.toNat) = q
      ·refine x_q [(5, .dec true)] [3, 5, 6, 7, 51] [39] [(0 : Int) ≤ d ∧ d < (((Zaz ik.Strokes).length) : Int), _] ⟨⟨om, om⟩, h5, trivial⟩ ?_
       refine Zad ?_
       refine Zfl ?_
       refine x_q [(2, .new 54), (3, .new 55)] [3, 5, 6, 7] [55] [(out'.length + 1) * 8 ≤ 140737488355328] ⟨om, trivial⟩ ?_
       refine Zbo 5 ?_
       refine Zad ?_
       refine x_r [] [3, 5, 6, 7] [55] [slI true (Zaz ik.Strokes), .arr 55, I q, I (d + 1)] [some (.arr 1 (out'.length + 1) (Zgb out'.length (fI out') (Zgm [I d] 1)))] [inR .i64 (d + 1)] ⟨(Zac om om), trivial⟩ ?_
       refine Zcl [(39, 55)] (T := [(3, slI true (Zaz ik.Strokes)), (5, .arr 39), (6, I q), (7, I (d + 1))]) (O := [(39, tAI (out' ++ [d]))]) rfl (⟨.inl rfl, .inl rfl, .inl rfl, .inl rfl, trivial⟩) (⟨.inr ⟨rfl, (by first | rfl | (simp; done) | (simp; omega) | omega), fun i_ hi_ => .inl (Zcm (enc := cI) (xs := out') rfl i_ hi_)⟩, trivial⟩) (Zbh ((out' ++ [d]), (d + 1)) rfl (show (0 ≤ (d + 1) ∧ (d + 1) ≤ (ik.Strokes.length : Int)) ∧ ((out' ++ [d]) = (Zjj (Zaz ik.Strokes) q.toNat ++ [q]) ++ Zpn (Zaz ik.Strokes) q.toNat (d + 1).toNat) ∧ True from ⟨om, (by first | (rw [Zow hi2.1 hi1.1 om, ← List.append_assoc, ← ho2]; done) | (rw [Ztg hi2.1 hi1.1 om]; exact ho2)), trivial⟩) (by first | (show (((ik.Strokes.length : Int) - (d + 1)).toNat : Nat) < ((ik.Strokes.length : Int) - d).toNat; omega) | (dsimp only; omega)))
      refine x_q [(5, .dec false)] [3, 5, 6, 7, 51] [39] [(0 : Int) ≤ d ∧ d < (((Zaz ik.Strokes).length) : Int), _] ⟨⟨om, om⟩, h5, trivial⟩ ?_
      refine Zad ?_
      refine Zkr ?_
      refine Zbv ?_
      refine Zbo 5 ?_
      refine Zad ?_
      refine x_r [] [3, 5, 6, 7] [39] [slI true (Zaz ik.Strokes), .arr 39, I q, I (d + 1)] [some (tAI out')] [inR .i64 (d + 1)] ⟨(Zac om om), trivial⟩ ?_
      exact Zbh (out', (d + 1)) rfl (show (0 ≤ (d + 1) ∧ (d + 1) ≤ (ik.Strokes.length : Int)) ∧ (out' = (Zjj (Zaz ik.Strokes) q.toNat ++ [q]) ++ Zpn (Zaz ik.Strokes) q.toNat (d + 1).toNat) ∧ True from ⟨om, (by first | (rw [Zow hi2.1 hi1.1 om, ← List.append_assoc, ← ho2]; done) | (rw [Ztg hi2.1 hi1.1 om]; exact ho2)), trivial⟩) (by first | (show (((ik.Strokes.length : Int) - (d + 1)).toNat : Nat) < ((ik.Strokes.length : Int) - d).toNat; omega) | (dsimp only; omega))
     have hie : d.toNat = ik.Strokes.length := by omega
     refine x_r [(3, .dec false)] [3, 5, 6, 7, 43] [39] [slI true (Zaz ik.Strokes), .arr 39, I q, I d, Bv false] [some (tAI out')] [_] ⟨h4, trivial⟩ ?_
     refine Zad ?_
     refine Zcd rfl ?_
     refine Zde ?_
     refine Zax ?_
     refine Zbe ?_
     refine Zay ?_
     refine Zbo 3 ?_
     refine Zad ?_
     refine x_r [] [3, 5, 6] [39] [slI true (Zaz ik.Strokes), .arr 39, I (q + 1)] [some (tAI out')] [inR .i64 (q + 1)] ⟨(Zac om om), trivial⟩ ?_
     refine Zcl [(24, 39)] (T := [(3, slI true (Zaz ik.Strokes)), (5, .arr 24), (6, I (q + 1))]) (O := [(24, tAI out')]) rfl (⟨.inl rfl, .inl rfl, .inl rfl, trivial⟩) (⟨.inl rfl, trivial⟩) (Zbh (out', (q + 1)) rfl (show (0 ≤ (q + 1) ∧ (q + 1) ≤ (ik.Strokes.length : Int)) ∧ (out' = Zjj (Zaz ik.Strokes) (q + 1).toNat) ∧ True from ⟨om, (by first | (rw [Ztf hi1.1 om]; exact ho1) | (rw [Zov hi1.1 (Zep _).symm om, ho2, hie])), trivial⟩) (by first | (show (((ik.Strokes.length : Int) - (q + 1)).toNat : Nat) < ((ik.Strokes.length : Int) - q).toNat; omega) | (dsimp only; omega)))
    have hie : q.toNat = ik.Strokes.length := by omega
    refine x_r [(3, .dec false)] [3, 5, 6, 28] [24] [slI true (Zaz ik.Strokes), .arr 24, I q, Bv false] [some (tAI out)] [_] ⟨h2, trivial⟩ ?_
    refine Zad ?_
    refine Zcd rfl ?_
    refine Zde ?_
    refine Zax ?_
    refine Zbe ?_
    refine Zay ?_
    refine Zad ?_
    refine xR [] [2] [24] [.arr 24] [some (tAI out)] [] trivial ?_
    refine Zem ?_
    refine Zcl [(8311, 24)] (T := [(2, .arr 8311)]) (O := [(8311, tAI out)]) rfl (⟨.inl rfl, trivial⟩) (⟨.inl rfl, trivial⟩) ?_
    refine Zcz out (show (out = Yaw ik.Strokes) ∧ (True) from ⟨(by rw [ho1, hie]; rfl), trivial⟩) (⟨.inl rfl, trivial⟩) (.arr 8311) (by kernel_rfl) (.inl rfl) (fun h => by cases h) (fun h => by cases h)
  obtain ⟨order, ⟨hh0, _⟩, hc⟩ := hh
  exact ⟨order, hh0, hc⟩
theorem Zvz (list : List Int) (n : Int) : Con Tryz.prog 60 [slI false list, I n] true (Bv (decide (n ∈ list))) := by
  refine Zbu (fn := Tryz.f60) (nt := 18) Tryz.func60 rfl rfl rfl rfl (by simp [Zag, Zaj, tagI]) fun B hB => ?_
  refine Zbt (x := slI false list) 0 rfl (fun len_list => ?_)
  simp [Zdk, Zgf, cI, fI, slI] at len_list
  refine aQ [] [0, 1] [] [] hB trivial ?_
  refine Zah ?_
  refine aR [] [0, 1, 5] [] [slI false list, I n, I 0] [] [] hB trivial ?_
  refine Zau ?_
  refine Zcn (fun gn gσ => ∃ (i : Int), gn = ((list.length : Int) - i).toNat ∧ (0 ≤ i ∧ i ≤ (list.length : Int)) ∧ (∀ j : Nat, (j : Int) < i → at_ list j ≠ n) ∧ gσ = mkS [(0, slI false list), (1, I n), (5, I i)] []) (((list.length : Int) - 0).toNat) ⟨0, rfl, om, (by intro j hj; omega), rfl⟩ (fun gn gσ hI => ?_)
  obtain ⟨i, rfl, hi0, hn0, rfl⟩ := hI
  refine Zah ?_
  refine Zah ?_
  by_cases h1 : i < (list.length : Int)
  ·have hi : i.toNat < list.length := by omega
   refine Zbm [(3, .dec true)] [0, 1, 5, 9] [] [_] hB ⟨h1, trivial⟩ ?_
   refine Zaa ?_
   refine Zbq ?_
   refine Zas ?_
   refine Zaa ?_
   refine Zah ?_
   refine Zau ?_
   refine Zah ?_
   by_cases h2 : (at_ list i.toNat) = n
   ·have hyes : n ∈ list := by rw [← h2]; exact Zdf hi
    refine Zbm [(5, .dec true)] [0, 1, 5, 17] [] [(0 : Int) ≤ i ∧ i < (list.length : Int), _] hB ⟨⟨om, om⟩, h2, trivial⟩ ?_
    refine Zaa ?_
    refine Zbq ?_
    refine aR [] [4] [] [Bv true] [] [] hB trivial ?_
    refine Zam ?_
    refine Zao (Zak (Zak (Zao (Zak ?_))))
    refine Zan hB (Bv true) (by kernel_rfl) (.inl (by first | exact congrArg Bv (decide_eq_true hyes).symm | exact congrArg Bv (decide_eq_false hno).symm)) rfl (fun _ => trivial)
   refine Zbm [(5, .dec false)] [0, 1, 5, 17] [] [(0 : Int) ≤ i ∧ i < (list.length : Int), _] hB ⟨⟨om, om⟩, h2, trivial⟩ ?_
   refine Zaa ?_
   refine Zbj ?_
   refine Zas ?_
   refine Zba 1 ?_
   refine Zaa ?_
   refine Zdg [] [0, 1, 5] [] [slI false list, I n, I (i + 1)] [] [inR .i64 (i + 1)] hB ⟨(Zac om om), trivial⟩ ?_
   exact Zbf _ om ⟨(i + 1), rfl, om, (by intro j hj; by_cases e : (j : Int) = i; (have e2 : j = i.toNat := om; rw [e2]; assumption); exact hn0 j om), rfl⟩
  have hno : ¬ n ∈ list := fun hm => by obtain ⟨j, hj, e⟩ := List.getElem_of_mem hm; exact hn0 j om (by rw [Zej hj]; exact e)
  refine Zbm [(3, .dec false)] [0, 1, 5, 9] [] [_] hB ⟨h1, trivial⟩ ?_
  refine Zaa ?_
  refine Zbj ?_
  refine Zcj ?_
  refine Zal ?_
  refine Zal ?_
  refine Zaw ?_
  refine Zaa ?_
  refine aR [] [4] [] [Bv false] [] [] hB trivial ?_
  refine Zam ?_
  refine Zan hB (Bv false) (by kernel_rfl) (.inl (by first | exact congrArg Bv (decide_eq_true hyes).symm | exact congrArg Bv (decide_eq_false hno).symm)) rfl (fun _ => trivial)
def Zyp (x : Ink) (g : Group) (k : Nat) : List Stroke := (((Zjz x.Strokes.length).take k).filter fun q => decide (q ∈ Yfa x g)).map fun q => at_ x.Strokes q.toNat
theorem gup_y {x : Ink} {g : Group} {k : Nat} (hk : k < x.Strokes.length) (h : ((k : Nat) : Int) ∈ Yfa x g) : Zyp x g (k + 1) = Zyp x g k ++ [at_ x.Strokes k] := by
 unfold Zyp
 rw [List.take_succ_eq_append_getElem (by rw [Zox]; exact hk), List.filter_append, List.map_append, ← Zej, Yfb hk]
 simp [h]
theorem gup_n {x : Ink} {g : Group} {k : Nat} (hk : k < x.Strokes.length) (h : ¬ ((k : Nat) : Int) ∈ Yfa x g) : Zyp x g (k + 1) = Zyp x g k := by
 unfold Zyp
 rw [List.take_succ_eq_append_getElem (by rw [Zox]; exact hk), List.filter_append, List.map_append, ← Zej, Yfb hk]
 simp [h]
theorem Yfc (ik : Ink) (gr : Group) (ok : Zbp ik = true) (hg : okG (ik.Strokes.length : Int) gr) : ∃ (ss : List Stroke), (ss = (Zlc ik gr).Strokes) ∧ Zbb Tryz.prog 24 [.ptr false [Zae false ik.Strokes], .agg [I gr.From, I gr.To]] (Zaf []) false (.agg [.arr 8621]) (Zaf [(8621, Zbk 8622 ss), (8622, Zbg ss)]) := by
  have hil := Zgp ok
  have hol := Zth ik.Strokes
  have hg1 := hg.1
  have hg2 := hg.2.1
  have hg3 := hg.2.2
  have hh : ∃ r : (List Stroke), ((r = (Zlc ik gr).Strokes) ∧ (True)) ∧ Zbb Tryz.prog 24 [.ptr false [Zae false ik.Strokes], .agg [I gr.From, I gr.To]] (Zaf []) false (.agg [.arr 8621]) (Zaf [(8621, Zbk 8622 r), (8622, Zbg r)]) := by
    refine Zdv (Φ := fun r : (List Stroke) => (r = (Zlc ik gr).Strokes) ∧ (True)) [] (fun r => [(8621, Zbk 8622 r), (8622, Zbg r)]) (fn := Tryz.f24) (nt := 41) Tryz.func24 rfl rfl (args := [.ptr false [Zae false ik.Strokes], .agg [I gr.From, I gr.To]]) rfl (Zbd (.inl ⟨rfl, by simp [Zaj, Zag, Zck]⟩) (Zbd (.inl ⟨rfl, by simp [Zaj, Zag]⟩) Zdp)) (res := fun r => .agg [.arr 8621]) ?_
    refine xQ [(0, .new 3), (1, .new 4)] [0, 3, 4] [3, 4] [] trivial ?_
    refine Zat ?_
    obtain ⟨order_1, hx1_0, hc1⟩ := Zyq ik ok
    have hov := hx1_0
    have holn : order_1.length = ik.Strokes.length := by rw [hx1_0, hol]
    have hcu : ((order_1.take gr.To.toNat).drop gr.From.toNat) = Yfa ik gr := by rw [hov]; unfold Yfa; rw [List.drop_take]
    refine x_q [(1, .lend [] [(8311, tAI order_1)] [(true, .any)] false (.arr 8311))] [0, 4, 5] [4] [Zbb Tryz.prog 59 [.ptr false [Zae false ik.Strokes]] (Zaf []) false (.arr 8311) (Zaf [(8311, tAI order_1)]) ∧ True, (0 : Int) ≤ gr.From ∧ gr.From ≤ gr.To ∧ gr.To ≤ (order_1.length : Int)] ⟨⟨hc1, trivial⟩, ⟨om, om, om⟩, trivial⟩ ?_
    refine Zad ?_
    refine xQ [(1, .new 6)] [0, 4, 5, 6] [4, 6] [] trivial ?_
    refine Zat ?_
    refine xR [] [0, 4, 5, 6, 7] [4, 6] [.ptr false [Zae false ik.Strokes], .ref 4 0, .sl true 1 (gr.To.toNat - gr.From.toNat) (Zln gr.From.toNat (fI order_1)), .ref 6 0, I 0] [some (.box [Zcr]), some (.box [Zcr])] [] trivial ?_
    refine Zbn ?_
    refine Zmk 6 0 760 1 (fun _ => []) rfl (by kernel_rfl) ?_
    refine x_fam 8622 3 (fun _ => 0) (fun _ _ => []) (by kernel_rfl) ?_
    refine Zcw [] (T := [(0, .ptr false [Zae false ik.Strokes]), (4, .ref 4 0), (5, .sl true 1 (gr.To.toNat - gr.From.toNat) (Zln gr.From.toNat (fI order_1))), (6, .ref 6 0), (7, I 0)]) (O := [(4, .box [Zcr]), (6, .box [.arr 760]), (760, Zbk 8622 ([] : List Stroke)), (8622, Zbg ([] : List Stroke))]) rfl (⟨.inl rfl, .inl rfl, .inl rfl, .inl rfl, .inl rfl, trivial⟩) (⟨.inl rfl, .inl rfl, .inr ⟨rfl, rfl, fun i hi => absurd hi (Nat.not_lt_zero _)⟩, .inr ⟨rfl, rfl, fun p hp => absurd hp (Nat.not_lt_zero _)⟩, trivial⟩) ?_
    refine Zeb (X := Int × (List Stroke)) (fun x => mkS [(0, .ptr false [Zae false ik.Strokes]), (4, .ref 4 0), (5, .sl true 1 (gr.To.toNat - gr.From.toNat) (Zln gr.From.toNat (fI order_1))), (6, .ref 6 0), (7, I x.1)] [(4, .box [Zcr]), (6, .box [.arr 760]), (760, Zbk 8622 x.2), (8622, Zbg x.2)]) (fun x => (0 ≤ x.1 ∧ x.1 ≤ (ik.Strokes.length : Int)) ∧ (x.2 = Zyp ik gr x.1.toNat) ∧ ((x.2.length : Int) ≤ x.1) ∧ True) (fun x => ((ik.Strokes.length : Int) - x.1).toNat) (0, ([] : List Stroke)) rfl (show (0 ≤ (0 : Int) ∧ (0 : Int) ≤ (ik.Strokes.length : Int)) ∧ (([] : List Stroke) = Zyp ik gr (0 : Int).toNat) ∧ ((([] : List Stroke).length : Int) ≤ (0 : Int)) ∧ True from ⟨om, (by rfl), (by simp), trivial⟩) (fun x hI => ?_)
    obtain ⟨k, ss⟩ := x
    obtain ⟨hi0, hs0, hsl, _⟩ : (0 ≤ k ∧ k ≤ (ik.Strokes.length : Int)) ∧ (ss = Zyp ik gr k.toNat) ∧ ((ss.length : Int) ≤ k) ∧ True := hI
    show XW _ _ _ _ (mkS [(0, .ptr false [Zae false ik.Strokes]), (4, .ref 4 0), (5, .sl true 1 (gr.To.toNat - gr.From.toNat) (Zln gr.From.toNat (fI order_1))), (6, .ref 6 0), (7, I k)] [(4, .box [Zcr]), (6, .box [.arr 760]), (760, Zbk 8622 ss), (8622, Zbg ss)]) _ _
    refine Zat ?_
    refine Zat ?_
    by_cases h1 : k < (ik.Strokes.length : Int)
    ·have hi : k.toNat < ik.Strokes.length := by omega
     have hii : (k + 1).toNat = k.toNat + 1 := by omega
     have hpl := Zeo (Zdc ok _ hi)
     refine x_q [(6, .dec true)] [0, 4, 5, 6, 7, 22] [4, 6, 760, 8622] [_] ⟨h1, trivial⟩ ?_
     refine Zad ?_
     refine Zfl ?_
     refine Zbv ?_
     refine Zad ?_
     refine Zat ?_
     refine Zbn ?_
     refine Zat ?_
     rcases Bool.eq_false_or_eq_true (decide (k ∈ ((order_1.take gr.To.toNat).drop gr.From.toNat))) with h2 | h2
     ·have hgk : Zyp ik gr (k.toNat + 1) = Zyp ik gr k.toNat ++ [at_ ik.Strokes k.toNat] := gup_y hi (by rw [hcu] at h2; rw [show ((k.toNat : Nat) : Int) = k from by omega]; first | exact h2 | exact of_decide_eq_true h2)
      refine x_q [(2, .call [(false, slI false ((order_1.take gr.To.toNat).drop gr.From.toNat)), (true, .any)] true (Bv true))] [0, 4, 5, 6, 7, 27] [4, 6, 760, 8622] [Con Tryz.prog 60 [slI false ((order_1.take gr.To.toNat).drop gr.From.toNat), I k] true (Bv true) ∧ ((false = true → true = true) ∧ 1 = 1 ∧ (gr.To.toNat - gr.From.toNat) = (((order_1.take gr.To.toNat).drop gr.From.toNat).length) ∧ ∀ i_, i_ < (((order_1.take gr.To.toNat).drop gr.From.toNat).length) → (Zln gr.From.toNat (fI order_1)) i_ = (fI ((order_1.take gr.To.toNat).drop gr.From.toNat)) i_ ∨ (AV.idsL ((fI ((order_1.take gr.To.toNat).drop gr.From.toNat)) i_) = [] ∧ leL (fun _ => none) false ((Zln gr.From.toNat (fI order_1)) i_) ((fI ((order_1.take gr.To.toNat).drop gr.From.toNat)) i_))) ∧ True] ⟨⟨(Zap h2 (Zvz ((order_1.take gr.To.toNat).drop gr.From.toNat) k)), ⟨(fun h => by cases h), rfl, (by first | rfl | (simp; done) | (simp; omega) | omega), fun i_ hi_ => .inl (Yax (enc := cI) hi_)⟩, trivial⟩, trivial⟩ ?_
      refine Zad ?_
      refine Zfl ?_
      obtain ⟨pts_2, hx2_0, hc2⟩ := Zka (at_ ik.Strokes k.toNat) om
      have hpt := hx2_0
      refine x_q [(8, .lend [] [(8041, Zdd pts_2)] [(true, .any)] false (.agg [.arr 8041])), (9, .new 37), (10, .new 38)] [0, 4, 5, 6, 7] [4, 6, 38, 8041, 8622] [(0 : Int) ≤ k ∧ k < (ik.Strokes.length : Int), Zbb Tryz.prog 61 [.ptr false [Zaq false ((at_ ik.Strokes k.toNat).Points)]] (Zaf []) false (.agg [.arr 8041]) (Zaf [(8041, Zdd pts_2)]) ∧ True, (ss.length + 1) * 24 ≤ 140737488355328] ⟨⟨om, om⟩, ⟨hc2, trivial⟩, om, trivial⟩ ?_
      refine Zbo 1 ?_
      refine Zad ?_
      refine x_r [] [0, 4, 5, 6, 7] [4, 6, 38, 8041, 8622] [.ptr false [Zae false ik.Strokes], .ref 4 0, .sl true 1 (gr.To.toNat - gr.From.toNat) (Zln gr.From.toNat (fI order_1)), .ref 6 0, I (k + 1)] [some (.box [Zcr]), some (.box [.arr 38]), some (.oar [8622, 8041] 1 (ss.length + 1) (Zgb ss.length (Zhc 8622 ss) (Zgm [.arr 8041] 1))), some (Zdd pts_2), some (Zbg ss)] [inR .i64 (k + 1)] ⟨(Zac om om), trivial⟩ ?_
      refine Zti 8041 8622 rfl rfl rfl ?_
      refine Zcl [(760, 38)] (T := [(0, .ptr false [Zae false ik.Strokes]), (4, .ref 4 0), (5, .sl true 1 (gr.To.toNat - gr.From.toNat) (Zln gr.From.toNat (fI order_1))), (6, .ref 6 0), (7, I (k + 1))]) (O := [(4, .box [Zcr]), (6, .box [.arr 760]), (760, Zbk 8622 (ss ++ [(Stroke.mk pts_2)])), (8622, Zbg (ss ++ [(Stroke.mk pts_2)]))]) rfl (⟨.inl rfl, .inl rfl, .inl rfl, .inl rfl, .inl rfl, trivial⟩) (⟨.inl rfl, .inl rfl, .inr ⟨rfl, rfl, (by simp), fun i hi => .inl (Zks rfl rfl rfl i hi)⟩, .inr (Zkt (Stroke.mk pts_2) (by first | rfl | (simp; done)) (fun i_ hi_ => (by first | rfl | fail))), trivial⟩) (Zbh ((k + 1), (ss ++ [(Stroke.mk pts_2)])) rfl (show (0 ≤ (k + 1) ∧ (k + 1) ≤ (ik.Strokes.length : Int)) ∧ ((ss ++ [(Stroke.mk pts_2)]) = Zyp ik gr (k + 1).toNat) ∧ (((ss ++ [(Stroke.mk pts_2)]).length : Int) ≤ (k + 1)) ∧ True from ⟨om, (by first | (rw [hii, hgk, hs0, hpt]; done) | (rw [hii, hgk, hs0]; done)), (by first | omega | (simp; omega)), trivial⟩) (by first | (show (((ik.Strokes.length : Int) - (k + 1)).toNat : Nat) < ((ik.Strokes.length : Int) - k).toNat; omega) | (dsimp only; omega)))
     have hgk : Zyp ik gr (k.toNat + 1) = Zyp ik gr k.toNat := gup_n hi (by rw [hcu] at h2; rw [show ((k.toNat : Nat) : Int) = k from by omega]; first | exact h2 | exact of_decide_eq_false h2)
     refine x_q [(2, .call [(false, slI false ((order_1.take gr.To.toNat).drop gr.From.toNat)), (true, .any)] true (Bv false))] [0, 4, 5, 6, 7, 27] [4, 6, 760, 8622] [Con Tryz.prog 60 [slI false ((order_1.take gr.To.toNat).drop gr.From.toNat), I k] true (Bv false) ∧ ((false = true → true = true) ∧ 1 = 1 ∧ (gr.To.toNat - gr.From.toNat) = (((order_1.take gr.To.toNat).drop gr.From.toNat).length) ∧ ∀ i_, i_ < (((order_1.take gr.To.toNat).drop gr.From.toNat).length) → (Zln gr.From.toNat (fI order_1)) i_ = (fI ((order_1.take gr.To.toNat).drop gr.From.toNat)) i_ ∨ (AV.idsL ((fI ((order_1.take gr.To.toNat).drop gr.From.toNat)) i_) = [] ∧ leL (fun _ => none) false ((Zln gr.From.toNat (fI order_1)) i_) ((fI ((order_1.take gr.To.toNat).drop gr.From.toNat)) i_))) ∧ True] ⟨⟨(Zap h2 (Zvz ((order_1.take gr.To.toNat).drop gr.From.toNat) k)), ⟨(fun h => by cases h), rfl, (by first | rfl | (simp; done) | (simp; omega) | omega), fun i_ hi_ => .inl (Yax (enc := cI) hi_)⟩, trivial⟩, trivial⟩ ?_
     refine Zad ?_
     refine Zkr ?_
     refine Zbv ?_
     refine Zbo 1 ?_
     refine Zad ?_
     refine x_r [] [0, 4, 5, 6, 7] [4, 6, 760, 8622] [.ptr false [Zae false ik.Strokes], .ref 4 0, .sl true 1 (gr.To.toNat - gr.From.toNat) (Zln gr.From.toNat (fI order_1)), .ref 6 0, I (k + 1)] [some (.box [Zcr]), some (.box [.arr 760]), some (Zbk 8622 ss), some (Zbg ss)] [inR .i64 (k + 1)] ⟨(Zac om om), trivial⟩ ?_
     exact Zbh ((k + 1), ss) rfl (show (0 ≤ (k + 1) ∧ (k + 1) ≤ (ik.Strokes.length : Int)) ∧ (ss = Zyp ik gr (k + 1).toNat) ∧ ((ss.length : Int) ≤ (k + 1)) ∧ True from ⟨om, (by first | (rw [hii, hgk, hs0, hpt]; done) | (rw [hii, hgk, hs0]; done)), (by first | omega | (simp; omega)), trivial⟩) (by first | (show (((ik.Strokes.length : Int) - (k + 1)).toNat : Nat) < ((ik.Strokes.length : Int) - k).toNat; omega) | (dsimp only; omega))
    have hfin : ss = (Zlc ik gr).Strokes := by rw [hs0, show k.toNat = ik.Strokes.length from by omega]; unfold Zyp; rw [List.take_of_length_le (by rw [Zox]; omega)]; rfl
    refine x_r [(6, .dec false)] [0, 4, 5, 6, 7, 22] [4, 6, 760, 8622] [.ptr false [Zae false ik.Strokes], .ref 4 0, .sl true 1 (gr.To.toNat - gr.From.toNat) (Zln gr.From.toNat (fI order_1)), .ref 6 0, I k, Bv false] [some (.box [Zcr]), some (.box [.arr 760]), some (Zbk 8622 ss), some (Zbg ss)] [_] ⟨h1, trivial⟩ ?_
    refine Zad ?_
    refine Zcd rfl ?_
    refine Zde ?_
    refine Zax ?_
    refine Zbe ?_
    refine Zay ?_
    refine Zad ?_
    refine xR [] [4] [4, 760, 8622] [.ref 4 0] [some (.box [.arr 760]), some (Zbk 8622 ss), some (Zbg ss)] [] trivial ?_
    refine Zem ?_
    refine Zcl [(8621, 760)] (T := [(4, .ref 4 0)]) (O := [(4, .box [.arr 8621]), (8621, Zbk 8622 ss), (8622, Zbg ss)]) rfl (⟨.inl rfl, trivial⟩) (⟨.inl rfl, .inl rfl, .inl rfl, trivial⟩) ?_
    refine Zcz ss (show (ss = (Zlc ik gr).Strokes) ∧ (True) from ⟨(by exact hfin), trivial⟩) (⟨.inl rfl, .inl rfl, trivial⟩) (.agg [.arr 8621]) (by kernel_rfl) (.inl rfl) (fun h => by cases h) (fun h => by cases h)
  obtain ⟨ss, ⟨hh0, _⟩, hc⟩ := hh
  exact ⟨ss, hh0, hc⟩
theorem Zne (ik : Ink) (gr : Group) (ok : Zbp ik = true) (hg : okG (ik.Strokes.length : Int) gr) : ∃ (v : Ink) (c : Int), (v = Zlc ik gr) ∧ (c = 0) ∧ Con Tryz.prog 8 [.agg [Zae false ik.Strokes], .agg [I gr.From, I gr.To]] false (.tup [.agg [Zae false v.Strokes], I c]) := by
 have hg1 := hg.1
 have hg2 := hg.2.1
 have hg3 := hg.2.2
 have hh : ∃ r : Ink × Int, ((r.1 = Zlc ik gr) ∧ (r.2 = 0) ∧ (True)) ∧ Zbb Tryz.prog 8 [.agg [Zae false ik.Strokes], .agg [I gr.From, I gr.To]] (Zaf []) false (.tup [.agg [Zae false r.1.Strokes], I r.2]) (Zaf []) := by
  refine Zdv (Φ := fun r : Ink × Int => (r.1 = Zlc ik gr) ∧ (r.2 = 0) ∧ (True)) [] (fun r => []) (fn := Tryz.f8) (nt := 30) Tryz.func8 rfl rfl (args := [.agg [Zae false ik.Strokes], .agg [I gr.From, I gr.To]]) rfl (Zbd (.inl ⟨rfl, by simp [Zaj, Zag, Zck]⟩) (Zbd (.inl ⟨rfl, by simp [Zaj, Zag]⟩) Zdp)) (res := fun r => .tup [.agg [Zae false r.1.Strokes], I r.2]) ?_
  refine xQ [(0, .new 2), (1, .new 3), (2, .new 4)] [2, 3, 4] [2, 3, 4] [] trivial ?_
  refine Zat ?_
  refine xQ [(0, .call [(false, .ptr false [Zae false ik.Strokes])] true (Bv true))] [2, 3, 4, 7] [2, 3, 4] [Con Tryz.prog 23 [.ptr false [Zae false ik.Strokes]] true (Bv true) ∧ ((false = true → true = true) ∧ AV.idsL [Zae false ik.Strokes] = [] ∧ ((false = true → false = true) ∧ 1 = 1 ∧ ik.Strokes.length = ik.Strokes.length ∧ ∀ i_, i_ < ik.Strokes.length → (Zbl false ik.Strokes) i_ = (Zbl false ik.Strokes) i_ ∨ (AV.idsL ((Zbl false ik.Strokes) i_) = [] ∧ leL (fun _ => none) false ((Zbl false ik.Strokes) i_) ((Zbl false ik.Strokes) i_))) ∧ ([] : List AV) = []) ∧ True] ⟨⟨(Zap ok (Yat ik)), ⟨(fun h => by cases h), rfl, ⟨⟨(fun h => by cases h), rfl, rfl, fun i _ => .inl rfl⟩, rfl⟩⟩, trivial⟩, trivial⟩ ?_
  refine Zkr ?_
  refine Zbv ?_
  refine Zad ?_
  refine Zat ?_
  refine xR [(2, .dec false), (8, .dec false), (16, .dec false)] [2, 3, 4, 26] [2, 3, 4] [.ref 2 0, .ref 3 0, .ref 4 0, Bv false] [some (.box [Zae false ik.Strokes]), some (.box [I gr.From, I gr.To]), some (.box [Zcr])] [¬ (gr.From < 0), ¬ (gr.To ≤ gr.From), ¬ ((ik.Strokes.length : Int) < gr.To)] ⟨om, om, om, trivial⟩ ?_
  refine Zcd rfl ?_
  refine Zbv ?_
  refine Zad ?_
  refine Zat ?_
  refine Zcw [] (T := [(2, .ptr true [Zae false ik.Strokes]), (3, .ref 3 0), (4, .ref 4 0), (26, Bv false)]) (O := [(3, .box [I gr.From, I gr.To]), (4, .box [Zcr])]) rfl (⟨.inr ⟨(fun _ => rfl), rfl, ⟨⟨(fun h => by cases h), rfl, rfl, fun i _ => .inl rfl⟩, rfl⟩⟩, .inl rfl, .inl rfl, .inl rfl, trivial⟩) (⟨.inl rfl, .inl rfl, trivial⟩) ?_
  obtain ⟨ss_1, hx1_0, hc1⟩ := Yfc ik gr ok hg
  have hss := hx1_0
  refine x_r [(1, .lend [] [(8621, Zbk 8622 ss_1), (8622, Zbg ss_1)] [(false, .ptr false [Zae false ik.Strokes]), (true, .any)] false (.agg [.arr 8621]))] [4, 5] [4, 8621, 8622] [.ref 4 0, I 0] [some (.box [.arr 8621]), some (Zbk 8622 ss_1), some (Zbg ss_1)] [Zbb Tryz.prog 24 [.ptr false [Zae false ik.Strokes], .agg [I gr.From, I gr.To]] (Zaf []) false (.agg [.arr 8621]) (Zaf [(8621, Zbk 8622 ss_1), (8622, Zbg ss_1)]) ∧ ((false = true → true = true) ∧ AV.idsL [Zae false ik.Strokes] = [] ∧ ((false = true → false = true) ∧ 1 = 1 ∧ ik.Strokes.length = ik.Strokes.length ∧ ∀ i_, i_ < ik.Strokes.length → (Zbl false ik.Strokes) i_ = (Zbl false ik.Strokes) i_ ∨ (AV.idsL ((Zbl false ik.Strokes) i_) = [] ∧ leL (fun _ => none) false ((Zbl false ik.Strokes) i_) ((Zbl false ik.Strokes) i_))) ∧ ([] : List AV) = []) ∧ True] ⟨⟨hc1, ⟨(fun h => by cases h), rfl, ⟨⟨(fun h => by cases h), rfl, rfl, fun i _ => .inl rfl⟩, rfl⟩⟩, trivial⟩, trivial⟩ ?_
  refine Zad ?_
  refine Zem ?_
  refine Zcz ((Ink.mk ss_1), 0) (show ((Ink.mk ss_1) = Zlc ik gr) ∧ (0 = 0) ∧ (True) from ⟨(by first | (rw [hss]; done) | (rw [hss]; rfl) | (simp only [hss]; rfl)), (by rfl), trivial⟩) (trivial) (.tup [.agg [.arr 8621], I 0]) (by kernel_rfl) (.inr ⟨⟨⟨(fun h => by cases h), rfl, rfl, Zkb _ _ rfl⟩, rfl⟩, ⟨rfl, rfl⟩⟩) (fun h => by cases h) (fun h => by cases h)
 obtain ⟨⟨v, c⟩, ⟨hh0, hh1, _⟩, hc⟩ := hh
 exact ⟨v, c, hh0, hh1, hc⟩
theorem Zsa (f : Feat) : Con Tryz.prog 143 [Zkc f] true (Bv (okF f)) := by
  refine Zbu (fn := Tryz.f143) (nt := 16) Tryz.func143 rfl rfl rfl rfl (by simp [Zag, Zaj]) fun B hB => ?_
  refine aQ [(0, .new 1)] [1] [1] [] hB trivial ?_
  refine Zah ?_
  rcases Bool.eq_false_or_eq_true (inB f.X 0 255) with h1 | h1
  ·rcases Bool.eq_false_or_eq_true (inB f.Y 0 255) with h2 | h2
   ·refine Zdg [(2, .call [(true, .any), (true, .any), (true, .any)] true (Bv true)), (6, .call [(true, .any), (true, .any), (true, .any)] true (Bv true)), (11, .call [(true, .any), (true, .any), (true, .any)] true (Bv (inB f.D 0 7)))] [2] [] [Bv (inB f.D 0 7)] [] [Con Tryz.prog 53 [I f.X, I 0, I 255] true (Bv true) ∧ True, Con Tryz.prog 53 [I f.Y, I 0, I 255] true (Bv true) ∧ True, _ ∧ True] hB ⟨⟨(Zap h1 (Zcp f.X 0 255)), trivial⟩, ⟨(Zap h2 (Zcp f.Y 0 255)), trivial⟩, ⟨(Zcp f.D 0 7), trivial⟩, trivial⟩ ?_
    refine Zaa ?_
    refine Zam ?_
    refine Zan hB (Bv (inB f.D 0 7)) (by kernel_rfl) (.inl (by first | rfl | (refine congrArg Bv ?_; simp [okF, *]; done) | (refine congrArg Bv ?_; simp [okF, *]; omega) | (refine congrArg Bv ?_; simp_all [okF]; done) | (refine congrArg Bv ?_; simp_all [okF]; omega))) rfl (fun _ => trivial)
   refine Zdg [(2, .call [(true, .any), (true, .any), (true, .any)] true (Bv true)), (6, .call [(true, .any), (true, .any), (true, .any)] true (Bv false))] [2] [] [Bv false] [] [Con Tryz.prog 53 [I f.X, I 0, I 255] true (Bv true) ∧ True, Con Tryz.prog 53 [I f.Y, I 0, I 255] true (Bv false) ∧ True] hB ⟨⟨(Zap h1 (Zcp f.X 0 255)), trivial⟩, ⟨(Zap h2 (Zcp f.Y 0 255)), trivial⟩, trivial⟩ ?_
   refine Zaa ?_
   refine Zam ?_
   refine Zan hB (Bv false) (by kernel_rfl) (.inl (by first | rfl | (refine congrArg Bv ?_; simp [okF, *]; done) | (refine congrArg Bv ?_; simp [okF, *]; omega) | (refine congrArg Bv ?_; simp_all [okF]; done) | (refine congrArg Bv ?_; simp_all [okF]; omega))) rfl (fun _ => trivial)
  refine Zdg [(2, .call [(true, .any), (true, .any), (true, .any)] true (Bv false))] [2] [] [Bv false] [] [Con Tryz.prog 53 [I f.X, I 0, I 255] true (Bv false) ∧ True] hB ⟨⟨(Zap h1 (Zcp f.X 0 255)), trivial⟩, trivial⟩ ?_
  refine Zaa ?_
  refine Zam ?_
  refine Zan hB (Bv false) (by kernel_rfl) (.inl (by first | rfl | (refine congrArg Bv ?_; simp [okF, *]; done) | (refine congrArg Bv ?_; simp [okF, *]; omega) | (refine congrArg Bv ?_; simp_all [okF]; done) | (refine congrArg Bv ?_; simp_all [okF]; omega))) rfl (fun _ => trivial)
theorem l09Ok_ok (list : List Feat) : Con Tryz.prog 103 [Zai false list] true (Bv (Zbr list 72)) := by
  refine Zbu (fn := Tryz.f103) (nt := 19) Tryz.func103 rfl rfl rfl rfl (by simp [Zag, Zaj, Zdq]) fun B hB => ?_
  refine Zbt (x := Zai false list) 0 rfl (fun len_list => ?_)
  simp [Zdk, Zgf, Zgw, Zez, Zai] at len_list
  refine aQ [] [0] [] [] hB trivial ?_
  refine Zah ?_
  refine aR [] [0, 3] [] [Zai false list, I 0] [] [] hB trivial ?_
  refine Zau ?_
  refine Zcn (fun gn gσ => ∃ (i : Int), gn = ((list.length : Int) - i).toNat ∧ (0 ≤ i ∧ i ≤ (list.length : Int)) ∧ (∀ j : Nat, (j : Int) < i → okF (at_ list j) = true) ∧ gσ = mkS [(0, Zai false list), (3, I i)] []) (((list.length : Int) - 0).toNat) ⟨0, rfl, om, (by intro j hj; omega), rfl⟩ (fun gn gσ hI => ?_)
  obtain ⟨i, rfl, hi0, hall0, rfl⟩ := hI
  refine Zah ?_
  refine Zah ?_
  by_cases h1 : i < (list.length : Int)
  ·have hi : i.toNat < list.length := by omega
   refine Zbm [(3, .dec true)] [0, 3, 7] [] [_] hB ⟨h1, trivial⟩ ?_
   refine Zaa ?_
   refine Zbq ?_
   refine Zas ?_
   refine Zaa ?_
   refine Zah ?_
   refine Zau ?_
   refine Zah ?_
   rcases Bool.eq_false_or_eq_true (okF (at_ list i.toNat)) with h2 | h2
   ·refine Zbm [(4, .call [(true, .any)] true (Bv true))] [0, 3, 15] [] [(0 : Int) ≤ i ∧ i < (list.length : Int), Con Tryz.prog 143 [Zkc (at_ list i.toNat)] true (Bv true) ∧ True] hB ⟨⟨om, om⟩, ⟨(Zap h2 (Zsa (at_ list i.toNat))), trivial⟩, trivial⟩ ?_
    refine Zaa ?_
    refine Zbj ?_
    refine Zas ?_
    refine Zba 1 ?_
    refine Zaa ?_
    refine Zdg [] [0, 3] [] [Zai false list, I (i + 1)] [] [inR .i64 (i + 1)] hB ⟨(Zac om om), trivial⟩ ?_
    exact Zbf _ om ⟨(i + 1), rfl, om, (by intro j hj; by_cases ej : j = i.toNat; (subst ej; first | assumption | exact hok); exact hall0 j om), rfl⟩
   have hall : Znc list.length (fun j => okF (at_ list j)) = false := Zgg hi h2
   refine Zbm [(4, .call [(true, .any)] true (Bv false))] [0, 3, 15] [] [(0 : Int) ≤ i ∧ i < (list.length : Int), Con Tryz.prog 143 [Zkc (at_ list i.toNat)] true (Bv false) ∧ True] hB ⟨⟨om, om⟩, ⟨(Zap h2 (Zsa (at_ list i.toNat))), trivial⟩, trivial⟩ ?_
   refine Zaa ?_
   refine Zbq ?_
   refine aR [] [2] [] [Bv false] [] [] hB trivial ?_
   refine Zam ?_
   refine Zao (Zak (Zak (Zao (Zak ?_))))
   refine Zan hB (Bv false) (by kernel_rfl) (.inl (by first | rfl | (refine congrArg Bv ?_; simp [Zbr, inB, *]; done) | (refine congrArg Bv ?_; simp [Zbr, inB, *]; omega) | (refine congrArg Bv ?_; simp_all [Zbr, inB]; done) | (refine congrArg Bv ?_; simp_all [Zbr, inB]; omega))) rfl (fun _ => trivial)
  have hall : Znc list.length (fun j => okF (at_ list j)) = true := Zit (fun j hj => hall0 j om)
  refine Zbm [(3, .dec false)] [0, 3, 7] [] [_] hB ⟨h1, trivial⟩ ?_
  refine Zaa ?_
  refine Zbj ?_
  refine Zcj ?_
  refine Zal ?_
  refine Zal ?_
  refine Zaw ?_
  refine Zaa ?_
  refine aR [(2, .call [(true, .any), (true, .any), (true, .any)] true (Bv (inB (list.length : Int) 1 72)))] [2] [] [Bv (inB (list.length : Int) 1 72)] [] [_ ∧ True] hB ⟨⟨(Zcp (list.length : Int) 1 72), trivial⟩, trivial⟩ ?_
  refine Zam ?_
  refine Zan hB (Bv (inB (list.length : Int) 1 72)) (by kernel_rfl) (.inl (by first | rfl | (refine congrArg Bv ?_; simp [Zbr, inB, *]; done) | (refine congrArg Bv ?_; simp [Zbr, inB, *]; omega) | (refine congrArg Bv ?_; simp_all [Zbr, inB]; done) | (refine congrArg Bv ?_; simp_all [Zbr, inB]; omega))) rfl (fun _ => trivial)
theorem Zlf (t : Template) (ok : t.Label.size ≤ 9223372036854775807) : Con Tryz.prog 62 [.ptr false [Sv t.Label, Zai false t.Feats]] true (Bv (Zfn t)) := by
  refine Zbu (fn := Tryz.f62) (nt := 15) Tryz.func62 rfl rfl rfl rfl (by simp [Zag, Zaj, Zdq]) fun B hB => ?_
  refine Zbt (x := .ptr false [Sv t.Label, Zai false t.Feats]) 0 rfl (fun len_t => ?_)
  simp [Zdk, Zgf, Zgw, Zez, Zai] at len_t
  refine aQ [] [0] [] [] hB trivial ?_
  refine Zah ?_
  rcases Bool.eq_false_or_eq_true (Zco t.Label) with h1 | h1
  ·refine Zdg [(4, .call [(true, .any)] true (Bv true)), (10, .call [(true, .any)] true (Bv (Zbr t.Feats 72)))] [2] [] [Bv (Zbr t.Feats 72)] [] [Con Tryz.prog 55 [Sv t.Label] true (Bv true) ∧ True, _ ∧ True] hB ⟨⟨(Zap h1 (Zey t.Label ok)), trivial⟩, ⟨(l09Ok_ok t.Feats), trivial⟩, trivial⟩ ?_
   refine Zaa ?_
   refine Zam ?_
   refine Zan hB (Bv (Zbr t.Feats 72)) (by kernel_rfl) (.inl (by first | rfl | (refine congrArg Bv ?_; simp [Zfn, *]; done) | (refine congrArg Bv ?_; simp [Zfn, *]; omega) | (refine congrArg Bv ?_; simp_all [Zfn]; done) | (refine congrArg Bv ?_; simp_all [Zfn]; omega))) rfl (fun _ => trivial)
  refine Zdg [(4, .call [(true, .any)] true (Bv false))] [2] [] [Bv false] [] [Con Tryz.prog 55 [Sv t.Label] true (Bv false) ∧ True] hB ⟨⟨(Zap h1 (Zey t.Label ok)), trivial⟩, trivial⟩ ?_
  refine Zaa ?_
  refine Zam ?_
  refine Zan hB (Bv false) (by kernel_rfl) (.inl (by first | rfl | (refine congrArg Bv ?_; simp [Zfn, *]; done) | (refine congrArg Bv ?_; simp [Zfn, *]; omega) | (refine congrArg Bv ?_; simp_all [Zfn]; done) | (refine congrArg Bv ?_; simp_all [Zfn]; omega))) rfl (fun _ => trivial)
theorem l11Ok_ok (s : Store) (ok : Zpo s) : Con Tryz.prog 25 [.ptr false [I s.Band, Zav false s.Templates]] true (Bv (Zbw s)) := by
  refine Zbu (fn := Tryz.f25) (nt := 34) Tryz.func25 rfl rfl rfl rfl (by simp [Zag, Zaj, Zdz]) fun B hB => ?_
  refine Zbt (x := .ptr false [I s.Band, Zav false s.Templates]) 0 rfl (fun len_s => ?_)
  simp [Zdk, Zgf, Zgw, Zev, Zez, Zch, Zai, Zav] at len_s
  refine aQ [] [0] [] [] hB trivial ?_
  refine Zah ?_
  refine aR [] [0, 3] [] [.ptr false [I s.Band, Zav false s.Templates], I 0] [] [] hB trivial ?_
  refine Zau ?_
  refine Zcn (fun gn gσ => ∃ (i : Int), gn = ((s.Templates.length : Int) - i).toNat ∧ (0 ≤ i ∧ i ≤ (s.Templates.length : Int)) ∧ (∀ j : Nat, (j : Int) < i → Zfn (at_ s.Templates j) = true) ∧ gσ = mkS [(0, .ptr false [I s.Band, Zav false s.Templates]), (3, I i)] []) (((s.Templates.length : Int) - 0).toNat) ⟨0, rfl, om, (by intro j hj; omega), rfl⟩ (fun gn gσ hI => ?_)
  obtain ⟨i, rfl, hi0, hall0, rfl⟩ := hI
  refine Zah ?_
  refine Zah ?_
  by_cases h1 : i < (s.Templates.length : Int)
  ·have hi : i.toNat < s.Templates.length := by omega
   refine Zbm [(6, .dec true)] [0, 3, 10] [] [_] hB ⟨h1, trivial⟩ ?_
   refine Zaa ?_
   refine Zbq ?_
   refine Zas ?_
   refine Zaa ?_
   refine Zah ?_
   refine Zau ?_
   refine Zah ?_
   rcases Bool.eq_false_or_eq_true (Zfn (at_ s.Templates i.toNat)) with h2 | h2
   ·refine Zbm [(6, .call [(true, .any)] true (Bv true))] [0, 3, 20] [] [(0 : Int) ≤ i ∧ i < (s.Templates.length : Int), Con Tryz.prog 62 [.ptr false [Sv ((at_ s.Templates i.toNat).Label), Zai false ((at_ s.Templates i.toNat).Feats)]] true (Bv true) ∧ True] hB ⟨⟨om, om⟩, ⟨(Zap h2 (Zlf (at_ s.Templates i.toNat) (ok _ (Zdf hi)))), trivial⟩, trivial⟩ ?_
    refine Zaa ?_
    refine Zbj ?_
    refine Zas ?_
    refine Zba 1 ?_
    refine Zaa ?_
    refine Zdg [] [0, 3] [] [.ptr false [I s.Band, Zav false s.Templates], I (i + 1)] [] [inR .i64 (i + 1)] hB ⟨(Zac om om), trivial⟩ ?_
    exact Zbf _ om ⟨(i + 1), rfl, om, (by intro j hj; by_cases ej : j = i.toNat; (subst ej; first | assumption | exact hok); exact hall0 j om), rfl⟩
   have hall : Znc s.Templates.length (fun j => Zfn (at_ s.Templates j)) = false := Zgg hi h2
   refine Zbm [(6, .call [(true, .any)] true (Bv false))] [0, 3, 20] [] [(0 : Int) ≤ i ∧ i < (s.Templates.length : Int), Con Tryz.prog 62 [.ptr false [Sv ((at_ s.Templates i.toNat).Label), Zai false ((at_ s.Templates i.toNat).Feats)]] true (Bv false) ∧ True] hB ⟨⟨om, om⟩, ⟨(Zap h2 (Zlf (at_ s.Templates i.toNat) (ok _ (Zdf hi)))), trivial⟩, trivial⟩ ?_
   refine Zaa ?_
   refine Zbq ?_
   refine aR [] [2] [] [Bv false] [] [] hB trivial ?_
   refine Zam ?_
   refine Zao (Zak (Zak (Zao (Zak ?_))))
   refine Zan hB (Bv false) (by kernel_rfl) (.inl (by first | rfl | (refine congrArg Bv ?_; simp [Zbw, inB, *]; done) | (refine congrArg Bv ?_; simp [Zbw, inB, *]; omega) | (refine congrArg Bv ?_; simp_all [Zbw, inB]; done) | (refine congrArg Bv ?_; simp_all [Zbw, inB]; omega))) rfl (fun _ => trivial)
  have hall : Znc s.Templates.length (fun j => Zfn (at_ s.Templates j)) = true := Zit (fun j hj => hall0 j om)
  refine Zbm [(6, .dec false)] [0, 3, 10] [] [_] hB ⟨h1, trivial⟩ ?_
  refine Zaa ?_
  refine Zbj ?_
  refine Zcj ?_
  refine Zal ?_
  refine Zal ?_
  refine Zaw ?_
  refine Zaa ?_
  refine Zah ?_
  rcases Bool.eq_false_or_eq_true (inB s.Band 0 72) with h3 | h3
  ·refine Zdg [(4, .call [(true, .any), (true, .any), (true, .any)] true (Bv true))] [2] [] [Bv (decide ((s.Templates.length : Int) ≤ 40))] [] [Con Tryz.prog 53 [I s.Band, I 0, I 72] true (Bv true) ∧ True] hB ⟨⟨(Zap h3 (Zcp s.Band 0 72)), trivial⟩, trivial⟩ ?_
   refine Zaa ?_
   refine Zam ?_
   refine Zan hB (Bv (decide ((s.Templates.length : Int) ≤ 40))) (by kernel_rfl) (.inl (by first | rfl | (refine congrArg Bv ?_; simp [Zbw, inB, *]; done) | (refine congrArg Bv ?_; simp [Zbw, inB, *]; omega) | (refine congrArg Bv ?_; simp_all [Zbw, inB]; done) | (refine congrArg Bv ?_; simp_all [Zbw, inB]; omega))) rfl (fun _ => trivial)
  refine Zdg [(4, .call [(true, .any), (true, .any), (true, .any)] true (Bv false))] [2] [] [Bv false] [] [Con Tryz.prog 53 [I s.Band, I 0, I 72] true (Bv false) ∧ True] hB ⟨⟨(Zap h3 (Zcp s.Band 0 72)), trivial⟩, trivial⟩ ?_
  refine Zaa ?_
  refine Zam ?_
  refine Zan hB (Bv false) (by kernel_rfl) (.inl (by first | rfl | (refine congrArg Bv ?_; simp [Zbw, inB, *]; done) | (refine congrArg Bv ?_; simp [Zbw, inB, *]; omega) | (refine congrArg Bv ?_; simp_all [Zbw, inB]; done) | (refine congrArg Bv ?_; simp_all [Zbw, inB]; omega))) rfl (fun _ => trivial)
theorem Ztj (t : Setting) : Con Tryz.prog 26 [.ptr false [I t.Points, I t.Most, I t.Pen]] true (Bv (Zfa t)) := by
  refine Zbu (fn := Tryz.f26) (nt := 22) Tryz.func26 rfl rfl rfl rfl (by simp [Zag, Zaj]) fun B hB => ?_
  refine aQ [] [0] [] [] hB trivial ?_
  refine Zah ?_
  rcases Bool.eq_false_or_eq_true (inB t.Points 2 24) with h1 | h1
  ·rcases Bool.eq_false_or_eq_true (inB t.Most 1 8) with h2 | h2
   ·refine Zdg [(4, .call [(true, .any), (true, .any), (true, .any)] true (Bv true)), (10, .call [(true, .any), (true, .any), (true, .any)] true (Bv true)), (17, .call [(true, .any), (true, .any), (true, .any)] true (Bv (inB t.Pen 0 1000)))] [2] [] [Bv (inB t.Pen 0 1000)] [] [Con Tryz.prog 53 [I t.Points, I 2, I 24] true (Bv true) ∧ True, Con Tryz.prog 53 [I t.Most, I 1, I 8] true (Bv true) ∧ True, _ ∧ True] hB ⟨⟨(Zap h1 (Zcp t.Points 2 24)), trivial⟩, ⟨(Zap h2 (Zcp t.Most 1 8)), trivial⟩, ⟨(Zcp t.Pen 0 1000), trivial⟩, trivial⟩ ?_
    refine Zaa ?_
    refine Zam ?_
    refine Zan hB (Bv (inB t.Pen 0 1000)) (by kernel_rfl) (.inl (by first | rfl | (refine congrArg Bv ?_; simp [Zfa, *]; done) | (refine congrArg Bv ?_; simp [Zfa, *]; omega) | (refine congrArg Bv ?_; simp_all [Zfa]; done) | (refine congrArg Bv ?_; simp_all [Zfa]; omega))) rfl (fun _ => trivial)
   refine Zdg [(4, .call [(true, .any), (true, .any), (true, .any)] true (Bv true)), (10, .call [(true, .any), (true, .any), (true, .any)] true (Bv false))] [2] [] [Bv false] [] [Con Tryz.prog 53 [I t.Points, I 2, I 24] true (Bv true) ∧ True, Con Tryz.prog 53 [I t.Most, I 1, I 8] true (Bv false) ∧ True] hB ⟨⟨(Zap h1 (Zcp t.Points 2 24)), trivial⟩, ⟨(Zap h2 (Zcp t.Most 1 8)), trivial⟩, trivial⟩ ?_
   refine Zaa ?_
   refine Zam ?_
   refine Zan hB (Bv false) (by kernel_rfl) (.inl (by first | rfl | (refine congrArg Bv ?_; simp [Zfa, *]; done) | (refine congrArg Bv ?_; simp [Zfa, *]; omega) | (refine congrArg Bv ?_; simp_all [Zfa]; done) | (refine congrArg Bv ?_; simp_all [Zfa]; omega))) rfl (fun _ => trivial)
  refine Zdg [(4, .call [(true, .any), (true, .any), (true, .any)] true (Bv false))] [2] [] [Bv false] [] [Con Tryz.prog 53 [I t.Points, I 2, I 24] true (Bv false) ∧ True] hB ⟨⟨(Zap h1 (Zcp t.Points 2 24)), trivial⟩, trivial⟩ ?_
  refine Zaa ?_
  refine Zam ?_
  refine Zan hB (Bv false) (by kernel_rfl) (.inl (by first | rfl | (refine congrArg Bv ?_; simp [Zfa, *]; done) | (refine congrArg Bv ?_; simp [Zfa, *]; omega) | (refine congrArg Bv ?_; simp_all [Zfa]; done) | (refine congrArg Bv ?_; simp_all [Zfa]; omega))) rfl (fun _ => trivial)
theorem Zhp (n : Int) (hn : -9223372036854775807 ≤ n ∧ n ≤ 9223372036854775807) : Con Tryz.prog 173 [I n] true (I (n.natAbs : Int)) := by
  refine Zbu (fn := Tryz.f173) (nt := 8) Tryz.func173 rfl rfl rfl rfl (by simp [Zag, Zaj]) fun B hB => ?_
  refine aQ [] [0] [] [] hB trivial ?_
  refine Zah ?_
  refine Zah ?_
  by_cases h1 : n < 0
  ·refine Zbm [(1, .dec true)] [0, 4] [] [_] hB ⟨h1, trivial⟩ ?_
   refine Zaa ?_
   refine Zbq ?_
   refine aR [] [2] [] [I (-n)] [] [inR .i64 (-n)] hB ⟨(Zac om om), trivial⟩ ?_
   refine Zam ?_
   refine Zak ?_
   refine Zan hB (I (-n)) (by kernel_rfl) (.inl (by refine congrArg I ?_; omega)) rfl (fun _ => trivial)
  refine Zbm [(1, .dec false)] [0, 4] [] [_] hB ⟨h1, trivial⟩ ?_
  refine Zaa ?_
  refine Zbj ?_
  refine Zas ?_
  refine Zaa ?_
  refine aR [] [2] [] [I n] [] [] hB trivial ?_
  refine Zam ?_
  refine Zan hB (I n) (by kernel_rfl) (.inl (by refine congrArg I ?_; omega)) rfl (fun _ => trivial)
theorem Ydf (n : Int) (m : Int) (band : Int) (hn : 0 ≤ n ∧ n ≤ 4611686018427387904) (hm : 0 ≤ m ∧ m ≤ 4611686018427387904) : Con Tryz.prog 144 [I n, I m, I band] true (Bv (inB band 0 72 && decide (((n - m).natAbs : Int) ≤ band))) := by
  refine Zbu (fn := Tryz.f144) (nt := 17) Tryz.func144 rfl rfl rfl rfl (by simp [Zag, Zaj]) fun B hB => ?_
  refine aQ [] [0, 1, 2] [] [] hB trivial ?_
  refine Zah ?_
  rcases Bool.eq_false_or_eq_true (inB band 0 72) with h1 | h1
  ·refine Zdg [(1, .call [(true, .any), (true, .any), (true, .any)] true (Bv true)), (6, .call [(true, .any)] true (I ((n - m).natAbs : Int)))] [6] [] [Bv (decide (((n - m).natAbs : Int) ≤ band))] [] [Con Tryz.prog 53 [I band, I 0, I 72] true (Bv true) ∧ True, inR .i64 (n - m), _ ∧ True] hB ⟨⟨(Zap h1 (Zcp band 0 72)), trivial⟩, (Zac om om), ⟨(Zhp (n - m) om), trivial⟩, trivial⟩ ?_
   refine Zaa ?_
   refine Zam ?_
   refine Zan hB (Bv (decide (((n - m).natAbs : Int) ≤ band))) (by kernel_rfl) (.inl (by refine congrArg Bv ?_; first | (simp [*]; done) | (simp [inB] at *; omega))) rfl (fun _ => trivial)
  refine Zdg [(1, .call [(true, .any), (true, .any), (true, .any)] true (Bv false))] [6] [] [Bv false] [] [Con Tryz.prog 53 [I band, I 0, I 72] true (Bv false) ∧ True] hB ⟨⟨(Zap h1 (Zcp band 0 72)), trivial⟩, trivial⟩ ?_
  refine Zaa ?_
  refine Zam ?_
  refine Zan hB (Bv false) (by kernel_rfl) (.inl (by refine congrArg Bv ?_; first | (simp [*]; done) | (simp [inB] at *; omega))) rfl (fun _ => trivial)
theorem Yay (a : List Feat) (b : List Feat) (band : Int) (ha : a.length ≤ 100000) (hb : b.length ≤ 100000) : Con Tryz.prog 104 [Zai false a, Zai false b, I band] true (Bv (inB band 0 72 && decide (((((a.length : Int) - (b.length : Int)).natAbs : Int) ≤ band)))) := by
 refine Zbu (fn := Tryz.f104) (nt := 13) Tryz.func104 rfl rfl rfl rfl (by simp [Zag, Zaj, Zdq]) fun B hB => ?_
 refine Zbt (x := Zai false a) 0 rfl (fun len_a => ?_)
 simp [Zdk, Zgf, Zgw, Zez, Zai] at len_a
 refine Zbt (x := Zai false b) 1 rfl (fun len_b => ?_)
 simp [Zdk, Zgf, Zgw, Zez, Zai] at len_b
 refine aQ [] [0, 1, 2] [] [] hB trivial ?_
 refine aR [(5, .call [(true, .any), (true, .any), (true, .any)] true (Bv (inB band 0 72 && decide ((((a.length : Int) - (b.length : Int)).natAbs : Int) ≤ band))))] [6] [] [Bv (inB band 0 72 && decide ((((a.length : Int) - (b.length : Int)).natAbs : Int) ≤ band))] [] [_ ∧ True] hB ⟨⟨(Ydf (a.length : Int) (b.length : Int) band om om), trivial⟩, trivial⟩ ?_
 refine Zam ?_
 refine Zan hB (Bv (inB band 0 72 && decide ((((a.length : Int) - (b.length : Int)).natAbs : Int) ≤ band))) (by kernel_rfl) (.inl (by first | rfl | (refine congrArg Bv ?_; simp [*]; done) | (refine congrArg Bv ?_; simp [*]; omega) | (refine congrArg Bv ?_; simp_all []; done) | (refine congrArg Bv ?_; simp_all []; omega))) rfl (fun _ => trivial)
theorem Ydg (a : Feat) (b : Feat) (ha : okF a = true) (hb : okF b = true) : Con Tryz.prog 174 [Zkc a, Zkc b] true (I (Zdr a b)) := by
 have ha' := Znf.1 ha
 have hb' := Znf.1 hb
 refine Zbu (fn := Tryz.f174) (nt := 31) Tryz.func174 rfl rfl rfl rfl (by simp [Zag, Zaj]) fun B hB => ?_
 refine aQ [(0, .new 2), (1, .new 3)] [2, 3] [2, 3] [] hB trivial ?_
 refine aQ [(5, .call [(true, .any)] true (I ((a.D - b.D).natAbs : Int)))] [2, 3, 5] [2, 3] [inR .i64 (a.D - b.D), _ ∧ True] hB ⟨(Zac om om), ⟨(Zhp (a.D - b.D) om), trivial⟩, trivial⟩ ?_
 refine aR [(5, .call [(true, .any)] true (I ((a.X - b.X).natAbs : Int))), (11, .call [(true, .any)] true (I ((a.Y - b.Y).natAbs : Int))), (16, .call [(true, .any), (true, .any)] true (I (min ((a.D - b.D).natAbs : Int) (8 - ((a.D - b.D).natAbs : Int)))))] [4] [] [I ((((a.X - b.X).natAbs : Int) + ((a.Y - b.Y).natAbs : Int)) + (16 * (min ((a.D - b.D).natAbs : Int) (8 - ((a.D - b.D).natAbs : Int)))))] [] [inR .i64 (a.X - b.X), _ ∧ True, inR .i64 (a.Y - b.Y), _ ∧ True, inR .i64 (((a.X - b.X).natAbs : Int) + ((a.Y - b.Y).natAbs : Int)), inR .i64 (8 - ((a.D - b.D).natAbs : Int)), _ ∧ True, inR .i64 (16 * (min ((a.D - b.D).natAbs : Int) (8 - ((a.D - b.D).natAbs : Int)))), inR .i64 ((((a.X - b.X).natAbs : Int) + ((a.Y - b.Y).natAbs : Int)) + (16 * (min ((a.D - b.D).natAbs : Int) (8 - ((a.D - b.D).natAbs : Int)))))] hB ⟨(Zac om om), ⟨(Zhp (a.X - b.X) om), trivial⟩, (Zac om om), ⟨(Zhp (a.Y - b.Y) om), trivial⟩, (Zac om om), (Zac om om), ⟨(Zfp ((a.D - b.D).natAbs : Int) (8 - ((a.D - b.D).natAbs : Int))), trivial⟩, (Zac om om), (Zac om om), trivial⟩ ?_
 refine Zam ?_
 refine Zan hB (I ((((a.X - b.X).natAbs : Int) + ((a.Y - b.Y).natAbs : Int)) + (16 * (min ((a.D - b.D).natAbs : Int) (8 - ((a.D - b.D).natAbs : Int)))))) (by kernel_rfl) (.inl (by refine congrArg I ?_; first | rfl | (unfold Zdr; omega))) rfl (fun _ => trivial)
set_option maxHeartbeats 4000000 in
theorem Zyr (a : List Feat) (b : List Feat) (band : Int) (hab : Yeu a b) (hbd : 0 ≤ band ∧ band ≤ 1000) : ∃ (out : List Int), (Zri a b band out (a.length * b.length)) ∧ Con Tryz.prog 145 [Zai false a, Zai false b, I band] true (slI true out) := by
  have hla := hab.2.2
  have hnm : (a.length : Int) * (b.length : Int) = ((a.length * b.length : Nat) : Int) := (Int.natCast_mul _ _).symm
  have hnl := Nat.mul_le_mul hla.1 hla.2
  have hh : ∃ r : (List Int), ((Zri a b band r (a.length * b.length)) ∧ (True)) ∧ Zbb Tryz.prog 145 [Zai false a, Zai false b, I band] (Zaf []) true (slI true r) (Zaf []) := by
    refine Zdv (Φ := fun r : (List Int) => (Zri a b band r (a.length * b.length)) ∧ (True)) [] (fun r => []) (fn := Tryz.f145) (nt := 117) Tryz.func145 rfl rfl (args := [Zai false a, Zai false b, I band]) rfl (Zbd (.inl ⟨rfl, Zdq false _⟩) (Zbd (.inl ⟨rfl, Zdq false _⟩) (Zbd (.inl ⟨rfl, trivial⟩) Zdp))) (res := fun r => slI true r) ?_
    refine xQ [] [0, 1, 2] [] [] trivial ?_
    refine xQ [] [0, 1, 2, 7] [] [] trivial ?_
    refine xQ [] [0, 1, 2, 7, 8] [] [] trivial ?_
    refine xQ [(3, .new 20)] [0, 1, 2, 7, 8, 9] [20] [inR .i64 ((a.length : Int) * (b.length : Int)), (0 : Int) ≤ ((a.length : Int) * (b.length : Int)) ∧ (((a.length : Int) * (b.length : Int)) : Int) ≤ ((a.length : Int) * (b.length : Int)) ∧ (8 : Int) * ((a.length : Int) * (b.length : Int)) ≤ 281474976710656 ∧ ((a.length : Int) * (b.length : Int)) ≤ 9223372036854775807] ⟨(Zac om om), ⟨om, om, om, om⟩, trivial⟩ ?_
    refine Zat ?_
    refine xR [] [0, 1, 2, 7, 8, 9, 10] [20] [Zai false a, Zai false b, I band, I (a.length : Int), I (b.length : Int), .arr 20, I 0] [some (.arr 1 (((a.length : Int) * (b.length : Int)).toNat) (fun _ => [I 0]))] [] trivial ?_
    refine Zbn ?_
    refine Zcw [] (T := [(0, Zai false a), (1, Zai false b), (2, I band), (7, I (a.length : Int)), (8, I (b.length : Int)), (9, .arr 20), (10, I 0)]) (O := [(20, tAI (List.replicate (((a.length : Int) * (b.length : Int)).toNat) (0 : Int)))]) rfl (⟨.inl rfl, .inl rfl, .inl rfl, .inl rfl, .inl rfl, .inl rfl, .inl rfl, trivial⟩) (⟨.inr ⟨rfl, (by first | rfl | (simp; done) | (simp; omega) | omega), fun i_ hi_ => .inl (Zpp (enc := cI) rfl i_ hi_)⟩, trivial⟩) ?_
    refine Zeb (X := Int × (List Int)) (fun x => mkS [(0, Zai false a), (1, Zai false b), (2, I band), (7, I (a.length : Int)), (8, I (b.length : Int)), (9, .arr 20), (10, I x.1)] [(20, tAI x.2)]) (fun x => (0 ≤ x.1 ∧ x.1 ≤ (a.length : Int)) ∧ (Zri a b band x.2 (x.1.toNat * b.length)) ∧ True) (fun x => ((a.length : Int) - x.1).toNat) (0, (List.replicate (((a.length : Int) * (b.length : Int)).toNat) (0 : Int))) rfl (show (0 ≤ (0 : Int) ∧ (0 : Int) ≤ (a.length : Int)) ∧ (Zri a b band (List.replicate (((a.length : Int) * (b.length : Int)).toNat) (0 : Int)) ((0 : Int).toNat * b.length)) ∧ True from ⟨om, (by exact ⟨by simp; omega, fun p q _ _ hk => by rw [show (0 : Int).toNat = 0 from rfl, Nat.zero_mul] at hk; omega⟩), trivial⟩) (fun x hI => ?_)
    obtain ⟨i, fl⟩ := x
    obtain ⟨hi0, hfl, _⟩ : (0 ≤ i ∧ i ≤ (a.length : Int)) ∧ (Zri a b band fl (i.toNat * b.length)) ∧ True := hI
    show XW _ _ _ _ (mkS [(0, Zai false a), (1, Zai false b), (2, I band), (7, I (a.length : Int)), (8, I (b.length : Int)), (9, .arr 20), (10, I i)] [(20, tAI fl)]) _ _
    refine Zat ?_
    refine Zat ?_
    by_cases h1 : i < (a.length : Int)
    ·have hi : i.toNat < a.length := by omega
     have hix : ((i.toNat : Nat) : Int) = i := by omega
     refine x_q [(2, .dec true)] [0, 1, 2, 7, 8, 9, 10, 23] [20] [_] ⟨h1, trivial⟩ ?_
     refine Zad ?_
     refine Zfl ?_
     refine Zbv ?_
     refine Zad ?_
     refine Zat ?_
     refine Zbn ?_
     refine xR [] [0, 1, 2, 7, 8, 9, 10, 11] [20] [Zai false a, Zai false b, I band, I (a.length : Int), I (b.length : Int), .arr 20, I i, I 0] [some (tAI fl)] [] trivial ?_
     refine Zbn ?_
     refine Zeb (X := Int × (List Int)) (fun x => mkS [(0, Zai false a), (1, Zai false b), (2, I band), (7, I (a.length : Int)), (8, I (b.length : Int)), (9, .arr 20), (10, I i), (11, I x.1)] [(20, tAI x.2)]) (fun x => (0 ≤ x.1 ∧ x.1 ≤ (b.length : Int)) ∧ (Zri a b band x.2 (i.toNat * b.length + x.1.toNat)) ∧ True) (fun x => ((b.length : Int) - x.1).toNat) (0, fl) rfl (show (0 ≤ (0 : Int) ∧ (0 : Int) ≤ (b.length : Int)) ∧ (Zri a b band fl (i.toNat * b.length + (0 : Int).toNat)) ∧ True from ⟨om, (by exact hfl), trivial⟩) (fun x hI => ?_)
     obtain ⟨j, fl'⟩ := x
     obtain ⟨hj0, hin, _⟩ : (0 ≤ j ∧ j ≤ (b.length : Int)) ∧ (Zri a b band fl' (i.toNat * b.length + j.toNat)) ∧ True := hI
     show XW _ _ _ _ (mkS [(0, Zai false a), (1, Zai false b), (2, I band), (7, I (a.length : Int)), (8, I (b.length : Int)), (9, .arr 20), (10, I i), (11, I j)] [(20, tAI fl')]) _ _
     refine Zat ?_
     refine Zat ?_
     by_cases h2 : j < (b.length : Int)
     ·have hj : j.toNat < b.length := by omega
      have hjx : ((j.toNat : Nat) : Int) = j := by omega
      have hcb := Zgs (hab.1 _ hi) (hab.2.1 _ hj)
      have hsb := sb_at hab hin hi hj
      rw [hix, hjx] at hsb
      have hol := hin.1
      have hlt := Yfd (j := 0) hi hj
      have hpr : i * (b.length : Int) = ((i.toNat * b.length : Nat) : Int) := by rw [Int.natCast_mul, hix]
      have hpq : (i - 1) * (b.length : Int) = ((i.toNat * b.length : Nat) : Int) - b.length := by rw [Int.sub_mul, Int.one_mul, hpr]
      have hps := Nat.mul_le_mul (show i.toNat ≤ 72 by omega) (show b.length ≤ 72 by omega)
      have hpt : 1 ≤ i → b.length ≤ i.toNat * b.length := fun q => Nat.le_mul_of_pos_left _ om
      have hka : (i * (b.length : Int) + j).toNat = i.toNat * b.length + j.toNat := by omega
      have hn1 : 0 < i → 0 < j → 0 ≤ at_ fl' ((i - 1) * (b.length : Int) + j - 1).toNat := fun q1 q2 => fl_nn hab hin om om om
      have hn2 : 0 < i → 0 ≤ at_ fl' ((i - 1) * (b.length : Int) + j).toNat := fun q1 => fl_nn hab hin om om om
      have hn3 : 0 < j → 0 ≤ at_ fl' (i * (b.length : Int) + j - 1).toNat := fun q1 => fl_nn hab hin om om om
      refine x_q [(2, .dec true)] [0, 1, 2, 7, 8, 9, 10, 11, 28] [20] [_] ⟨h2, trivial⟩ ?_
      refine Zad ?_
      refine Zfl ?_
      refine Zbv ?_
      refine Zad ?_
      refine Zat ?_
      refine Zbn ?_
      refine xR [] [0, 1, 2, 7, 8, 9, 10, 11, 12] [20] [Zai false a, Zai false b, I band, I (a.length : Int), I (b.length : Int), .arr 20, I i, I j, I 1000000000] [some (tAI fl')] [] trivial ?_
      refine x_cut (X := Int) (fun x => mkS [(0, Zai false a), (1, Zai false b), (2, I band), (7, I (a.length : Int)), (8, I (b.length : Int)), (9, .arr 20), (10, I i), (11, I j), (12, I x)] [(20, tAI fl')]) (fun x => (x = sb0 i j) ∧ True) ?_ (fun x hI => ?_)
      ·refine Zat ?_
       by_cases h3 : i = 0
       ·by_cases h4 : j = 0
        ·refine x_q [(1, .dec true), (4, .dec true)] [0, 1, 2, 7, 8, 9, 10, 11, 12, 36] [20] [_, _] ⟨h3, h4, trivial⟩ ?_
         refine Zad ?_
         refine Zfl ?_
         refine x_r [] [0, 1, 2, 7, 8, 9, 10, 11, 12] [20] [Zai false a, Zai false b, I band, I (a.length : Int), I (b.length : Int), .arr 20, I i, I j, I 0] [some (tAI fl')] [] trivial ?_
         exact Zlg 0 rfl (show (0 = sb0 i j) ∧ True from ⟨(by unfold sb0; split <;> omega), trivial⟩)
        refine x_r [(1, .dec true), (4, .dec false)] [0, 1, 2, 7, 8, 9, 10, 11, 12, 36] [20] [Zai false a, Zai false b, I band, I (a.length : Int), I (b.length : Int), .arr 20, I i, I j, I 1000000000, Bv false] [some (tAI fl')] [_, _] ⟨h3, h4, trivial⟩ ?_
        refine Zad ?_
        refine Zcd rfl ?_
        refine Zbv ?_
        refine Zcl [] (T := [(0, Zai false a), (1, Zai false b), (2, I band), (7, I (a.length : Int)), (8, I (b.length : Int)), (9, .arr 20), (10, I i), (11, I j), (12, I 1000000000)]) (O := [(20, tAI fl')]) rfl (⟨.inl rfl, .inl rfl, .inl rfl, .inl rfl, .inl rfl, .inl rfl, .inl rfl, .inl rfl, .inl rfl, trivial⟩) (⟨.inl rfl, trivial⟩) (Zlg 1000000000 rfl (show (1000000000 = sb0 i j) ∧ True from ⟨(by unfold sb0; split <;> omega), trivial⟩))
       refine x_r [(1, .dec false)] [0, 1, 2, 7, 8, 9, 10, 11, 12, 36] [20] [Zai false a, Zai false b, I band, I (a.length : Int), I (b.length : Int), .arr 20, I i, I j, I 1000000000, Bv false] [some (tAI fl')] [_] ⟨h3, trivial⟩ ?_
       refine Zad ?_
       refine Zcd rfl ?_
       refine Zbv ?_
       refine Zcl [] (T := [(0, Zai false a), (1, Zai false b), (2, I band), (7, I (a.length : Int)), (8, I (b.length : Int)), (9, .arr 20), (10, I i), (11, I j), (12, I 1000000000)]) (O := [(20, tAI fl')]) rfl (⟨.inl rfl, .inl rfl, .inl rfl, .inl rfl, .inl rfl, .inl rfl, .inl rfl, .inl rfl, .inl rfl, trivial⟩) (⟨.inl rfl, trivial⟩) (Zlg 1000000000 rfl (show (1000000000 = sb0 i j) ∧ True from ⟨(by unfold sb0; split <;> omega), trivial⟩))
      obtain ⟨q0, hxx⟩ : ∃ q0 : Int, q0 = x := ⟨x, rfl⟩
      subst hxx
      obtain ⟨hq0, _⟩ : (q0 = sb0 i j) ∧ True := hI
      show XW _ _ _ _ (mkS [(0, Zai false a), (1, Zai false b), (2, I band), (7, I (a.length : Int)), (8, I (b.length : Int)), (9, .arr 20), (10, I i), (11, I j), (12, I q0)] [(20, tAI fl')]) _ _
      refine x_cut (X := Int) (fun x => mkS [(0, Zai false a), (1, Zai false b), (2, I band), (7, I (a.length : Int)), (8, I (b.length : Int)), (9, .arr 20), (10, I i), (11, I j), (12, I x)] [(20, tAI fl')]) (fun x => (x = sb1 fl' b.length i j) ∧ True) ?_ (fun x hI => ?_)
      ·refine Zat ?_
       by_cases h5 : 0 < i
       ·by_cases h6 : 0 < j
        ·refine x_q [(1, .dec true), (4, .dec true)] [0, 1, 2, 7, 8, 9, 10, 11, 12, 42] [20] [_, _] ⟨h5, h6, trivial⟩ ?_
         refine Zad ?_
         refine Zfl ?_
         refine x_r [(11, .call [(true, .any), (true, .any)] true (I (min q0 (at_ fl' (((((i - 1) * (b.length : Int)) + j) - 1).toNat)))))] [0, 1, 2, 7, 8, 9, 10, 11, 12] [20] [Zai false a, Zai false b, I band, I (a.length : Int), I (b.length : Int), .arr 20, I i, I j, I (min q0 (at_ fl' (((((i - 1) * (b.length : Int)) + j) - 1).toNat)))] [some (tAI fl')] [inR .i64 (i - 1), inR .i64 ((i - 1) * (b.length : Int)), inR .i64 (((i - 1) * (b.length : Int)) + j), inR .i64 ((((i - 1) * (b.length : Int)) + j) - 1), (0 : Int) ≤ ((((i - 1) * (b.length : Int)) + j) - 1) ∧ ((((i - 1) * (b.length : Int)) + j) - 1) < (fl'.length : Int), ((((i - 1) * (b.length : Int)) + j) - 1).toNat < fl'.length, _ ∧ True] ⟨(Zac om om), (Zac om om), (Zac om om), (Zac om om), ⟨om, om⟩, om, ⟨(Zfp q0 (at_ fl' (((((i - 1) * (b.length : Int)) + j) - 1).toNat))), trivial⟩, trivial⟩ ?_
         exact Zlg (min q0 (at_ fl' (((((i - 1) * (b.length : Int)) + j) - 1).toNat))) rfl (show ((min q0 (at_ fl' (((((i - 1) * (b.length : Int)) + j) - 1).toNat))) = sb1 fl' b.length i j) ∧ True from ⟨(by unfold sb1; split <;> omega), trivial⟩)
        refine x_r [(1, .dec true), (4, .dec false)] [0, 1, 2, 7, 8, 9, 10, 11, 12, 42] [20] [Zai false a, Zai false b, I band, I (a.length : Int), I (b.length : Int), .arr 20, I i, I j, I q0, Bv false] [some (tAI fl')] [_, _] ⟨h5, h6, trivial⟩ ?_
        refine Zad ?_
        refine Zcd rfl ?_
        refine Zbv ?_
        refine Zcl [] (T := [(0, Zai false a), (1, Zai false b), (2, I band), (7, I (a.length : Int)), (8, I (b.length : Int)), (9, .arr 20), (10, I i), (11, I j), (12, I q0)]) (O := [(20, tAI fl')]) rfl (⟨.inl rfl, .inl rfl, .inl rfl, .inl rfl, .inl rfl, .inl rfl, .inl rfl, .inl rfl, .inl rfl, trivial⟩) (⟨.inl rfl, trivial⟩) (Zlg q0 rfl (show (q0 = sb1 fl' b.length i j) ∧ True from ⟨(by unfold sb1; split <;> omega), trivial⟩))
       refine x_r [(1, .dec false)] [0, 1, 2, 7, 8, 9, 10, 11, 12, 42] [20] [Zai false a, Zai false b, I band, I (a.length : Int), I (b.length : Int), .arr 20, I i, I j, I q0, Bv false] [some (tAI fl')] [_] ⟨h5, trivial⟩ ?_
       refine Zad ?_
       refine Zcd rfl ?_
       refine Zbv ?_
       refine Zcl [] (T := [(0, Zai false a), (1, Zai false b), (2, I band), (7, I (a.length : Int)), (8, I (b.length : Int)), (9, .arr 20), (10, I i), (11, I j), (12, I q0)]) (O := [(20, tAI fl')]) rfl (⟨.inl rfl, .inl rfl, .inl rfl, .inl rfl, .inl rfl, .inl rfl, .inl rfl, .inl rfl, .inl rfl, trivial⟩) (⟨.inl rfl, trivial⟩) (Zlg q0 rfl (show (q0 = sb1 fl' b.length i j) ∧ True from ⟨(by unfold sb1; split <;> omega), trivial⟩))
      obtain ⟨q1, hxx⟩ : ∃ q1 : Int, q1 = x := ⟨x, rfl⟩
      subst hxx
      obtain ⟨hq1, _⟩ : (q1 = sb1 fl' b.length i j) ∧ True := hI
      show XW _ _ _ _ (mkS [(0, Zai false a), (1, Zai false b), (2, I band), (7, I (a.length : Int)), (8, I (b.length : Int)), (9, .arr 20), (10, I i), (11, I j), (12, I q1)] [(20, tAI fl')]) _ _
      refine x_cut (X := Int) (fun x => mkS [(0, Zai false a), (1, Zai false b), (2, I band), (7, I (a.length : Int)), (8, I (b.length : Int)), (9, .arr 20), (10, I i), (11, I j), (12, I x)] [(20, tAI fl')]) (fun x => (x = sb2 fl' b.length i j) ∧ True) ?_ (fun x hI => ?_)
      ·refine Zat ?_
       by_cases h7 : 0 < i
       ·refine x_q [(1, .dec true)] [0, 1, 2, 7, 8, 9, 10, 11, 12, 56] [20] [_] ⟨h7, trivial⟩ ?_
        refine Zad ?_
        refine Zfl ?_
        refine x_r [(10, .call [(true, .any), (true, .any)] true (I (min q1 (at_ fl' ((((i - 1) * (b.length : Int)) + j).toNat)))))] [0, 1, 2, 7, 8, 9, 10, 11, 12] [20] [Zai false a, Zai false b, I band, I (a.length : Int), I (b.length : Int), .arr 20, I i, I j, I (min q1 (at_ fl' ((((i - 1) * (b.length : Int)) + j).toNat)))] [some (tAI fl')] [inR .i64 (i - 1), inR .i64 ((i - 1) * (b.length : Int)), inR .i64 (((i - 1) * (b.length : Int)) + j), (0 : Int) ≤ (((i - 1) * (b.length : Int)) + j) ∧ (((i - 1) * (b.length : Int)) + j) < (fl'.length : Int), (((i - 1) * (b.length : Int)) + j).toNat < fl'.length, _ ∧ True] ⟨(Zac om om), (Zac om om), (Zac om om), ⟨om, om⟩, om, ⟨(Zfp q1 (at_ fl' ((((i - 1) * (b.length : Int)) + j).toNat))), trivial⟩, trivial⟩ ?_
        exact Zlg (min q1 (at_ fl' ((((i - 1) * (b.length : Int)) + j).toNat))) rfl (show ((min q1 (at_ fl' ((((i - 1) * (b.length : Int)) + j).toNat))) = sb2 fl' b.length i j) ∧ True from ⟨(by unfold sb2; split <;> omega), trivial⟩)
       refine x_r [(1, .dec false)] [0, 1, 2, 7, 8, 9, 10, 11, 12, 56] [20] [Zai false a, Zai false b, I band, I (a.length : Int), I (b.length : Int), .arr 20, I i, I j, I q1, Bv false] [some (tAI fl')] [_] ⟨h7, trivial⟩ ?_
       refine Zad ?_
       refine Zcd rfl ?_
       refine Zbv ?_
       refine Zcl [] (T := [(0, Zai false a), (1, Zai false b), (2, I band), (7, I (a.length : Int)), (8, I (b.length : Int)), (9, .arr 20), (10, I i), (11, I j), (12, I q1)]) (O := [(20, tAI fl')]) rfl (⟨.inl rfl, .inl rfl, .inl rfl, .inl rfl, .inl rfl, .inl rfl, .inl rfl, .inl rfl, .inl rfl, trivial⟩) (⟨.inl rfl, trivial⟩) (Zlg q1 rfl (show (q1 = sb2 fl' b.length i j) ∧ True from ⟨(by unfold sb2; split <;> omega), trivial⟩))
      obtain ⟨q2, hxx⟩ : ∃ q2 : Int, q2 = x := ⟨x, rfl⟩
      subst hxx
      obtain ⟨hq2, _⟩ : (q2 = sb2 fl' b.length i j) ∧ True := hI
      show XW _ _ _ _ (mkS [(0, Zai false a), (1, Zai false b), (2, I band), (7, I (a.length : Int)), (8, I (b.length : Int)), (9, .arr 20), (10, I i), (11, I j), (12, I q2)] [(20, tAI fl')]) _ _
      refine x_cut (X := Int) (fun x => mkS [(0, Zai false a), (1, Zai false b), (2, I band), (7, I (a.length : Int)), (8, I (b.length : Int)), (9, .arr 20), (10, I i), (11, I j), (12, I x)] [(20, tAI fl')]) (fun x => (x = sb3 fl' b.length i j) ∧ True) ?_ (fun x hI => ?_)
      ·refine Zat ?_
       by_cases h8 : 0 < j
       ·refine x_q [(1, .dec true)] [0, 1, 2, 7, 8, 9, 10, 11, 12, 69] [20] [_] ⟨h8, trivial⟩ ?_
        refine Zad ?_
        refine Zfl ?_
        refine x_r [(10, .call [(true, .any), (true, .any)] true (I (min q2 (at_ fl' ((((i * (b.length : Int)) + j) - 1).toNat)))))] [0, 1, 2, 7, 8, 9, 10, 11, 12] [20] [Zai false a, Zai false b, I band, I (a.length : Int), I (b.length : Int), .arr 20, I i, I j, I (min q2 (at_ fl' ((((i * (b.length : Int)) + j) - 1).toNat)))] [some (tAI fl')] [inR .i64 (i * (b.length : Int)), inR .i64 ((i * (b.length : Int)) + j), inR .i64 (((i * (b.length : Int)) + j) - 1), (0 : Int) ≤ (((i * (b.length : Int)) + j) - 1) ∧ (((i * (b.length : Int)) + j) - 1) < (fl'.length : Int), (((i * (b.length : Int)) + j) - 1).toNat < fl'.length, _ ∧ True] ⟨(Zac om om), (Zac om om), (Zac om om), ⟨om, om⟩, om, ⟨(Zfp q2 (at_ fl' ((((i * (b.length : Int)) + j) - 1).toNat))), trivial⟩, trivial⟩ ?_
        exact Zlg (min q2 (at_ fl' ((((i * (b.length : Int)) + j) - 1).toNat))) rfl (show ((min q2 (at_ fl' ((((i * (b.length : Int)) + j) - 1).toNat))) = sb3 fl' b.length i j) ∧ True from ⟨(by unfold sb3; split <;> omega), trivial⟩)
       refine x_r [(1, .dec false)] [0, 1, 2, 7, 8, 9, 10, 11, 12, 69] [20] [Zai false a, Zai false b, I band, I (a.length : Int), I (b.length : Int), .arr 20, I i, I j, I q2, Bv false] [some (tAI fl')] [_] ⟨h8, trivial⟩ ?_
       refine Zad ?_
       refine Zcd rfl ?_
       refine Zbv ?_
       refine Zcl [] (T := [(0, Zai false a), (1, Zai false b), (2, I band), (7, I (a.length : Int)), (8, I (b.length : Int)), (9, .arr 20), (10, I i), (11, I j), (12, I q2)]) (O := [(20, tAI fl')]) rfl (⟨.inl rfl, .inl rfl, .inl rfl, .inl rfl, .inl rfl, .inl rfl, .inl rfl, .inl rfl, .inl rfl, trivial⟩) (⟨.inl rfl, trivial⟩) (Zlg q2 rfl (show (q2 = sb3 fl' b.length i j) ∧ True from ⟨(by unfold sb3; split <;> omega), trivial⟩))
      obtain ⟨q3, hxx⟩ : ∃ q3 : Int, q3 = x := ⟨x, rfl⟩
      subst hxx
      obtain ⟨hq3, _⟩ : (q3 = sb3 fl' b.length i j) ∧ True := hI
      show XW _ _ _ _ (mkS [(0, Zai false a), (1, Zai false b), (2, I band), (7, I (a.length : Int)), (8, I (b.length : Int)), (9, .arr 20), (10, I i), (11, I j), (12, I q3)] [(20, tAI fl')]) _ _
      refine Zat ?_
      by_cases h9 : q3 = 1000000000
      ·refine x_q [(1, .dec true)] [0, 1, 2, 7, 8, 9, 10, 11, 12, 90] [20] [_] ⟨h9, trivial⟩ ?_
       refine Zad ?_
       refine Zfl ?_
       refine x_r [] [0, 1, 2, 7, 8, 9, 10, 11] [20] [Zai false a, Zai false b, I band, I (a.length : Int), I (b.length : Int), .arr 20, I i, I j] [some (.arr 1 fl'.length (fun q => bif Nat.beq q (((i * (b.length : Int)) + j).toNat) then [I 1000000000] else (fI fl') q))] [inR .i64 (i * (b.length : Int)), inR .i64 ((i * (b.length : Int)) + j), (0 : Int) ≤ ((i * (b.length : Int)) + j) ∧ ((i * (b.length : Int)) + j) < (fl'.length : Int), ((i * (b.length : Int)) + j).toNat < fl'.length] ⟨(Zac om om), (Zac om om), ⟨om, om⟩, om, trivial⟩ ?_
       refine Zbo 3 ?_
       refine Zad ?_
       refine Zcw [] (T := [(0, Zai false a), (1, Zai false b), (2, I band), (7, I (a.length : Int)), (8, I (b.length : Int)), (9, .arr 20), (10, I i), (11, I j)]) (O := [(20, tAI (fl'.set (((i * (b.length : Int)) + j).toNat) 1000000000))]) rfl (⟨.inl rfl, .inl rfl, .inl rfl, .inl rfl, .inl rfl, .inl rfl, .inl rfl, .inl rfl, trivial⟩) (⟨.inr ⟨rfl, (by first | rfl | (simp; done) | (simp; omega) | omega), fun i_ hi_ => .inl (Zpq (enc := cI) rfl i_ hi_)⟩, trivial⟩) ?_
       refine x_r [] [0, 1, 2, 7, 8, 9, 10, 11] [20] [Zai false a, Zai false b, I band, I (a.length : Int), I (b.length : Int), .arr 20, I i, I (j + 1)] [some (tAI (fl'.set (((i * (b.length : Int)) + j).toNat) 1000000000))] [inR .i64 (j + 1)] ⟨(Zac om om), trivial⟩ ?_
       exact Zbh ((j + 1), (fl'.set (((i * (b.length : Int)) + j).toNat) 1000000000)) rfl (show (0 ≤ (j + 1) ∧ (j + 1) ≤ (b.length : Int)) ∧ (Zri a b band (fl'.set (((i * (b.length : Int)) + j).toNat) 1000000000) (i.toNat * b.length + (j + 1).toNat)) ∧ True from ⟨om, (by rw [show (j + 1).toNat = j.toNat + 1 from by omega]; exact Zys hin hi hj hka (by rw [hsb.2, ← hq3]; split <;> omega)), trivial⟩) (by first | (show (((b.length : Int) - (j + 1)).toNat : Nat) < ((b.length : Int) - j).toNat; omega) | (dsimp only; omega))
      by_cases h10 : band < ((i - j).natAbs : Int)
      ·refine x_q [(1, .dec false), (6, .call [(true, .any)] true (I ((i - j).natAbs : Int))), (8, .dec true)] [0, 1, 2, 7, 8, 9, 10, 11, 12, 90] [20] [_, inR .i64 (i - j), _ ∧ True, _] ⟨h9, (Zac om om), ⟨(Zhp (i - j) om), trivial⟩, h10, trivial⟩ ?_
       refine Zad ?_
       refine Zfl ?_
       refine x_r [] [0, 1, 2, 7, 8, 9, 10, 11] [20] [Zai false a, Zai false b, I band, I (a.length : Int), I (b.length : Int), .arr 20, I i, I j] [some (.arr 1 fl'.length (fun q => bif Nat.beq q (((i * (b.length : Int)) + j).toNat) then [I 1000000000] else (fI fl') q))] [inR .i64 (i * (b.length : Int)), inR .i64 ((i * (b.length : Int)) + j), (0 : Int) ≤ ((i * (b.length : Int)) + j) ∧ ((i * (b.length : Int)) + j) < (fl'.length : Int), ((i * (b.length : Int)) + j).toNat < fl'.length] ⟨(Zac om om), (Zac om om), ⟨om, om⟩, om, trivial⟩ ?_
       refine Zbo 3 ?_
       refine Zad ?_
       refine Zcw [] (T := [(0, Zai false a), (1, Zai false b), (2, I band), (7, I (a.length : Int)), (8, I (b.length : Int)), (9, .arr 20), (10, I i), (11, I j)]) (O := [(20, tAI (fl'.set (((i * (b.length : Int)) + j).toNat) 1000000000))]) rfl (⟨.inl rfl, .inl rfl, .inl rfl, .inl rfl, .inl rfl, .inl rfl, .inl rfl, .inl rfl, trivial⟩) (⟨.inr ⟨rfl, (by first | rfl | (simp; done) | (simp; omega) | omega), fun i_ hi_ => .inl (Zpq (enc := cI) rfl i_ hi_)⟩, trivial⟩) ?_
       refine x_r [] [0, 1, 2, 7, 8, 9, 10, 11] [20] [Zai false a, Zai false b, I band, I (a.length : Int), I (b.length : Int), .arr 20, I i, I (j + 1)] [some (tAI (fl'.set (((i * (b.length : Int)) + j).toNat) 1000000000))] [inR .i64 (j + 1)] ⟨(Zac om om), trivial⟩ ?_
       exact Zbh ((j + 1), (fl'.set (((i * (b.length : Int)) + j).toNat) 1000000000)) rfl (show (0 ≤ (j + 1) ∧ (j + 1) ≤ (b.length : Int)) ∧ (Zri a b band (fl'.set (((i * (b.length : Int)) + j).toNat) 1000000000) (i.toNat * b.length + (j + 1).toNat)) ∧ True from ⟨om, (by rw [show (j + 1).toNat = j.toNat + 1 from by omega]; exact Zys hin hi hj hka (by rw [hsb.2, ← hq3]; split <;> omega)), trivial⟩) (by first | (show (((b.length : Int) - (j + 1)).toNat : Nat) < ((b.length : Int) - j).toNat; omega) | (dsimp only; omega))
      refine x_q [(1, .dec false), (6, .call [(true, .any)] true (I ((i - j).natAbs : Int))), (8, .dec false)] [0, 1, 2, 7, 8, 9, 10, 11, 12, 90] [20] [_, inR .i64 (i - j), _ ∧ True, _] ⟨h9, (Zac om om), ⟨(Zhp (i - j) om), trivial⟩, h10, trivial⟩ ?_
      refine Zad ?_
      refine Zkr ?_
      refine x_r [(15, .call [(true, .any), (true, .any)] true (I (Zdr (at_ a i.toNat) (at_ b j.toNat))))] [0, 1, 2, 7, 8, 9, 10, 11] [20] [Zai false a, Zai false b, I band, I (a.length : Int), I (b.length : Int), .arr 20, I i, I j] [some (.arr 1 fl'.length (fun q => bif Nat.beq q (((i * (b.length : Int)) + j).toNat) then [I (q3 + (Zdr (at_ a i.toNat) (at_ b j.toNat)))] else (fI fl') q))] [inR .i64 (i * (b.length : Int)), inR .i64 ((i * (b.length : Int)) + j), (0 : Int) ≤ i ∧ i < (a.length : Int), (0 : Int) ≤ j ∧ j < (b.length : Int), _ ∧ True, inR .i64 (q3 + (Zdr (at_ a i.toNat) (at_ b j.toNat))), (0 : Int) ≤ ((i * (b.length : Int)) + j) ∧ ((i * (b.length : Int)) + j) < (fl'.length : Int), ((i * (b.length : Int)) + j).toNat < fl'.length] ⟨(Zac om om), (Zac om om), ⟨om, om⟩, ⟨om, om⟩, ⟨(Ydg (at_ a i.toNat) (at_ b j.toNat) (by first | exact hab.1 _ om | exact hab.2.1 _ om) (by first | exact hab.1 _ om | exact hab.2.1 _ om)), trivial⟩, (Zac om om), ⟨om, om⟩, om, trivial⟩ ?_
      refine Zbo 3 ?_
      refine Zad ?_
      refine Zcw [] (T := [(0, Zai false a), (1, Zai false b), (2, I band), (7, I (a.length : Int)), (8, I (b.length : Int)), (9, .arr 20), (10, I i), (11, I j)]) (O := [(20, tAI (fl'.set (((i * (b.length : Int)) + j).toNat) (q3 + (Zdr (at_ a i.toNat) (at_ b j.toNat)))))]) rfl (⟨.inl rfl, .inl rfl, .inl rfl, .inl rfl, .inl rfl, .inl rfl, .inl rfl, .inl rfl, trivial⟩) (⟨.inr ⟨rfl, (by first | rfl | (simp; done) | (simp; omega) | omega), fun i_ hi_ => .inl (Zpq (enc := cI) rfl i_ hi_)⟩, trivial⟩) ?_
      refine x_r [] [0, 1, 2, 7, 8, 9, 10, 11] [20] [Zai false a, Zai false b, I band, I (a.length : Int), I (b.length : Int), .arr 20, I i, I (j + 1)] [some (tAI (fl'.set (((i * (b.length : Int)) + j).toNat) (q3 + (Zdr (at_ a i.toNat) (at_ b j.toNat)))))] [inR .i64 (j + 1)] ⟨(Zac om om), trivial⟩ ?_
      exact Zbh ((j + 1), (fl'.set (((i * (b.length : Int)) + j).toNat) (q3 + (Zdr (at_ a i.toNat) (at_ b j.toNat))))) rfl (show (0 ≤ (j + 1) ∧ (j + 1) ≤ (b.length : Int)) ∧ (Zri a b band (fl'.set (((i * (b.length : Int)) + j).toNat) (q3 + (Zdr (at_ a i.toNat) (at_ b j.toNat)))) (i.toNat * b.length + (j + 1).toNat)) ∧ True from ⟨om, (by rw [show (j + 1).toNat = j.toNat + 1 from by omega]; exact Zys hin hi hj hka (by rw [hsb.2, ← hq3]; split <;> omega)), trivial⟩) (by first | (show (((b.length : Int) - (j + 1)).toNat : Nat) < ((b.length : Int) - j).toNat; omega) | (dsimp only; omega))
     have hje : j.toNat = b.length := by omega
     refine x_r [(2, .dec false)] [0, 1, 2, 7, 8, 9, 10, 11, 28] [20] [Zai false a, Zai false b, I band, I (a.length : Int), I (b.length : Int), .arr 20, I i, I j, Bv false] [some (tAI fl')] [_] ⟨h2, trivial⟩ ?_
     refine Zad ?_
     refine Zcd rfl ?_
     refine Zde ?_
     refine Zax ?_
     refine Zbe ?_
     refine Zay ?_
     refine Zbo 1 ?_
     refine Zad ?_
     refine x_r [] [0, 1, 2, 7, 8, 9, 10] [20] [Zai false a, Zai false b, I band, I (a.length : Int), I (b.length : Int), .arr 20, I (i + 1)] [some (tAI fl')] [inR .i64 (i + 1)] ⟨(Zac om om), trivial⟩ ?_
     exact Zbh ((i + 1), fl') rfl (show (0 ≤ (i + 1) ∧ (i + 1) ≤ (a.length : Int)) ∧ (Zri a b band fl' ((i + 1).toNat * b.length)) ∧ True from ⟨om, (by rw [show (i + 1).toNat = i.toNat + 1 from by omega]; exact fl_done hin hje), trivial⟩) (by first | (show (((a.length : Int) - (i + 1)).toNat : Nat) < ((a.length : Int) - i).toNat; omega) | (dsimp only; omega))
    have hie : i.toNat = a.length := by omega
    rw [hie] at hfl
    refine x_r [(2, .dec false)] [0, 1, 2, 7, 8, 9, 10, 23] [20] [Zai false a, Zai false b, I band, I (a.length : Int), I (b.length : Int), .arr 20, I i, Bv false] [some (tAI fl)] [_] ⟨h1, trivial⟩ ?_
    refine Zad ?_
    refine Zcd rfl ?_
    refine Zde ?_
    refine Zax ?_
    refine Zbe ?_
    refine Zay ?_
    refine Zad ?_
    refine xR [] [6] [20] [.arr 20] [some (tAI fl)] [] trivial ?_
    refine Zem ?_
    refine Zcz fl (show (Zri a b band fl (a.length * b.length)) ∧ (True) from ⟨(by first | assumption | exact hfl), trivial⟩) (trivial) (.arr 20) (by kernel_rfl) (.inr ⟨(fun _ => rfl), rfl, rfl, fun i _ => .inl rfl⟩) (fun _ => rfl) (fun _ => (tagI true _))
  obtain ⟨out, ⟨hh0, _⟩, hc⟩ := hh
  exact ⟨out, hh0, hc⟩
theorem Zyt (a : List Feat) (b : List Feat) (band : Int) (hab : Yeu a b) (hbd : 0 ≤ band ∧ band ≤ 1000) (h1 : 1 ≤ a.length ∧ 1 ≤ b.length) : ∃ (v : Int), (v = cv Zji a b band (a.length - 1) (b.length - 1)) ∧ Con Tryz.prog 105 [Zai false a, Zai false b, I band] true (I v) := by
 have hh : ∃ r : Int, ((r = cv Zji a b band (a.length - 1) (b.length - 1)) ∧ (True)) ∧ Zbb Tryz.prog 105 [Zai false a, Zai false b, I band] (Zaf []) true (I r) (Zaf []) := by
  refine Zdv (Φ := fun r : Int => (r = cv Zji a b band (a.length - 1) (b.length - 1)) ∧ (True)) [] (fun r => []) (fn := Tryz.f105) (nt := 18) Tryz.func105 rfl rfl (args := [Zai false a, Zai false b, I band]) rfl (Zbd (.inl ⟨rfl, Zdq false _⟩) (Zbd (.inl ⟨rfl, Zdq false _⟩) (Zbd (.inl ⟨rfl, trivial⟩) Zdp))) (res := fun r => I r) ?_
  refine xQ [] [0, 1, 2] [] [] trivial ?_
  refine Zat ?_
  obtain ⟨out_1, hx1_0, hc1⟩ := Zyr a b band hab om
  have hls := fl_last hx1_0 h1.1 h1.2
  have hlq := Nat.mul_le_mul hab.2.2.1 hab.2.2.2
  rw [← hx1_0.1] at hlq
  refine x_q [(3, .call [(true, .any), (true, .any), (true, .any)] true (slI true out_1))] [7] [] [_ ∧ True] ⟨⟨hc1, trivial⟩, trivial⟩ ?_
  refine Zad ?_
  refine xR [] [6] [] [I (at_ out_1 (((out_1.length : Int) - 1).toNat))] [] [inR .i64 ((out_1.length : Int) - 1), (0 : Int) ≤ ((out_1.length : Int) - 1) ∧ ((out_1.length : Int) - 1) < (out_1.length : Int)] ⟨(Zac om om), ⟨om, om⟩, trivial⟩ ?_
  refine Zem ?_
  refine Zcz (at_ out_1 (((out_1.length : Int) - 1).toNat)) (show ((at_ out_1 (((out_1.length : Int) - 1).toNat)) = cv Zji a b band (a.length - 1) (b.length - 1)) ∧ (True) from ⟨(by (rw [← hls.1]; congr 1; omega)), trivial⟩) (trivial) (I (at_ out_1 (((out_1.length : Int) - 1).toNat))) (by kernel_rfl) (.inl rfl) (fun _ => rfl) (fun _ => trivial)
 obtain ⟨v, ⟨hh0, _⟩, hc⟩ := hh
 exact ⟨v, hh0, hc⟩
theorem Ztk (s : Store) (feats : List Feat) (hst : Zbw s = true) (okf : Zbr feats 72 = true) (h18 : s.Templates.length ≤ 18) : ∃ (v : List Match), (v = mtS s feats s.Templates.length) ∧ Con Tryz.prog 63 [.ptr false [I s.Band, Zav false s.Templates], Zai false feats] true (Zhd true v) := by
  have hh : ∃ r : (List Match), ((r = mtS s feats s.Templates.length) ∧ (True)) ∧ Zbb Tryz.prog 63 [.ptr false [I s.Band, Zav false s.Templates], Zai false feats] (Zaf []) true (Zhd true r) (Zaf []) := by
    refine Zdv (Φ := fun r : (List Match) => (r = mtS s feats s.Templates.length) ∧ (True)) [] (fun r => []) (fn := Tryz.f63) (nt := 51) Tryz.func63 rfl rfl (args := [.ptr false [I s.Band, Zav false s.Templates], Zai false feats]) rfl (Zbd (.inl ⟨rfl, by simp [Zaj, Zag, Zdz]⟩) (Zbd (.inl ⟨rfl, Zdq false _⟩) Zdp)) (res := fun r => Zhd true r) ?_
    refine xQ [] [0, 1] [] [] trivial ?_
    refine xQ [(0, .new 7)] [0, 1, 5] [7] [] trivial ?_
    refine Zat ?_
    refine xR [] [0, 1, 5, 6] [7] [.ptr false [I s.Band, Zav false s.Templates], Zai false feats, .arr 7, I 0] [some (.arr 2 0 (Zgm [] 2))] [] trivial ?_
    refine Zbn ?_
    refine Zcw [] (T := [(0, .ptr false [I s.Band, Zav false s.Templates]), (1, Zai false feats), (5, .arr 7), (6, I 0)]) (O := [(7, Zds ([] : List Match))]) rfl (⟨.inl rfl, .inl rfl, .inl rfl, .inl rfl, trivial⟩) (⟨.inr ⟨rfl, (by first | rfl | (simp; done) | (simp; omega) | omega), fun i_ hi_ => absurd hi_ (Nat.not_lt_zero _)⟩, trivial⟩) ?_
    refine Zeb (X := (List Match) × Int) (fun x => mkS [(0, .ptr false [I s.Band, Zav false s.Templates]), (1, Zai false feats), (5, .arr 7), (6, I x.2)] [(7, Zds x.1)]) (fun x => (0 ≤ x.2 ∧ x.2 ≤ (s.Templates.length : Int)) ∧ (x.1 = mtS s feats x.2.toNat) ∧ True) (fun x => ((s.Templates.length : Int) - x.2).toNat) (([] : List Match), 0) rfl (show (0 ≤ (0 : Int) ∧ (0 : Int) ≤ (s.Templates.length : Int)) ∧ (([] : List Match) = mtS s feats (0 : Int).toNat) ∧ True from ⟨om, (by rfl), trivial⟩) (fun x hI => ?_)
    obtain ⟨ls, i⟩ := x
    obtain ⟨hi0, hls, _⟩ : (0 ≤ i ∧ i ≤ (s.Templates.length : Int)) ∧ (ls = mtS s feats i.toNat) ∧ True := hI
    show XW _ _ _ _ (mkS [(0, .ptr false [I s.Band, Zav false s.Templates]), (1, Zai false feats), (5, .arr 7), (6, I i)] [(7, Zds ls)]) _ _
    refine Zat ?_
    refine Zat ?_
    by_cases h1 : i < (s.Templates.length : Int)
    ·have hi : i.toNat < s.Templates.length := by omega
     have hix : ((i.toNat : Nat) : Int) = i := by omega
     have htm := (Zea.1 hst).2.2 _ hi
     have hts : Zbr (at_ s.Templates i.toNat).Feats 72 = true := by simp only [Zfn, Bool.and_eq_true] at htm; exact htm.2
     have htn := Zgx hts
     have hfn := Zgx okf
     have hml : ls.length ≤ i.toNat := by rw [hls]; exact Zng s feats _
     have hnx : (i + 1).toNat = i.toNat + 1 := by omega
     have hsb := (Zea.1 hst).1
     refine x_q [(6, .dec true)] [0, 1, 5, 6, 14] [7] [_] ⟨h1, trivial⟩ ?_
     refine Zad ?_
     refine Zfl ?_
     refine Zbv ?_
     refine Zad ?_
     refine Zat ?_
     refine Zbn ?_
     refine Zat ?_
     rcases Bool.eq_false_or_eq_true (inB s.Band 0 72 && decide (((((feats.length : Int) - (((at_ s.Templates i.toNat).Feats).length : Int)).natAbs : Int) ≤ s.Band))) with h2 | h2
     ·have hin : inS s feats i.toNat = true := by first | exact h2 | (unfold inS; rw [show ((feats.length : Int) - ((at_ s.Templates i.toNat).Feats.length : Int)).natAbs = (((at_ s.Templates i.toNat).Feats.length : Int) - (feats.length : Int)).natAbs from by omega]; exact h2)
      have hcv := Yfe okf htm hin
      have hms := mt_y hin
      refine x_q [(13, .call [(true, .any), (true, .any), (true, .any)] true (Bv true))] [0, 1, 5, 6, 30] [7] [(0 : Int) ≤ i ∧ i < (s.Templates.length : Int), Con Tryz.prog 104 [Zai false feats, Zai false ((at_ s.Templates i.toNat).Feats), I s.Band] true (Bv true) ∧ True] ⟨⟨om, om⟩, ⟨(Zap h2 (Yay feats ((at_ s.Templates i.toNat).Feats) s.Band om om)), trivial⟩, trivial⟩ ?_
      refine Zad ?_
      refine Zfl ?_
      obtain ⟨v_1, hx1_0, hc1⟩ := Zyt feats ((at_ s.Templates i.toNat).Feats) s.Band (Zyu okf hts) om om
      have hel : v_1 = (mtM s feats i.toNat).Cost := hx1_0
      refine x_q [(15, .call [(true, .any), (true, .any), (true, .any)] true (I v_1)), (17, .new 48), (18, .new 49)] [0, 1, 5, 6] [49] [(0 : Int) ≤ i ∧ i < (s.Templates.length : Int), _ ∧ True, (ls.length + 1) * 16 ≤ 140737488355328] ⟨⟨om, om⟩, ⟨hc1, trivial⟩, om, trivial⟩ ?_
      refine Zbo 1 ?_
      refine Zad ?_
      refine x_r [] [0, 1, 5, 6] [49] [.ptr false [I s.Band, Zav false s.Templates], Zai false feats, .arr 49, I (i + 1)] [some (.arr 2 (ls.length + 1) (Zgb ls.length (Yaz ls) (Zgm [I i, I v_1] 2)))] [inR .i64 (i + 1)] ⟨(Zac om om), trivial⟩ ?_
      refine Zcl [(7, 49)] (T := [(0, .ptr false [I s.Band, Zav false s.Templates]), (1, Zai false feats), (5, .arr 7), (6, I (i + 1))]) (O := [(7, Zds (ls ++ [(Match.mk i v_1)]))]) rfl (⟨.inl rfl, .inl rfl, .inl rfl, .inl rfl, trivial⟩) (⟨.inr ⟨rfl, (by first | rfl | (simp; done) | (simp; omega) | omega), fun i_ hi_ => .inl (Zcm (enc := Zwa) (xs := ls) rfl i_ hi_)⟩, trivial⟩) (Zbh ((ls ++ [(Match.mk i v_1)]), (i + 1)) rfl (show (0 ≤ (i + 1) ∧ (i + 1) ≤ (s.Templates.length : Int)) ∧ ((ls ++ [(Match.mk i v_1)]) = mtS s feats (i + 1).toNat) ∧ True from ⟨om, (by (rw [hnx, hls, hms]; first | done | rfl | (rw [hel]; unfold mtM; rw [hix]))), trivial⟩) (by first | (show (((s.Templates.length : Int) - (i + 1)).toNat : Nat) < ((s.Templates.length : Int) - i).toNat; omega) | (dsimp only; omega)))
     have hin : ¬ inS s feats i.toNat = true := by first | (unfold inS; rw [h2]; decide) | (unfold inS; rw [show ((feats.length : Int) - ((at_ s.Templates i.toNat).Feats.length : Int)).natAbs = (((at_ s.Templates i.toNat).Feats.length : Int) - (feats.length : Int)).natAbs from by omega, h2]; decide)
     have hms := mt_n hin
     refine x_q [(13, .call [(true, .any), (true, .any), (true, .any)] true (Bv false))] [0, 1, 5, 6, 30] [7] [(0 : Int) ≤ i ∧ i < (s.Templates.length : Int), Con Tryz.prog 104 [Zai false feats, Zai false ((at_ s.Templates i.toNat).Feats), I s.Band] true (Bv false) ∧ True] ⟨⟨om, om⟩, ⟨(Zap h2 (Yay feats ((at_ s.Templates i.toNat).Feats) s.Band om om)), trivial⟩, trivial⟩ ?_
     refine Zad ?_
     refine Zkr ?_
     refine Zbv ?_
     refine Zbo 1 ?_
     refine Zad ?_
     refine x_r [] [0, 1, 5, 6] [7] [.ptr false [I s.Band, Zav false s.Templates], Zai false feats, .arr 7, I (i + 1)] [some (Zds ls)] [inR .i64 (i + 1)] ⟨(Zac om om), trivial⟩ ?_
     exact Zbh (ls, (i + 1)) rfl (show (0 ≤ (i + 1) ∧ (i + 1) ≤ (s.Templates.length : Int)) ∧ (ls = mtS s feats (i + 1).toNat) ∧ True from ⟨om, (by (rw [hnx, hls, hms]; first | done | rfl | (rw [hel]; unfold mtM; rw [hix]))), trivial⟩) (by first | (show (((s.Templates.length : Int) - (i + 1)).toNat : Nat) < ((s.Templates.length : Int) - i).toNat; omega) | (dsimp only; omega))
    have hie : i.toNat = s.Templates.length := by omega
    refine x_r [(6, .dec false)] [0, 1, 5, 6, 14] [7] [.ptr false [I s.Band, Zav false s.Templates], Zai false feats, .arr 7, I i, Bv false] [some (Zds ls)] [_] ⟨h1, trivial⟩ ?_
    refine Zad ?_
    refine Zcd rfl ?_
    refine Zde ?_
    refine Zax ?_
    refine Zbe ?_
    refine Zay ?_
    refine Zad ?_
    refine xR [] [4] [7] [.arr 7] [some (Zds ls)] [] trivial ?_
    refine Zem ?_
    refine Zcz ls (show (ls = mtS s feats s.Templates.length) ∧ (True) from ⟨(by (rw [hls, hie])), trivial⟩) (trivial) (.arr 7) (by kernel_rfl) (.inr ⟨(fun _ => rfl), rfl, rfl, fun i _ => .inl rfl⟩) (fun _ => rfl) (fun _ => (tagMatch true _))
  obtain ⟨v, ⟨hh0, _⟩, hc⟩ := hh
  exact ⟨v, hh0, hc⟩
theorem Zkd (a : Hyp) (b : Hyp) : Con Tryz.prog 66 [Zld a, Zld b] true (Bv (decide (Zet a b < 0))) := by
  refine Zbu (fn := Tryz.f66) (nt := 24) Tryz.func66 rfl rfl rfl rfl (by simp [Zag, Zaj]) fun B hB => ?_
  refine aQ [(0, .new 2), (1, .new 3)] [2, 3] [2, 3] [] hB trivial ?_
  refine Zah ?_
  by_cases h1 : a.Cost < b.Cost
  ·refine Zdg [(4, .dec true)] [4] [] [Bv true] [] [_] hB ⟨h1, trivial⟩ ?_
   refine Zaa ?_
   refine Zam ?_
   refine Zan hB (Bv true) (by kernel_rfl) (.inl (by refine congrArg Bv ?_; simp only [Zoy]; first | rfl | (simp [*]; done) | (simp_all; done) | (simp [*]; omega) | (rw [Bool.eq_iff_iff]; simp only [decide_eq_true_eq]; constructor <;> intro q <;> first | omega | (simp_all; done) | (simp_all; omega)))) rfl (fun _ => trivial)
  by_cases h2 : a.Cost = b.Cost
  ·refine Zdg [(4, .dec false), (10, .dec true)] [4] [] [Bv (decide (Zgc a.Label b.Label = true))] [] [_, _] hB ⟨h1, h2, trivial⟩ ?_
   refine Zaa ?_
   refine Zam ?_
   refine Zan hB (Bv (decide (Zgc a.Label b.Label = true))) (by kernel_rfl) (.inl (by refine congrArg Bv ?_; simp only [Zoy]; first | rfl | (simp [*]; done) | (simp_all; done) | (simp [*]; omega) | (rw [Bool.eq_iff_iff]; simp only [decide_eq_true_eq]; constructor <;> intro q <;> first | omega | (simp_all; done) | (simp_all; omega)))) rfl (fun _ => trivial)
  refine Zdg [(4, .dec false), (10, .dec false)] [4] [] [Bv false] [] [_, _] hB ⟨h1, h2, trivial⟩ ?_
  refine Zaa ?_
  refine Zam ?_
  refine Zan hB (Bv false) (by kernel_rfl) (.inl (by refine congrArg Bv ?_; simp only [Zoy]; first | rfl | (simp [*]; done) | (simp_all; done) | (simp [*]; omega) | (rw [Bool.eq_iff_iff]; simp only [decide_eq_true_eq]; constructor <;> intro q <;> first | omega | (simp_all; done) | (simp_all; omega)))) rfl (fun _ => trivial)
theorem Zwb (list : List Hyp) (h : Hyp) (ok : okHb list) (he : Zco h.Label = true ∧ 0 ≤ h.Cost ∧ h.Cost ≤ 1000000) (hl : list.length ≤ 100) : ∃ (v : List Hyp), (∀ P, chH P list → chH (P ++ [h]) v) ∧ (v.length ≤ list.length + 1) ∧ Con Tryz.prog 64 [Zbs false list, Zld h] false (Zbs false v) := by
  have hh : ∃ r : (List Hyp), ((∀ P, chH P list → chH (P ++ [h]) r) ∧ (r.length ≤ list.length + 1) ∧ (True)) ∧ Zbb Tryz.prog 64 [Zbs false list, Zld h] (Zaf []) false (Zbs false r) (Zaf []) := by
    refine Zdv (Φ := fun r : (List Hyp) => (∀ P, chH P list → chH (P ++ [h]) r) ∧ (r.length ≤ list.length + 1) ∧ (True)) [] (fun r => []) (fn := Tryz.f64) (nt := 69) Tryz.func64 rfl rfl (args := [Zbs false list, Zld h]) rfl (Zbd (.inl ⟨rfl, Ziz false _⟩) (Zbd (.inl ⟨rfl, by simp [Zaj, Zag]⟩) Zdp)) (res := fun r => Zbs false r) ?_
    refine xQ [(0, .new 3)] [0, 3] [3] [] trivial ?_
    refine xQ [(0, .new 9)] [0, 3, 5] [3, 9] [] trivial ?_
    refine Zat ?_
    refine xR [] [0, 3, 5, 6] [3, 9] [Zbs false list, .ref 3 0, .arr 9, I 0] [some (Zlo h), some (.arr 2 0 (Zgm [] 2))] [] trivial ?_
    refine Zbn ?_
    refine Zcw [] (T := [(0, Zbs false list), (3, .ref 3 0), (5, .arr 9), (6, I 0)]) (O := [(3, Zlo h), (9, Zbz ([] : List Hyp))]) rfl (⟨.inl rfl, .inl rfl, .inl rfl, .inl rfl, trivial⟩) (⟨.inl rfl, .inr ⟨rfl, (by first | rfl | (simp; done) | (simp; omega) | omega), fun i_ hi_ => absurd hi_ (Nat.not_lt_zero _)⟩, trivial⟩) ?_
    refine Zeb (X := (List Hyp) × Int) (fun x => mkS [(0, Zbs false list), (3, .ref 3 0), (5, .arr 9), (6, I x.2)] [(3, Zlo h), (9, Zbz x.1)]) (fun x => (0 ≤ x.2 ∧ x.2 ≤ (list.length : Int)) ∧ (x.1 = Zpr h.Label list x.2.toNat) ∧ ((x.1.length : Int) ≤ x.2) ∧ (∀ j : Nat, (j : Int) < x.2 → (at_ list j).Label = h.Label → h.Cost < (at_ list j).Cost) ∧ True) (fun x => ((list.length : Int) - x.2).toNat) (([] : List Hyp), 0) rfl (show (0 ≤ (0 : Int) ∧ (0 : Int) ≤ (list.length : Int)) ∧ (([] : List Hyp) = Zpr h.Label list (0 : Int).toNat) ∧ ((([] : List Hyp).length : Int) ≤ (0 : Int)) ∧ (∀ j : Nat, (j : Int) < (0 : Int) → (at_ list j).Label = h.Label → h.Cost < (at_ list j).Cost) ∧ True from ⟨om, (by rfl), (by simp), (by intro j hj; omega), trivial⟩) (fun x hI => ?_)
    obtain ⟨out, i⟩ := x
    obtain ⟨hi0, hou, hol0, hz, _⟩ : (0 ≤ i ∧ i ≤ (list.length : Int)) ∧ (out = Zpr h.Label list i.toNat) ∧ ((out.length : Int) ≤ i) ∧ (∀ j : Nat, (j : Int) < i → (at_ list j).Label = h.Label → h.Cost < (at_ list j).Cost) ∧ True := hI
    show XW _ _ _ _ (mkS [(0, Zbs false list), (3, .ref 3 0), (5, .arr 9), (6, I i)] [(3, Zlo h), (9, Zbz out)]) _ _
    refine Zat ?_
    refine Zat ?_
    by_cases h1 : i < (list.length : Int)
    ·have hi : i.toNat < list.length := by omega
     have hii : (i + 1).toNat = i.toNat + 1 := by omega
     refine x_q [(3, .dec true)] [0, 3, 5, 6, 13] [3, 9] [_] ⟨h1, trivial⟩ ?_
     refine Zad ?_
     refine Zfl ?_
     refine Zbv ?_
     refine Zad ?_
     refine Zat ?_
     refine Zbn ?_
     refine Zat ?_
     by_cases h2 : ((at_ list i.toNat).Label) = h.Label
     ·have hlq := h2
      have hst := oth_n hi hlq
      refine x_q [(7, .dec false)] [0, 3, 5, 6, 23] [3, 9] [(0 : Int) ≤ i ∧ i < (list.length : Int), ¬ (((at_ list i.toNat).Label) ≠ h.Label)] ⟨⟨om, om⟩, (fun hq => hq h2), trivial⟩ ?_
      refine Zad ?_
      refine Zkr ?_
      refine Zat ?_
      by_cases h3 : ((at_ list i.toNat).Cost) ≤ h.Cost
      ·have hcq := h3
       refine x_q [(7, .dec true)] [0, 3, 5, 6, 38] [3, 9] [(0 : Int) ≤ i ∧ i < (list.length : Int), _] ⟨⟨om, om⟩, h3, trivial⟩ ?_
       refine Zad ?_
       refine Zfl ?_
       refine xR [] [4] [] [Zbs false list] [] [] trivial ?_
       refine Zem ?_
       refine Zfy (Zff (Zlp (Zfy (Zff ?_))))
       refine Zcz list (show (∀ P, chH P list → chH (P ++ [h]) list) ∧ (list.length ≤ list.length + 1) ∧ (True) from ⟨(by first | exact (fun P hc => Zyv hc (Zdf hi) hlq om) | (intro P hc; subst hou2; exact Yff hc hzz (Ztl hok1 he hne1 om hlo (fun j h1 h2 => hhi j om h2)))), (by first | omega | (simp; omega)), trivial⟩) (trivial) (Zbs false list) (by kernel_rfl) (.inl rfl) (fun h => by cases h) (fun h => by cases h)
      have hcq := h3
      refine x_q [(7, .dec false)] [0, 3, 5, 6, 38] [3, 9] [(0 : Int) ≤ i ∧ i < (list.length : Int), _] ⟨⟨om, om⟩, h3, trivial⟩ ?_
      refine Zad ?_
      refine Zkr ?_
      refine Zbv ?_
      refine Zbo 1 ?_
      refine Zad ?_
      refine x_r [] [0, 3, 5, 6] [3, 9] [Zbs false list, .ref 3 0, .arr 9, I (i + 1)] [some (Zlo h), some (Zbz out)] [inR .i64 (i + 1)] ⟨(Zac om om), trivial⟩ ?_
      exact Zbh (out, (i + 1)) rfl (show (0 ≤ (i + 1) ∧ (i + 1) ≤ (list.length : Int)) ∧ (out = Zpr h.Label list (i + 1).toNat) ∧ ((out.length : Int) ≤ (i + 1)) ∧ (∀ j : Nat, (j : Int) < (i + 1) → (at_ list j).Label = h.Label → h.Cost < (at_ list j).Cost) ∧ True from ⟨om, (by (rw [hii, hst, ← hou])), (by first | omega | (simp; omega)), (by intro j hj hl2; by_cases ej : j = i.toNat; (subst ej; first | exact absurd hl2 hlq | omega); exact hz j om hl2), trivial⟩) (by first | (show (((list.length : Int) - (i + 1)).toNat : Nat) < ((list.length : Int) - i).toNat; omega) | (dsimp only; omega))
     have hlq := h2
     have hst := oth_y hi hlq
     refine x_q [(7, .dec true)] [0, 3, 5, 6, 23] [3, 9] [(0 : Int) ≤ i ∧ i < (list.length : Int), _] ⟨⟨om, om⟩, h2, trivial⟩ ?_
     refine Zad ?_
     refine Zfl ?_
     refine x_q [(5, .new 29), (6, .new 30)] [0, 3, 5, 6] [3, 30] [(0 : Int) ≤ i ∧ i < (list.length : Int), (out.length + 1) * 24 ≤ 140737488355328] ⟨⟨om, om⟩, om, trivial⟩ ?_
     refine Zbo 1 ?_
     refine Zad ?_
     refine x_r [] [0, 3, 5, 6] [3, 30] [Zbs false list, .ref 3 0, .arr 30, I (i + 1)] [some (Zlo h), some (.arr 2 (out.length + 1) (Zgb out.length (Ziy out) (Zgm [Sv ((at_ list i.toNat).Label), I ((at_ list i.toNat).Cost)] 2)))] [inR .i64 (i + 1)] ⟨(Zac om om), trivial⟩ ?_
     refine Zcl [(9, 30)] (T := [(0, Zbs false list), (3, .ref 3 0), (5, .arr 9), (6, I (i + 1))]) (O := [(3, Zlo h), (9, Zbz (out ++ [(at_ list i.toNat)]))]) rfl (⟨.inl rfl, .inl rfl, .inl rfl, .inl rfl, trivial⟩) (⟨.inl rfl, .inr ⟨rfl, (by first | rfl | (simp; done) | (simp; omega) | omega), fun i_ hi_ => .inl (Zcm (enc := Zsb) (xs := out) rfl i_ hi_)⟩, trivial⟩) (Zbh ((out ++ [(at_ list i.toNat)]), (i + 1)) rfl (show (0 ≤ (i + 1) ∧ (i + 1) ≤ (list.length : Int)) ∧ ((out ++ [(at_ list i.toNat)]) = Zpr h.Label list (i + 1).toNat) ∧ (((out ++ [(at_ list i.toNat)]).length : Int) ≤ (i + 1)) ∧ (∀ j : Nat, (j : Int) < (i + 1) → (at_ list j).Label = h.Label → h.Cost < (at_ list j).Cost) ∧ True from ⟨om, (by (rw [hii, hst, ← hou])), (by first | omega | (simp; omega)), (by intro j hj hl2; by_cases ej : j = i.toNat; (subst ej; first | exact absurd hl2 hlq | omega); exact hz j om hl2), trivial⟩) (by first | (show (((list.length : Int) - (i + 1)).toNat : Nat) < ((list.length : Int) - i).toNat; omega) | (dsimp only; omega)))
    have hou2 : out = Zpr h.Label list list.length := by rw [hou, show i.toNat = list.length from by omega]
    have hok1 : okHb out := by rw [hou]; exact okHb_oth ok _
    have hne1 : ∀ x ∈ out, x.Label ≠ h.Label := by rw [hou]; exact oth_ne
    have hol : out.length ≤ list.length := by rw [hou]; exact Nat.le_trans (oth_len _ _ _) om
    have hzz : ∀ x ∈ list, x.Label = h.Label → h.Cost < x.Cost := fun x hx e => by obtain ⟨j, hj, q⟩ := List.getElem_of_mem hx; rw [← q, ← Zej hj] at e ⊢; exact hz j om e
    refine x_r [(3, .dec false)] [0, 3, 5, 6, 13] [3, 9] [Zbs false list, .ref 3 0, .arr 9, I i, Bv false] [some (Zlo h), some (Zbz out)] [_] ⟨h1, trivial⟩ ?_
    refine Zad ?_
    refine Zcd rfl ?_
    refine Zde ?_
    refine Zax ?_
    refine Zbe ?_
    refine Zay ?_
    refine Zad ?_
    refine xR [] [3, 5, 7] [3, 9] [.ref 3 0, .arr 9, I (out.length : Int)] [some (Zlo h), some (Zbz out)] [] trivial ?_
    refine Zat ?_
    refine Zbn ?_
    refine Zcw [] (T := [(3, .ref 3 0), (5, Zbs true out), (7, I (out.length : Int))]) (O := [(3, Zlo h)]) rfl (⟨.inl rfl, .inr ⟨(fun _ => rfl), rfl, rfl, fun i _ => .inl rfl⟩, .inl rfl, trivial⟩) (⟨.inl rfl, trivial⟩) ?_
    refine Zeb (X := Int) (fun x => mkS [(3, .ref 3 0), (5, Zbs true out), (7, I x)] [(3, Zlo h)]) (fun x => (0 ≤ x ∧ x ≤ (out.length : Int)) ∧ (∀ j : Nat, x ≤ (j : Int) → j < out.length → 0 < Zet (at_ out j) h) ∧ True) (fun x => x.toNat) (out.length : Int) rfl (show (0 ≤ (out.length : Int) ∧ (out.length : Int) ≤ (out.length : Int)) ∧ (∀ j : Nat, (out.length : Int) ≤ (j : Int) → j < out.length → 0 < Zet (at_ out j) h) ∧ True from ⟨om, (by intro j h1 h2; omega), trivial⟩) (fun x hI => ?_)
    obtain ⟨k, hxx⟩ : ∃ k : Int, k = x := ⟨x, rfl⟩
    subst hxx
    obtain ⟨hk0, hhi, _⟩ : (0 ≤ k ∧ k ≤ (out.length : Int)) ∧ (∀ j : Nat, k ≤ (j : Int) → j < out.length → 0 < Zet (at_ out j) h) ∧ True := hI
    show XW _ _ _ _ (mkS [(3, .ref 3 0), (5, Zbs true out), (7, I k)] [(3, Zlo h)]) _ _
    refine Zat ?_
    refine Zat ?_
    by_cases h4 : 0 < k
    ·have hkl : (k - 1).toNat < out.length := by omega
     rcases Bool.eq_false_or_eq_true (decide (Zet h (at_ out ((k - 1).toNat)) < 0)) with h5 | h5
     ·have hgn : ∀ j : Nat, k - 1 ≤ (j : Int) → j < out.length → 0 < Zet (at_ out j) h := fun j q1 q2 => by by_cases q : (j : Int) = k - 1; (rw [show j = (k - 1).toNat from by omega]; exact ((cmpH_w.anti _ _).1 (of_decide_eq_true h5))); (exact hhi j om q2)
      refine x_q [(1, .dec true), (9, .call [(true, .any), (true, .any)] true (Bv true))] [3, 5, 7, 52] [3] [_, inR .i64 (k - 1), (0 : Int) ≤ (k - 1) ∧ (k - 1) < (out.length : Int), Con Tryz.prog 66 [Zld h, Zld (at_ out ((k - 1).toNat))] true (Bv true) ∧ True] ⟨h4, (Zac om om), ⟨om, om⟩, ⟨(Zap h5 (Zkd h (at_ out ((k - 1).toNat)))), trivial⟩, trivial⟩ ?_
      refine Zad ?_
      refine Zfl ?_
      refine Zbv ?_
      refine Zad ?_
      refine Zbn ?_
      refine x_r [] [3, 5, 7] [3] [.ref 3 0, Zbs true out, I (k - 1)] [some (Zlo h)] [inR .i64 (k - 1)] ⟨(Zac om om), trivial⟩ ?_
      refine Zbo 3 ?_
      exact Zbh (k - 1) rfl (show (0 ≤ (k - 1) ∧ (k - 1) ≤ (out.length : Int)) ∧ (∀ j : Nat, (k - 1) ≤ (j : Int) → j < out.length → 0 < Zet (at_ out j) h) ∧ True from ⟨om, (by exact hgn), trivial⟩) (by first | (show ((k - 1).toNat : Nat) < k.toNat; omega) | (dsimp only; omega))
     have hlo : k.toNat = 0 ∨ ¬ 0 < Zet (at_ out (k.toNat - 1)) h := Or.inr (by rw [show k.toNat - 1 = (k - 1).toNat from by omega]; exact fun q => (of_decide_eq_false h5) ((cmpH_w.anti _ _).2 q))
     refine x_r [(1, .dec true), (9, .call [(true, .any), (true, .any)] true (Bv false))] [3, 5, 7, 52] [3] [.ref 3 0, Zbs true out, I k, Bv false] [some (Zlo h)] [_, inR .i64 (k - 1), (0 : Int) ≤ (k - 1) ∧ (k - 1) < (out.length : Int), Con Tryz.prog 66 [Zld h, Zld (at_ out ((k - 1).toNat))] true (Bv false) ∧ True] ⟨h4, (Zac om om), ⟨om, om⟩, ⟨(Zap h5 (Zkd h (at_ out ((k - 1).toNat)))), trivial⟩, trivial⟩ ?_
     refine Zad ?_
     refine Zcd rfl ?_
     refine Zde ?_
     refine Zax ?_
     refine Zbe ?_
     refine Zay ?_
     refine Zad ?_
     refine xQ [(0, .new 55), (4, .new 59)] [3, 5, 7, 8] [3, 59] [(0 : Int) ≤ 0 ∧ (0 : Int) ≤ k ∧ k ≤ (out.length : Int), (0 + (k.toNat - 0)) * 24 ≤ 140737488355328] ⟨⟨om, om, om⟩, om, trivial⟩ ?_
     refine xQ [(2, .new 62), (3, .new 63)] [5, 7, 8] [63] [((0 + (k.toNat - 0)) + 1) * 24 ≤ 140737488355328] ⟨om, trivial⟩ ?_
     refine xR [(4, .new 68)] [4] [68] [.arr 68] [some (.arr 2 (((0 + (k.toNat - 0)) + 1) + ((out.length : Int).toNat - k.toNat)) (Zgb ((0 + (k.toNat - 0)) + 1) (Zgb (0 + (k.toNat - 0)) (Zgb 0 (Zgm [] 2) (Zln 0 (Ziy out))) (Zgm [Sv h.Label, I h.Cost] 2)) (Zln k.toNat (Ziy out))))] [(0 : Int) ≤ k ∧ k ≤ (out.length : Int) ∧ (out.length : Int) ≤ (out.length : Int), (((0 + (k.toNat - 0)) + 1) + ((out.length : Int).toNat - k.toNat)) * 24 ≤ 140737488355328] ⟨⟨om, om, om⟩, om, trivial⟩ ?_
     refine Zem ?_
     refine Zcz (((out.take k.toNat) ++ [h]) ++ (out.drop k.toNat)) (show (∀ P, chH P list → chH (P ++ [h]) (((out.take k.toNat) ++ [h]) ++ (out.drop k.toNat))) ∧ ((((out.take k.toNat) ++ [h]) ++ (out.drop k.toNat)).length ≤ list.length + 1) ∧ (True) from ⟨(by first | exact (fun P hc => Zyv hc (Zdf hi) hlq om) | (intro P hc; subst hou2; exact Yff hc hzz (Ztl hok1 he hne1 om hlo (fun j h1 h2 => hhi j om h2)))), (by first | omega | (simp; omega)), trivial⟩) (trivial) (.arr 68) (by kernel_rfl) (.inr ⟨(fun h => by cases h), rfl, (by first | rfl | (simp; done) | (simp; omega) | omega), fun i_ hi_ => .inl (Ztm (enc := Zsb) (xs := ((out.take k.toNat) ++ [h])) (ys := (out.drop k.toNat)) (by first | rfl | (simp; done) | (simp; omega)) (fun i_ hi_ => (Ztm (enc := Zsb) (xs := (out.take k.toNat)) (ys := [h]) (by first | rfl | (simp; done) | (simp; omega)) (fun i_ hi_ => ((Zps i_).trans ((fun i_ hi_ => (Ztn (enc := Zsb) hi_)) i_ hi_))) (fun i_ hi_ => (match i_, hi_ with | 0, _ => rfl | (i + 1), h => absurd h (by simp))) i_ hi_)) (fun i_ hi_ => (Yba (enc := Zsb) hi_)) i_ hi_)⟩) (fun h => by cases h) (fun h => by cases h)
    have hlo : k.toNat = 0 ∨ ¬ 0 < Zet (at_ out (k.toNat - 1)) h := Or.inl om
    refine x_r [(1, .dec false)] [3, 5, 7, 52] [3] [.ref 3 0, Zbs true out, I k, Bv false] [some (Zlo h)] [_] ⟨h4, trivial⟩ ?_
    refine Zad ?_
    refine Zcd rfl ?_
    refine Zde ?_
    refine Zax ?_
    refine Zbe ?_
    refine Zay ?_
    refine Zad ?_
    refine xQ [(0, .new 55), (4, .new 59)] [3, 5, 7, 8] [3, 59] [(0 : Int) ≤ 0 ∧ (0 : Int) ≤ k ∧ k ≤ (out.length : Int), (0 + (k.toNat - 0)) * 24 ≤ 140737488355328] ⟨⟨om, om, om⟩, om, trivial⟩ ?_
    refine xQ [(2, .new 62), (3, .new 63)] [5, 7, 8] [63] [((0 + (k.toNat - 0)) + 1) * 24 ≤ 140737488355328] ⟨om, trivial⟩ ?_
    refine xR [(4, .new 68)] [4] [68] [.arr 68] [some (.arr 2 (((0 + (k.toNat - 0)) + 1) + ((out.length : Int).toNat - k.toNat)) (Zgb ((0 + (k.toNat - 0)) + 1) (Zgb (0 + (k.toNat - 0)) (Zgb 0 (Zgm [] 2) (Zln 0 (Ziy out))) (Zgm [Sv h.Label, I h.Cost] 2)) (Zln k.toNat (Ziy out))))] [(0 : Int) ≤ k ∧ k ≤ (out.length : Int) ∧ (out.length : Int) ≤ (out.length : Int), (((0 + (k.toNat - 0)) + 1) + ((out.length : Int).toNat - k.toNat)) * 24 ≤ 140737488355328] ⟨⟨om, om, om⟩, om, trivial⟩ ?_
    refine Zem ?_
    refine Zcz (((out.take k.toNat) ++ [h]) ++ (out.drop k.toNat)) (show (∀ P, chH P list → chH (P ++ [h]) (((out.take k.toNat) ++ [h]) ++ (out.drop k.toNat))) ∧ ((((out.take k.toNat) ++ [h]) ++ (out.drop k.toNat)).length ≤ list.length + 1) ∧ (True) from ⟨(by first | exact (fun P hc => Zyv hc (Zdf hi) hlq om) | (intro P hc; subst hou2; exact Yff hc hzz (Ztl hok1 he hne1 om hlo (fun j h1 h2 => hhi j om h2)))), (by first | omega | (simp; omega)), trivial⟩) (trivial) (.arr 68) (by kernel_rfl) (.inr ⟨(fun h => by cases h), rfl, (by first | rfl | (simp; done) | (simp; omega) | omega), fun i_ hi_ => .inl (Ztm (enc := Zsb) (xs := ((out.take k.toNat) ++ [h])) (ys := (out.drop k.toNat)) (by first | rfl | (simp; done) | (simp; omega)) (fun i_ hi_ => (Ztm (enc := Zsb) (xs := (out.take k.toNat)) (ys := [h]) (by first | rfl | (simp; done) | (simp; omega)) (fun i_ hi_ => ((Zps i_).trans ((fun i_ hi_ => (Ztn (enc := Zsb) hi_)) i_ hi_))) (fun i_ hi_ => (match i_, hi_ with | 0, _ => rfl | (i + 1), h => absurd h (by simp))) i_ hi_)) (fun i_ hi_ => (Yba (enc := Zsb) hi_)) i_ hi_)⟩) (fun h => by cases h) (fun h => by cases h)
  obtain ⟨v, ⟨hh0, hh1, _⟩, hc⟩ := hh
  exact ⟨v, hh0, hh1, hc⟩
theorem Zyw (list : List Hyp) (most : Int) (hm : 0 ≤ most) (hl : list.length ≤ 100) : ∃ (v : List Hyp), (v = list.take most.toNat) ∧ Con Tryz.prog 65 [Zbs false list, I most] true (Zbs true v) := by
 have hh : ∃ r : (List Hyp), ((r = list.take most.toNat) ∧ (True)) ∧ Zbb Tryz.prog 65 [Zbs false list, I most] (Zaf []) true (Zbs true r) (Zaf []) := by
  refine Zdv (Φ := fun r : (List Hyp) => (r = list.take most.toNat) ∧ (True)) [] (fun r => []) (fn := Tryz.f65) (nt := 13) Tryz.func65 rfl rfl (args := [Zbs false list, I most]) rfl (Zbd (.inl ⟨rfl, Ziz false _⟩) (Zbd (.inl ⟨rfl, trivial⟩) Zdp)) (res := fun r => Zbs true r) ?_
  refine xQ [] [0, 1] [] [] trivial ?_
  refine xR [(0, .new 5), (5, .call [(true, .any), (true, .any)] true (I (min most (list.length : Int)))), (7, .new 12)] [4] [12] [.arr 12] [some (.arr 2 (0 + ((min most (list.length : Int)).toNat - 0)) (Zgb 0 (Zgm [] 2) (Zln 0 (Ziy list))))] [_ ∧ True, (0 : Int) ≤ 0 ∧ (0 : Int) ≤ (min most (list.length : Int)) ∧ (min most (list.length : Int)) ≤ (list.length : Int), (0 + ((min most (list.length : Int)).toNat - 0)) * 24 ≤ 140737488355328] ⟨⟨(Zfp most (list.length : Int)), trivial⟩, ⟨om, om, om⟩, om, trivial⟩ ?_
  refine Zem ?_
  refine Zcz (list.take ((min most (list.length : Int)).toNat)) (show ((list.take ((min most (list.length : Int)).toNat)) = list.take most.toNat) ∧ (True) from ⟨(by first | rfl | (by_cases q_ : most ≤ (list.length : Int); (rw [show (min most (list.length : Int)).toNat = most.toNat from by omega]; first | done | rfl | simp); (rw [show (min most (list.length : Int)).toNat = list.length from by omega]; first | omega | (rw [List.take_of_length_le (Nat.le_refl _), List.take_of_length_le om]; first | done | rfl | simp)))), trivial⟩) (trivial) (.arr 12) (by kernel_rfl) (.inr ⟨(fun _ => rfl), rfl, (by first | rfl | (simp; done) | (simp; omega) | omega), fun i_ hi_ => .inl ((Zps i_).trans ((fun i_ hi_ => (Ztn (enc := Zsb) hi_)) i_ hi_))⟩) (fun _ => rfl) (fun _ => (Ziz true _))
 obtain ⟨v, ⟨hh0, _⟩, hc⟩ := hh
 exact ⟨v, hh0, hc⟩
theorem l13Of_ok (s : Store) (ik : Ink) (t : Setting) (hst : Zbw s = true) (ok : Zbp ik = true) (hset : Zfa t = true) (h12 : s.Templates.length ≤ 12) (hsk : 1 ≤ ik.Strokes.length) (h72 : (ik.Strokes.length : Int) * t.Points ≤ 72) : ∃ (v : List Hyp), (v = Zlh s ik t) ∧ Con Tryz.prog 27 [.ptr false [I s.Band, Zav false s.Templates], .ptr false [Zae false ik.Strokes], .ptr false [I t.Points, I t.Most, I t.Pen]] true (Zbs true v) := by
  have hil := Zgp ok
  have hse := Zhy.1 hset
  have hpb := Zyx (ik := ik) hse.2.2 om
  have hfe := fe_72 ok hse.1 hsk h72
  have okf := hfe.2
  have hs40 := (Zea.1 hst).2.1
  have hfe3 : feA ik t.Points = (feR ik t.Points).1 := by rw [Zto ok (Zjk.2 hse.1) om]
  have okfA : Zbr (feA ik t.Points) 72 = true := by rw [hfe3]; exact okf
  have hh : ∃ r : (List Hyp), ((r = Zlh s ik t) ∧ (True)) ∧ Zbb Tryz.prog 27 [.ptr false [I s.Band, Zav false s.Templates], .ptr false [Zae false ik.Strokes], .ptr false [I t.Points, I t.Most, I t.Pen]] (Zaf []) true (Zbs true r) (Zaf []) := by
    refine Zdv (Φ := fun r : (List Hyp) => (r = Zlh s ik t) ∧ (True)) [] (fun r => []) (fn := Tryz.f27) (nt := 65) Tryz.func27 rfl rfl (args := [.ptr false [I s.Band, Zav false s.Templates], .ptr false [Zae false ik.Strokes], .ptr false [I t.Points, I t.Most, I t.Pen]]) rfl (Zbd (.inl ⟨rfl, by simp [Zaj, Zag, Zdz]⟩) (Zbd (.inl ⟨rfl, by simp [Zaj, Zag, Zck]⟩) (Zbd (.inl ⟨rfl, by simp [Zaj, Zag]⟩) Zdp))) (res := fun r => Zbs true r) ?_
    refine xQ [] [0, 1, 2] [] [] trivial ?_
    refine Zat ?_
    obtain ⟨v_1, hx1_0, hc1⟩ := Ztk s (feA ik t.Points) hst okfA om
    have hms : v_1 = mtS s (feR ik t.Points).1 s.Templates.length := by rw [hx1_0, hfe3]
    have hml := Zng s (feR ik t.Points).1 s.Templates.length
    rw [← hms] at hml
    have hrl : Ybb s ik t = v_1.map (Yev s (Zyy ik t)) := by rw [hms]; rfl
    refine x_q [(6, .call [(true, .any), (true, .any)] true (Zai true (feA ik t.Points))), (7, .call [(true, .any), (false, Zai false (feA ik t.Points))] true (Zhd true v_1))] [0, 1, 2, 7] [] [_ ∧ True, _ ∧ ((false = true → true = true) ∧ 3 = 3 ∧ ((feA ik t.Points).length) = ((feA ik t.Points).length) ∧ ∀ i_, i_ < ((feA ik t.Points).length) → (Zez (feA ik t.Points)) i_ = (Zez (feA ik t.Points)) i_ ∨ (AV.idsL ((Zez (feA ik t.Points)) i_) = [] ∧ leL (fun _ => none) false ((Zez (feA ik t.Points)) i_) ((Zez (feA ik t.Points)) i_))) ∧ True] ⟨⟨(Ztp ik t.Points ok om om), trivial⟩, ⟨hc1, ⟨(fun h => by cases h), rfl, rfl, fun i _ => .inl rfl⟩, trivial⟩, trivial⟩ ?_
    refine Zad ?_
    refine xQ [(0, .new 19)] [0, 1, 2, 7, 8] [19] [] trivial ?_
    refine Zat ?_
    refine xR [] [0, 1, 2, 7, 8, 9] [19] [.ptr false [I s.Band, Zav false s.Templates], .ptr false [Zae false ik.Strokes], .ptr false [I t.Points, I t.Most, I t.Pen], Zhd true v_1, .arr 19, I 0] [some (.arr 2 0 (Zgm [] 2))] [] trivial ?_
    refine Zbn ?_
    refine Zcw [] (T := [(0, .ptr false [I s.Band, Zav false s.Templates]), (1, .ptr false [Zae false ik.Strokes]), (2, .ptr false [I t.Points, I t.Most, I t.Pen]), (7, Zhd true v_1), (8, Zbs false ([] : List Hyp)), (9, I 0)]) (O := []) rfl (⟨.inl rfl, .inl rfl, .inl rfl, .inl rfl, .inr ⟨(fun h => by cases h), rfl, (by first | rfl | (simp; done) | (simp; omega) | omega), fun i_ hi_ => absurd hi_ (Nat.not_lt_zero _)⟩, .inl rfl, trivial⟩) (trivial) ?_
    refine Zeb (X := (List Hyp) × Int) (fun x => mkS [(0, .ptr false [I s.Band, Zav false s.Templates]), (1, .ptr false [Zae false ik.Strokes]), (2, .ptr false [I t.Points, I t.Most, I t.Pen]), (7, Zhd true v_1), (8, Zbs false x.1), (9, I x.2)] []) (fun x => (0 ≤ x.2 ∧ x.2 ≤ (v_1.length : Int)) ∧ (chH ((Ybb s ik t).take x.2.toNat) x.1) ∧ ((x.1.length : Int) ≤ x.2) ∧ True) (fun x => ((v_1.length : Int) - x.2).toNat) (([] : List Hyp), 0) rfl (show (0 ≤ (0 : Int) ∧ (0 : Int) ≤ (v_1.length : Int)) ∧ (chH ((Ybb s ik t).take (0 : Int).toNat) ([] : List Hyp)) ∧ ((([] : List Hyp).length : Int) ≤ (0 : Int)) ∧ True from ⟨om, (by exact ch_nil), (by simp), trivial⟩) (fun x hI => ?_)
    obtain ⟨out, i⟩ := x
    obtain ⟨hi0, hch, hol, _⟩ : (0 ≤ i ∧ i ≤ (v_1.length : Int)) ∧ (chH ((Ybb s ik t).take i.toNat) out) ∧ ((out.length : Int) ≤ i) ∧ True := hI
    show XW _ _ _ _ (mkS [(0, .ptr false [I s.Band, Zav false s.Templates]), (1, .ptr false [Zae false ik.Strokes]), (2, .ptr false [I t.Points, I t.Most, I t.Pen]), (7, Zhd true v_1), (8, Zbs false out), (9, I i)] []) _ _
    refine Zat ?_
    refine Zat ?_
    by_cases h1 : i < (v_1.length : Int)
    ·have hi : i.toNat < v_1.length := by omega
     obtain ⟨jj, hj1, hj2, hj3⟩ := Zpt (s := s) (fs := (feR ik t.Points).1) (k := s.Templates.length) (by rw [← hms]; exact Zdf hi)
     have hix : (at_ v_1 i.toNat).Index = (jj : Int) := by rw [hj3]; rfl
     have htj := (Zea.1 hst).2.2 jj hj1
     have hcv := Yfe okf htj hj2
     have hcst : (at_ v_1 i.toNat).Cost = (mtM s (feR ik t.Points).1 jj).Cost := by rw [hj3]
     have htl : Zco (at_ s.Templates jj).Label = true := by simp only [Zfn, Bool.and_eq_true] at htj; exact htj.1
     have hii : (i + 1).toNat = i.toNat + 1 := by omega
     refine x_q [(3, .dec true)] [0, 1, 2, 7, 8, 9, 23] [] [_] ⟨h1, trivial⟩ ?_
     refine Zad ?_
     refine Zfl ?_
     refine Zbv ?_
     refine Zad ?_
     refine Zat ?_
     refine Zbn ?_
     refine xQ [] [0, 1, 2, 7, 8, 9, 10] [] [(0 : Int) ≤ i ∧ i < (v_1.length : Int), inR .i64 ((ik.Strokes.length : Int) - 1), inR .i64 (t.Pen * ((ik.Strokes.length : Int) - 1)), inR .i64 (((at_ v_1 i.toNat).Cost) + (t.Pen * ((ik.Strokes.length : Int) - 1)))] ⟨⟨om, om⟩, (Zac om om), (Zac om om), (Zac om om), trivial⟩ ?_
     obtain ⟨v_2, hx2_0, hx2_1, hc2⟩ := Zwb out (Hyp.mk ((at_ s.Templates (((at_ v_1 i.toNat).Index).toNat)).Label) (((at_ v_1 i.toNat).Cost) + (t.Pen * ((ik.Strokes.length : Int) - 1)))) hch.1 (show Zco (at_ s.Templates _).Label = true ∧ _ ∧ _ from ⟨by rw [hix]; exact htl, by dsimp only; omega, by dsimp only; omega⟩) om
     have hins := hx2_0 _ hch
     have hinl := hx2_1
     refine x_q [(15, .call [(true, .any), (true, .any)] false (Zbs false v_2))] [0, 1, 2, 7, 8, 9] [] [(0 : Int) ≤ i ∧ i < (v_1.length : Int), (0 : Int) ≤ ((at_ v_1 i.toNat).Index) ∧ ((at_ v_1 i.toNat).Index) < (s.Templates.length : Int), _ ∧ True] ⟨⟨om, om⟩, ⟨om, om⟩, ⟨hc2, trivial⟩, trivial⟩ ?_
     refine Zbo 1 ?_
     refine Zad ?_
     refine x_r [] [0, 1, 2, 7, 8, 9] [] [.ptr false [I s.Band, Zav false s.Templates], .ptr false [Zae false ik.Strokes], .ptr false [I t.Points, I t.Most, I t.Pen], Zhd true v_1, Zbs false v_2, I (i + 1)] [] [inR .i64 (i + 1)] ⟨(Zac om om), trivial⟩ ?_
     exact Zbh (v_2, (i + 1)) rfl (show (0 ≤ (i + 1) ∧ (i + 1) ≤ (v_1.length : Int)) ∧ (chH ((Ybb s ik t).take (i + 1).toNat) v_2) ∧ ((v_2.length : Int) ≤ (i + 1)) ∧ True from ⟨om, (by (have e_ : (Ybb s ik t).take (i + 1).toNat = (Ybb s ik t).take i.toNat ++ [Yev s (Zyy ik t) (at_ v_1 i.toNat)] := by (rw [hii, List.take_succ_eq_append_getElem (by rw [hrl, List.length_map]; exact hi)]; congr 2; simp only [hrl, List.getElem_map]; rw [Zej hi])); rw [e_]; exact hins), om, trivial⟩) (by first | (show (((v_1.length : Int) - (i + 1)).toNat : Nat) < ((v_1.length : Int) - i).toNat; omega) | (dsimp only; omega))
    have hfin : chH (Ybb s ik t) out := by rw [List.take_of_length_le (by rw [hrl, List.length_map]; omega)] at hch; exact hch
    have hmo := ch_most hfin (most := t.Most) om
    refine x_r [(3, .dec false)] [0, 1, 2, 7, 8, 9, 23] [] [.ptr false [I s.Band, Zav false s.Templates], .ptr false [Zae false ik.Strokes], .ptr false [I t.Points, I t.Most, I t.Pen], Zhd true v_1, Zbs false out, I i, Bv false] [] [_] ⟨h1, trivial⟩ ?_
    refine Zad ?_
    refine Zcd rfl ?_
    refine Zde ?_
    refine Zax ?_
    refine Zbe ?_
    refine Zay ?_
    refine Zad ?_
    refine Zat ?_
    obtain ⟨v_3, hx3_0, hc3⟩ := Zyw out t.Most om om
    have hfst := hx3_0
    refine x_r [(5, .call [(true, .any), (true, .any)] true (Zbs true v_3))] [6] [] [Zbs true v_3] [] [_ ∧ True] ⟨⟨hc3, trivial⟩, trivial⟩ ?_
    refine Zad ?_
    refine Zem ?_
    refine Zcz v_3 (show (v_3 = Zlh s ik t) ∧ (True) from ⟨(by (unfold Zlh; rw [hmo]; exact hfst)), trivial⟩) (trivial) (Zbs true v_3) (by kernel_rfl) (.inl rfl) (fun _ => rfl) (fun _ => (Ziz true _))
  obtain ⟨v, ⟨hh0, _⟩, hc⟩ := hh
  exact ⟨v, hh0, hc⟩
theorem Ztq (s : Store) (ik : Ink) (t : Setting) (hst : Zbw s = true) (ok : Zbp ik = true) (hset : Zfa t = true) (h12 : s.Templates.length ≤ 12) (hsk : 1 ≤ ik.Strokes.length) (h72 : (ik.Strokes.length : Int) * t.Points ≤ 72) (oks_ : Zpo s) : ∃ (v : List Hyp) (c : Int), (v = Zlh s ik t) ∧ (c = 0) ∧ Con Tryz.prog 9 [Zfb s, .agg [Zae false ik.Strokes], Zeg t] true (.tup [Zbs true v, I c]) := by
 have hil := Zgp ok
 have hse := Zhy.1 hset
 have hs40 := (Zea.1 hst).2.1
 have hp0 : 0 ≤ (ik.Strokes.length : Int) * t.Points := Int.mul_nonneg om om
 have hh : ∃ r : (List Hyp) × Int, ((r.1 = Zlh s ik t) ∧ (r.2 = 0) ∧ (True)) ∧ Zbb Tryz.prog 9 [Zfb s, .agg [Zae false ik.Strokes], Zeg t] (Zaf []) true (.tup [Zbs true r.1, I r.2]) (Zaf []) := by
  refine Zdv (Φ := fun r : (List Hyp) × Int => (r.1 = Zlh s ik t) ∧ (r.2 = 0) ∧ (True)) [] (fun r => []) (fn := Tryz.f9) (nt := 30) Tryz.func9 rfl rfl (args := [Zfb s, .agg [Zae false ik.Strokes], Zeg t]) rfl (Zbd (.inl ⟨rfl, by simp [Zaj, Zag, Zdz]⟩) (Zbd (.inl ⟨rfl, by simp [Zaj, Zag, Zck]⟩) (Zbd (.inl ⟨rfl, by simp [Zaj, Zag]⟩) Zdp))) (res := fun r => .tup [Zbs true r.1, I r.2]) ?_
  refine xQ [(0, .new 3), (1, .new 4), (2, .new 5)] [3, 4, 5] [3, 4, 5] [] trivial ?_
  refine Zat ?_
  refine xQ [(0, .call [(false, .ptr false [I s.Band, Zav false s.Templates])] true (Bv true)), (3, .call [(false, .ptr false [Zae false ik.Strokes])] true (Bv true)), (7, .call [(false, .ptr false [I t.Points, I t.Most, I t.Pen])] true (Bv true))] [3, 4, 5, 17] [3, 4, 5] [Con Tryz.prog 25 [.ptr false [I s.Band, Zav false s.Templates]] true (Bv true) ∧ ((false = true → true = true) ∧ AV.idsL [I s.Band, Zav false s.Templates] = [] ∧ (Zen (I s.Band) = Zen (I s.Band)) ∧ ((false = true → false = true) ∧ 2 = 2 ∧ s.Templates.length = s.Templates.length ∧ ∀ i_, i_ < s.Templates.length → (Zch false s.Templates) i_ = (Zch false s.Templates) i_ ∨ (AV.idsL ((Zch false s.Templates) i_) = [] ∧ leL (fun _ => none) false ((Zch false s.Templates) i_) ((Zch false s.Templates) i_))) ∧ ([] : List AV) = []) ∧ True, Con Tryz.prog 23 [.ptr false [Zae false ik.Strokes]] true (Bv true) ∧ ((false = true → true = true) ∧ AV.idsL [Zae false ik.Strokes] = [] ∧ ((false = true → false = true) ∧ 1 = 1 ∧ ik.Strokes.length = ik.Strokes.length ∧ ∀ i_, i_ < ik.Strokes.length → (Zbl false ik.Strokes) i_ = (Zbl false ik.Strokes) i_ ∨ (AV.idsL ((Zbl false ik.Strokes) i_) = [] ∧ leL (fun _ => none) false ((Zbl false ik.Strokes) i_) ((Zbl false ik.Strokes) i_))) ∧ ([] : List AV) = []) ∧ True, Con Tryz.prog 26 [.ptr false [I t.Points, I t.Most, I t.Pen]] true (Bv true) ∧ ((false = true → true = true) ∧ AV.idsL [I t.Points, I t.Most, I t.Pen] = [] ∧ (Zen (I t.Points) = Zen (I t.Points)) ∧ (Zen (I t.Most) = Zen (I t.Most)) ∧ (Zen (I t.Pen) = Zen (I t.Pen)) ∧ ([] : List AV) = []) ∧ True] ⟨⟨(Zap hst (l11Ok_ok s oks_)), ⟨(fun h => by cases h), rfl, ⟨rfl, ⟨⟨(fun h => by cases h), rfl, rfl, fun i _ => .inl rfl⟩, rfl⟩⟩⟩, trivial⟩, ⟨(Zap ok (Yat ik)), ⟨(fun h => by cases h), rfl, ⟨⟨(fun h => by cases h), rfl, rfl, fun i _ => .inl rfl⟩, rfl⟩⟩, trivial⟩, ⟨(Zap hset (Ztj t)), ⟨(fun h => by cases h), rfl, ⟨rfl, ⟨rfl, ⟨rfl, rfl⟩⟩⟩⟩, trivial⟩, trivial⟩ ?_
  refine Zkr ?_
  refine Zbv ?_
  refine Zad ?_
  refine Zat ?_
  refine xQ [(3, .dec false)] [3, 4, 5, 21] [3, 4, 5] [¬ ((ik.Strokes.length : Int) = 0)] ⟨om, trivial⟩ ?_
  refine Zkr ?_
  refine Zbv ?_
  refine Zad ?_
  refine Zat ?_
  refine xQ [(6, .dec false)] [3, 4, 5, 28] [3, 4, 5] [inR .i64 ((ik.Strokes.length : Int) * t.Points), ¬ (72 < ((ik.Strokes.length : Int) * t.Points))] ⟨(Zac om om), om, trivial⟩ ?_
  refine Zkr ?_
  refine Zbv ?_
  refine Zad ?_
  refine Zat ?_
  obtain ⟨v_1, hx1_0, hc1⟩ := l13Of_ok s ik t hst ok hset h12 hsk h72
  refine x_r [(0, .call [(false, .ptr false [I s.Band, Zav false s.Templates]), (false, .ptr false [Zae false ik.Strokes]), (false, .ptr false [I t.Points, I t.Most, I t.Pen])] true (Zbs true v_1))] [6, 7] [] [Zbs true v_1, I 0] [] [_ ∧ ((false = true → true = true) ∧ AV.idsL [I s.Band, Zav false s.Templates] = [] ∧ (Zen (I s.Band) = Zen (I s.Band)) ∧ ((false = true → false = true) ∧ 2 = 2 ∧ s.Templates.length = s.Templates.length ∧ ∀ i_, i_ < s.Templates.length → (Zch false s.Templates) i_ = (Zch false s.Templates) i_ ∨ (AV.idsL ((Zch false s.Templates) i_) = [] ∧ leL (fun _ => none) false ((Zch false s.Templates) i_) ((Zch false s.Templates) i_))) ∧ ([] : List AV) = []) ∧ ((false = true → true = true) ∧ AV.idsL [Zae false ik.Strokes] = [] ∧ ((false = true → false = true) ∧ 1 = 1 ∧ ik.Strokes.length = ik.Strokes.length ∧ ∀ i_, i_ < ik.Strokes.length → (Zbl false ik.Strokes) i_ = (Zbl false ik.Strokes) i_ ∨ (AV.idsL ((Zbl false ik.Strokes) i_) = [] ∧ leL (fun _ => none) false ((Zbl false ik.Strokes) i_) ((Zbl false ik.Strokes) i_))) ∧ ([] : List AV) = []) ∧ ((false = true → true = true) ∧ AV.idsL [I t.Points, I t.Most, I t.Pen] = [] ∧ (Zen (I t.Points) = Zen (I t.Points)) ∧ (Zen (I t.Most) = Zen (I t.Most)) ∧ (Zen (I t.Pen) = Zen (I t.Pen)) ∧ ([] : List AV) = []) ∧ True] ⟨⟨hc1, ⟨(fun h => by cases h), rfl, ⟨rfl, ⟨⟨(fun h => by cases h), rfl, rfl, fun i _ => .inl rfl⟩, rfl⟩⟩⟩, ⟨(fun h => by cases h), rfl, ⟨⟨(fun h => by cases h), rfl, rfl, fun i _ => .inl rfl⟩, rfl⟩⟩, ⟨(fun h => by cases h), rfl, ⟨rfl, ⟨rfl, ⟨rfl, rfl⟩⟩⟩⟩, trivial⟩, trivial⟩ ?_
  refine Zad ?_
  refine Zem ?_
  refine Zcz (v_1, 0) (show (v_1 = Zlh s ik t) ∧ (0 = 0) ∧ (True) from ⟨(by first | assumption | rfl), (by first | assumption | rfl), trivial⟩) (trivial) (.tup [Zbs true v_1, I 0]) (by kernel_rfl) (.inl rfl) (fun _ => rfl) (fun _ => (by simp [Zaj, Zag, Ziz]))
 obtain ⟨⟨v, c⟩, ⟨hh0, hh1, _⟩, hc⟩ := hh
 exact ⟨v, c, hh0, hh1, hc⟩
theorem l13Ok_ok (list : List Hyp) (ok : Zsc list) : Con Tryz.prog 28 [Zbs false list] true (Bv true) := by
  have hl8 := ok.1
  refine Zbu (fn := Tryz.f28) (nt := 63) Tryz.func28 rfl rfl rfl rfl (by simp [Zag, Zaj, Ziz]) fun B hB => ?_
  refine Zbt (x := Zbs false list) 0 rfl (fun len_list => ?_)
  simp [Zdk, Zgf, Zsb, Ziy, Zbs] at len_list
  refine aQ [] [0] [] [] hB trivial ?_
  refine Zah ?_
  refine aR [] [0, 3] [] [Zbs false list, I 0] [] [] hB trivial ?_
  refine Zau ?_
  refine Zcn (fun gn gσ => ∃ (i : Int), gn = ((list.length : Int) - i).toNat ∧ (0 ≤ i ∧ i ≤ (list.length : Int)) ∧ gσ = mkS [(0, Zbs false list), (3, I i)] []) (((list.length : Int) - 0).toNat) ⟨0, rfl, om, rfl⟩ (fun gn gσ hI => ?_)
  obtain ⟨i, rfl, hi0, rfl⟩ := hI
  refine Zah ?_
  refine Zah ?_
  by_cases h1 : i < (list.length : Int)
  ·have hi : i.toNat < list.length := by omega
   have hed := ok.2.1 _ hi
   refine Zbm [(3, .dec true)] [0, 3, 8] [] [_] hB ⟨h1, trivial⟩ ?_
   refine Zaa ?_
   refine Zbq ?_
   refine Zas ?_
   refine Zaa ?_
   refine Zah ?_
   refine Zau ?_
   refine Zah ?_
   refine Zah ?_
   by_cases h2 : 0 < i
   ·have hpr := Zsd ok.2.2.1 (show (i - 1).toNat < i.toNat by omega) hi
    refine Zbm [(5, .call [(true, .any)] true (Bv true)), (13, .call [(true, .any), (true, .any), (true, .any)] true (Bv true)), (18, .dec true), (29, .call [(true, .any), (true, .any)] true (Bv true))] [0, 3, 43] [] [(0 : Int) ≤ i ∧ i < (list.length : Int), Con Tryz.prog 55 [Sv ((at_ list i.toNat).Label)] true (Bv true) ∧ True, (0 : Int) ≤ i ∧ i < (list.length : Int), Con Tryz.prog 53 [I ((at_ list i.toNat).Cost), I 0, I 1000000] true (Bv true) ∧ True, _, inR .i64 (i - 1), (0 : Int) ≤ (i - 1) ∧ (i - 1) < (list.length : Int), (0 : Int) ≤ i ∧ i < (list.length : Int), Con Tryz.prog 66 [Zld (at_ list ((i - 1).toNat)), Zld (at_ list i.toNat)] true (Bv true) ∧ True] hB ⟨⟨om, om⟩, ⟨(Zap hed.1 (Zey ((at_ list i.toNat).Label) (by have q_ := hed.1; simp only [Zco, Bool.and_eq_true, decide_eq_true_eq] at q_; omega))), trivial⟩, ⟨om, om⟩, ⟨(Zap (Zjk.2 hed.2) (Zcp ((at_ list i.toNat).Cost) 0 1000000)), trivial⟩, h2, (Zac om om), ⟨om, om⟩, ⟨om, om⟩, ⟨(Zap (decide_eq_true hpr) (Zkd (at_ list ((i - 1).toNat)) (at_ list i.toNat))), trivial⟩, trivial⟩ ?_
    refine Zaa ?_
    refine Zbj ?_
    refine Zas ?_
    refine Zaa ?_
    refine aR [] [0, 3, 4] [] [Zbs false list, I i, I 0] [] [] hB trivial ?_
    refine Zau ?_
    refine Zcn (fun gn gσ => ∃ (k : Int), gn = (i - k).toNat ∧ (0 ≤ k ∧ k ≤ i) ∧ gσ = mkS [(0, Zbs false list), (3, I i), (4, I k)] []) ((i - 0).toNat) ⟨0, rfl, om, rfl⟩ (fun gn gσ hI => ?_)
    obtain ⟨k, rfl, hk0, rfl⟩ := hI
    refine Zah ?_
    refine Zah ?_
    by_cases h3 : k < i
    ·have hk : k.toNat < i.toNat := by omega
     have hpk := Zsd ok.2.2.2 hk hi
     refine Zbm [(2, .dec true)] [0, 3, 4, 46] [] [_] hB ⟨h3, trivial⟩ ?_
     refine Zaa ?_
     refine Zbq ?_
     refine Zas ?_
     refine Zaa ?_
     refine Zah ?_
     refine Zau ?_
     refine aQ [(10, .dec false)] [0, 3, 4, 59] [] [(0 : Int) ≤ k ∧ k < (list.length : Int), (0 : Int) ≤ i ∧ i < (list.length : Int), _] hB ⟨⟨om, om⟩, ⟨om, om⟩, hpk, trivial⟩ ?_
     refine Zbj ?_
     refine Zas ?_
     refine Zba 3 ?_
     refine Zaa ?_
     refine Zdg [] [0, 3, 4] [] [Zbs false list, I i, I (k + 1)] [] [inR .i64 (k + 1)] hB ⟨(Zac om om), trivial⟩ ?_
     exact Zbf _ om ⟨(k + 1), rfl, om, rfl⟩
    refine Zbm [(2, .dec false)] [0, 3, 4, 46] [] [_] hB ⟨h3, trivial⟩ ?_
    refine Zaa ?_
    refine Zbj ?_
    refine Zcj ?_
    refine Zal ?_
    refine Zal ?_
    refine Zaw ?_
    refine Zba 1 ?_
    refine Zaa ?_
    refine Zdg [] [0, 3] [] [Zbs false list, I (i + 1)] [] [inR .i64 (i + 1)] hB ⟨(Zac om om), trivial⟩ ?_
    exact Zbf _ om ⟨(i + 1), rfl, om, rfl⟩
   refine Zbm [(5, .call [(true, .any)] true (Bv true)), (13, .call [(true, .any), (true, .any), (true, .any)] true (Bv true)), (18, .dec false)] [0, 3, 43] [] [(0 : Int) ≤ i ∧ i < (list.length : Int), Con Tryz.prog 55 [Sv ((at_ list i.toNat).Label)] true (Bv true) ∧ True, (0 : Int) ≤ i ∧ i < (list.length : Int), Con Tryz.prog 53 [I ((at_ list i.toNat).Cost), I 0, I 1000000] true (Bv true) ∧ True, _] hB ⟨⟨om, om⟩, ⟨(Zap hed.1 (Zey ((at_ list i.toNat).Label) (by have q_ := hed.1; simp only [Zco, Bool.and_eq_true, decide_eq_true_eq] at q_; omega))), trivial⟩, ⟨om, om⟩, ⟨(Zap (Zjk.2 hed.2) (Zcp ((at_ list i.toNat).Cost) 0 1000000)), trivial⟩, h2, trivial⟩ ?_
   refine Zaa ?_
   refine Zbj ?_
   refine Zas ?_
   refine Zaa ?_
   refine aR [] [0, 3, 4] [] [Zbs false list, I i, I 0] [] [] hB trivial ?_
   refine Zau ?_
   refine Zcn (fun gn gσ => ∃ (k : Int), gn = (i - k).toNat ∧ (0 ≤ k ∧ k ≤ i) ∧ gσ = mkS [(0, Zbs false list), (3, I i), (4, I k)] []) ((i - 0).toNat) ⟨0, rfl, om, rfl⟩ (fun gn gσ hI => ?_)
   obtain ⟨k, rfl, hk0, rfl⟩ := hI
   refine Zah ?_
   refine Zah ?_
   by_cases h4 : k < i
   ·have hk : k.toNat < i.toNat := by omega
    have hpk := Zsd ok.2.2.2 hk hi
    refine Zbm [(2, .dec true)] [0, 3, 4, 46] [] [_] hB ⟨h4, trivial⟩ ?_
    refine Zaa ?_
    refine Zbq ?_
    refine Zas ?_
    refine Zaa ?_
    refine Zah ?_
    refine Zau ?_
    refine aQ [(10, .dec false)] [0, 3, 4, 59] [] [(0 : Int) ≤ k ∧ k < (list.length : Int), (0 : Int) ≤ i ∧ i < (list.length : Int), _] hB ⟨⟨om, om⟩, ⟨om, om⟩, hpk, trivial⟩ ?_
    refine Zbj ?_
    refine Zas ?_
    refine Zba 3 ?_
    refine Zaa ?_
    refine Zdg [] [0, 3, 4] [] [Zbs false list, I i, I (k + 1)] [] [inR .i64 (k + 1)] hB ⟨(Zac om om), trivial⟩ ?_
    exact Zbf _ om ⟨(k + 1), rfl, om, rfl⟩
   refine Zbm [(2, .dec false)] [0, 3, 4, 46] [] [_] hB ⟨h4, trivial⟩ ?_
   refine Zaa ?_
   refine Zbj ?_
   refine Zcj ?_
   refine Zal ?_
   refine Zal ?_
   refine Zaw ?_
   refine Zba 1 ?_
   refine Zaa ?_
   refine Zdg [] [0, 3] [] [Zbs false list, I (i + 1)] [] [inR .i64 (i + 1)] hB ⟨(Zac om om), trivial⟩ ?_
   exact Zbf _ om ⟨(i + 1), rfl, om, rfl⟩
  refine Zbm [(3, .dec false)] [0, 3, 8] [] [_] hB ⟨h1, trivial⟩ ?_
  refine Zaa ?_
  refine Zbj ?_
  refine Zcj ?_
  refine Zal ?_
  refine Zal ?_
  refine Zaw ?_
  refine Zaa ?_
  refine aR [(2, .dec true)] [2] [] [Bv true] [] [(list.length : Int) ≤ 8] hB ⟨(by have := ok.1; omega), trivial⟩ ?_
  refine Zam ?_
  refine Zan hB (Bv true) (by kernel_rfl) (.inl rfl) rfl (fun _ => trivial)
theorem Ztr (list : List Hyp) (label : ByteArray) (ok : Zsc list) : ∃ (v : Int) (c : Int), (c = 0 → ∃ h ∈ list, h.Label = label ∧ h.Cost = v) ∧ ((∃ h ∈ list, h.Label = label) → c = 0) ∧ Con Tryz.prog 10 [Zbs false list, Sv label] true (.tup [I v, I c]) := by
  have hl8 := ok.1
  have hh : ∃ r : Int × Int, ((r.2 = 0 → ∃ h ∈ list, h.Label = label ∧ h.Cost = r.1) ∧ ((∃ h ∈ list, h.Label = label) → r.2 = 0) ∧ (True)) ∧ Zbb Tryz.prog 10 [Zbs false list, Sv label] (Zaf []) true (.tup [I r.1, I r.2]) (Zaf []) := by
    refine Zdv (Φ := fun r : Int × Int => (r.2 = 0 → ∃ h ∈ list, h.Label = label ∧ h.Cost = r.1) ∧ ((∃ h ∈ list, h.Label = label) → r.2 = 0) ∧ (True)) [] (fun r => []) (fn := Tryz.f10) (nt := 28) Tryz.func10 rfl rfl (args := [Zbs false list, Sv label]) rfl (Zbd (.inl ⟨rfl, Ziz false _⟩) (Zbd (.inl ⟨rfl, trivial⟩) Zdp)) (res := fun r => .tup [I r.1, I r.2]) ?_
    refine xQ [] [0, 1] [] [] trivial ?_
    refine Zat ?_
    refine xQ [(1, .call [(true, .any)] true (Bv true))] [0, 1, 9] [] [_ ∧ True] ⟨⟨(l13Ok_ok list ok), trivial⟩, trivial⟩ ?_
    refine Zkr ?_
    refine Zbv ?_
    refine Zad ?_
    refine Zat ?_
    refine xR [] [0, 1, 6] [] [Zbs false list, Sv label, I 0] [] [] trivial ?_
    refine Zbn ?_
    refine Zeb (X := Int) (fun x => mkS [(0, Zbs false list), (1, Sv label), (6, I x)] []) (fun x => (0 ≤ x ∧ x ≤ (list.length : Int)) ∧ (∀ j : Nat, (j : Int) < x → (at_ list j).Label ≠ label) ∧ True) (fun x => ((list.length : Int) - x).toNat) 0 rfl (show (0 ≤ (0 : Int) ∧ (0 : Int) ≤ (list.length : Int)) ∧ (∀ j : Nat, (j : Int) < (0 : Int) → (at_ list j).Label ≠ label) ∧ True from ⟨om, (by intro j hj; omega), trivial⟩) (fun x hI => ?_)
    obtain ⟨i, hxx⟩ : ∃ i : Int, i = x := ⟨x, rfl⟩
    subst hxx
    obtain ⟨hi0, hz0, _⟩ : (0 ≤ i ∧ i ≤ (list.length : Int)) ∧ (∀ j : Nat, (j : Int) < i → (at_ list j).Label ≠ label) ∧ True := hI
    show XW _ _ _ _ (mkS [(0, Zbs false list), (1, Sv label), (6, I i)] []) _ _
    refine Zat ?_
    refine Zat ?_
    by_cases h1 : i < (list.length : Int)
    ·have hi : i.toNat < list.length := by omega
     refine x_q [(3, .dec true)] [0, 1, 6, 13] [] [_] ⟨h1, trivial⟩ ?_
     refine Zad ?_
     refine Zfl ?_
     refine Zbv ?_
     refine Zad ?_
     refine Zat ?_
     refine Zbn ?_
     refine Zat ?_
     by_cases h2 : ((at_ list i.toNat).Label) = label
     ·have hlq := h2
      refine x_q [(6, .dec true)] [0, 1, 6, 22] [] [(0 : Int) ≤ i ∧ i < (list.length : Int), _] ⟨⟨om, om⟩, h2, trivial⟩ ?_
      refine Zad ?_
      refine Zfl ?_
      refine xR [] [4, 5] [] [I ((at_ list i.toNat).Cost), I 0] [] [(0 : Int) ≤ i ∧ i < (list.length : Int)] ⟨⟨om, om⟩, trivial⟩ ?_
      refine Zem ?_
      refine Zfy (Zff (Zlp (Zfy (Zff ?_))))
      refine Zcz ((at_ list i.toNat).Cost, 0) (show (0 = 0 → ∃ h ∈ list, h.Label = label ∧ h.Cost = ((at_ list i.toNat).Cost)) ∧ ((∃ h ∈ list, h.Label = label) → 0 = 0) ∧ (True) from ⟨(by first | (exact fun _ => ⟨_, Zdf hi, hlq, rfl⟩) | (intro h_; exact absurd h_ (by decide))), (by first | (exact fun _ => rfl) | (exact fun q => absurd q hnn)), trivial⟩) (trivial) (.tup [I ((at_ list i.toNat).Cost), I 0]) (by kernel_rfl) (.inl rfl) (fun _ => rfl) (fun _ => (by simp [Zaj, Zag]))
     have hlq := h2
     refine x_q [(6, .dec false)] [0, 1, 6, 22] [] [(0 : Int) ≤ i ∧ i < (list.length : Int), _] ⟨⟨om, om⟩, h2, trivial⟩ ?_
     refine Zad ?_
     refine Zkr ?_
     refine Zbv ?_
     refine Zbo 1 ?_
     refine Zad ?_
     refine x_r [] [0, 1, 6] [] [Zbs false list, Sv label, I (i + 1)] [] [inR .i64 (i + 1)] ⟨(Zac om om), trivial⟩ ?_
     exact Zbh (i + 1) rfl (show (0 ≤ (i + 1) ∧ (i + 1) ≤ (list.length : Int)) ∧ (∀ j : Nat, (j : Int) < (i + 1) → (at_ list j).Label ≠ label) ∧ True from ⟨om, (by intro j hj; by_cases ej : j = i.toNat; (rw [ej]; exact hlq); exact hz0 j om), trivial⟩) (by first | (show (((list.length : Int) - (i + 1)).toNat : Nat) < ((list.length : Int) - i).toNat; omega) | (dsimp only; omega))
    have hnn : ¬ ∃ h ∈ list, h.Label = label := fun ⟨h_, hm_, q_⟩ => by obtain ⟨j, hj, e⟩ := List.getElem_of_mem hm_; exact hz0 j om (by rw [Zej hj, e]; exact q_)
    refine x_r [(3, .dec false)] [0, 1, 6, 13] [] [Zbs false list, Sv label, I i, Bv false] [] [_] ⟨h1, trivial⟩ ?_
    refine Zad ?_
    refine Zcd rfl ?_
    refine Zde ?_
    refine Zax ?_
    refine Zbe ?_
    refine Zay ?_
    refine Zad ?_
    refine xR [] [4, 5] [] [I 0, I 3] [] [] trivial ?_
    refine Zem ?_
    refine Zcz (0, 3) (show (3 = 0 → ∃ h ∈ list, h.Label = label ∧ h.Cost = 0) ∧ ((∃ h ∈ list, h.Label = label) → 3 = 0) ∧ (True) from ⟨(by first | (exact fun _ => ⟨_, Zdf hi, hlq, rfl⟩) | (intro h_; exact absurd h_ (by decide))), (by first | (exact fun _ => rfl) | (exact fun q => absurd q hnn)), trivial⟩) (trivial) (.tup [I 0, I 3]) (by kernel_rfl) (.inl rfl) (fun _ => rfl) (fun _ => (by simp [Zaj, Zag]))
  obtain ⟨⟨v, c⟩, ⟨hh0, hh1, _⟩, hc⟩ := hh
  exact ⟨v, c, hh0, hh1, hc⟩
theorem lab_uq {xs : List Hyp} (h : Zsc xs) {a b : Hyp} (ha : a ∈ xs) (hb : b ∈ xs) (e : a.Label = b.Label) : a = b := by
 obtain ⟨i, hi, rfl⟩ := List.getElem_of_mem ha
 obtain ⟨j, hj, rfl⟩ := List.getElem_of_mem hb
 have hp := List.pairwise_iff_getElem.1 h.2.2.2
 rcases Nat.lt_trichotomy i j with q | q | q
 ·exact absurd e (hp i j hi hj q)
 ·subst q; rfl
 ·exact absurd e.symm (hp j i hj hi q)
theorem Znh (code : List Int) (ok_code : ∀ y ∈ code, inR .u8 y) : Con Tryz.prog 3 [Zlq false code] true (Bv true) := by
  refine Zbu (fn := Tryz.f3) (nt := 107) Tryz.func3 rfl rfl rfl rfl (by simp [Zag, Zaj, Zfc]) fun B hB => ?_
  refine Zbt (x := Zlq false code) 0 rfl (fun len_code => ?_)
  simp [Zdk, Zgf, cU8, fU8, Zlq] at len_code
  refine aQ [] [0] [] [] hB trivial ?_
  refine Zah ?_
  refine Zah ?_
  rcases Bool.eq_false_or_eq_true (decide (3000 < (code.length : Int) ∨ 3000 < (([] : List Int).length : Int))) with h1 | h1
  ·refine Zbm [(1, .call [(true, .any), (false, Zlq false ([] : List Int))] true (Bv true))] [0, 17] [] [Con Tryz.prog 4 [Zlq false code, Zlq false ([] : List Int)] true (Bv true) ∧ ((([] : List Int).length) = 0 ∧ Zen Zcr = Value.slice none 0 0) ∧ True] hB ⟨⟨(Zap h1 (Zwc code ([] : List Int))), ⟨rfl, rfl⟩, trivial⟩, trivial⟩ ?_
   refine Zaa ?_
   refine Zbq ?_
   refine aR [] [2] [] [Bv true] [] [] hB trivial ?_
   refine Zam ?_
   refine Zak ?_
   refine Zan hB (Bv true) (by kernel_rfl) (.inl rfl) rfl (fun _ => trivial)
  have hc : (∀ j, j < code.length → 0 ≤ at_ code j ∧ at_ code j ≤ 255) ∧ code.length ≤ 4611686018427387904 := ⟨fun j hj => ok_code _ (Zdf hj), by first | omega | (simp at h1; omega)⟩
  refine Zbm [(1, .call [(true, .any), (false, Zlq false ([] : List Int))] true (Bv false))] [0, 17] [] [Con Tryz.prog 4 [Zlq false code, Zlq false ([] : List Int)] true (Bv false) ∧ ((([] : List Int).length) = 0 ∧ Zen Zcr = Value.slice none 0 0) ∧ True] hB ⟨⟨(Zap h1 (Zwc code ([] : List Int))), ⟨rfl, rfl⟩, trivial⟩, trivial⟩ ?_
  refine Zaa ?_
  refine Zbj ?_
  refine Zas ?_
  refine Zaa ?_
  refine Zah ?_
  obtain ⟨v_1, ik_1, t_1, hx1_0, hx1_1, hx1_2, hx1_3, hx1_4, hx1_5, hc1⟩ := Ydh code (by assumption)
  have hst : Zbw v_1 = true := Zea.2 ⟨by omega, by omega, fun j hj => hx1_2 _ (Zdf hj)⟩
  have h5 := hx1_1
  have hok := hx1_3
  have h3 := hx1_4
  have hsetb := hx1_5
  have hset : Zfa t_1 = true := Zhy.2 om
  have hoks := Yfg hst
  refine Zbm [(1, .call [(true, .any)] true (.tup [Zgt v_1, .agg [Zae true ik_1.Strokes], Zeg t_1])), (6, .new 3), (7, .new 4), (8, .new 5)] [3, 4, 5] [3, 4, 5] [_ ∧ True] hB ⟨⟨hc1, trivial⟩, trivial⟩ ?_
  refine Zaa ?_
  refine Zah ?_
  obtain ⟨v_2, c_2, hx2_0, hx2_1, hc2⟩ := Zwd v_1 ik_1 t_1 hst hok hset om om om hoks
  have hlt := hx2_0
  have hc1_ := hx2_1
  have hll := hlt.1.2.1
  refine Zbm [(3, .call [(false, Zfb v_1), (false, .agg [Zae false ik_1.Strokes]), (true, .any)] true (.tup [Zku v_2, I c_2])), (7, .new 6)] [3, 4, 5, 6, 7] [3, 4, 5, 6] [_ ∧ ((Zen (I v_1.Band) = Zen (I v_1.Band)) ∧ ((false = true → true = true) ∧ 2 = 2 ∧ v_1.Templates.length = v_1.Templates.length ∧ ∀ i_, i_ < v_1.Templates.length → (Zch true v_1.Templates) i_ = (Zch false v_1.Templates) i_ ∨ (AV.idsL ((Zch false v_1.Templates) i_) = [] ∧ leL (fun _ => none) false ((Zch true v_1.Templates) i_) ((Zch false v_1.Templates) i_))) ∧ ([] : List AV) = []) ∧ (((false = true → true = true) ∧ 1 = 1 ∧ ik_1.Strokes.length = ik_1.Strokes.length ∧ ∀ i_, i_ < ik_1.Strokes.length → (Zbl true ik_1.Strokes) i_ = (Zbl false ik_1.Strokes) i_ ∨ (AV.idsL ((Zbl false ik_1.Strokes) i_) = [] ∧ leL (fun _ => none) false ((Zbl true ik_1.Strokes) i_) ((Zbl false ik_1.Strokes) i_))) ∧ ([] : List AV) = []) ∧ True] hB ⟨⟨hc2, ⟨rfl, ⟨⟨(fun h => by cases h), rfl, rfl, fun i _ => .inr ⟨Zpu _ _, Zse _ _ _⟩⟩, rfl⟩⟩, ⟨⟨(fun h => by cases h), rfl, rfl, fun i _ => .inr ⟨Zml _ _, Zoz _ _ _⟩⟩, rfl⟩, trivial⟩, trivial⟩ ?_
  refine Zaa ?_
  refine Zah ?_
  refine aQ [(1, .dec false)] [3, 4, 5, 6, 7, 32] [3, 4, 5, 6] [¬ (c_2 ≠ 0)] hB ⟨(fun hq => hq hc1_), trivial⟩ ?_
  refine Zbj ?_
  refine Zas ?_
  refine Zaa ?_
  refine Zah ?_
  refine aQ [(1, .call [(false, Zpv v_2)] true (Bv true)), (10, .dec false)] [3, 4, 5, 6, 46] [3, 4, 5, 6] [_ ∧ ((Zen (I v_2.Nodes) = Zen (I v_2.Nodes)) ∧ ((false = true → true = true) ∧ 4 = 4 ∧ v_2.Edges.length = v_2.Edges.length ∧ ∀ i_, i_ < v_2.Edges.length → (Zle v_2.Edges) i_ = (Zle v_2.Edges) i_ ∨ (AV.idsL ((Zle v_2.Edges) i_) = [] ∧ leL (fun _ => none) false ((Zle v_2.Edges) i_) ((Zle v_2.Edges) i_))) ∧ ([] : List AV) = []) ∧ True, inR .i64 ((ik_1.Strokes.length : Int) + 1), ¬ (v_2.Nodes ≠ ((ik_1.Strokes.length : Int) + 1))] hB ⟨⟨(Zlr v_2 hlt.1), ⟨rfl, ⟨⟨(fun h => by cases h), rfl, rfl, fun i _ => .inl rfl⟩, rfl⟩⟩, trivial⟩, (Zac om om), (fun hq => hq hlt.2.1), trivial⟩ ?_
  refine Zbj ?_
  refine Zas ?_
  refine Zaa ?_
  refine Zah ?_
  refine aR [] [3, 4, 5, 6, 8] [3, 4, 5, 6] [.ref 3 0, .ref 4 0, .ref 5 0, .ref 6 0, I 0] [some (Zpa v_1), some (.box [Zae true ik_1.Strokes]), some (Zcu t_1), some (Zni v_2)] [] hB trivial ?_
  refine Zau ?_
  refine Zcn (fun gn gσ => ∃ (i : Int), gn = ((v_2.Edges.length : Int) - i).toNat ∧ (0 ≤ i ∧ i ≤ (v_2.Edges.length : Int)) ∧ gσ = mkS [(3, .ref 3 0), (4, .ref 4 0), (5, .ref 5 0), (6, .ref 6 0), (8, I i)] [(3, Zpa v_1), (4, .box [Zae true ik_1.Strokes]), (5, Zcu t_1), (6, Zni v_2)]) (((v_2.Edges.length : Int) - 0).toNat) ⟨0, rfl, om, rfl⟩ (fun gn gσ hI => ?_)
  obtain ⟨i, rfl, hi0, rfl⟩ := hI
  refine Zah ?_
  refine Zah ?_
  by_cases h2 : i < (v_2.Edges.length : Int)
  ·have hi : i.toNat < v_2.Edges.length := by omega
   obtain ⟨gq, hg1, he1, he2, hq, hqm, hql, hqc⟩ := hlt.2.2 _ (Zdf hi)
   have hrg := Zts hst hok hset hg1.1 hg1.2 om
   have hgg : Group.mk (at_ v_2.Edges i.toNat).From (at_ v_2.Edges i.toNat).To = gq := by rw [he1, he2]
   have ga := hg1.1.1
   have gb := hg1.1.2.1
   have gc := hg1.1.2.2
   have gd := hg1.2
   refine Zbm [(4, .dec true)] [3, 4, 5, 6, 8, 51] [3, 4, 5, 6] [_] hB ⟨h2, trivial⟩ ?_
   refine Zaa ?_
   refine Zbq ?_
   refine Zas ?_
   refine Zaa ?_
   refine Zah ?_
   refine Zau ?_
   refine aQ [(5, .new 9)] [3, 4, 5, 6, 8, 9] [3, 4, 5, 6, 9] [(0 : Int) ≤ i ∧ i < (v_2.Edges.length : Int)] hB ⟨⟨om, om⟩, trivial⟩ ?_
   refine Zah ?_
   obtain ⟨v_3, c_3, hx3_0, hx3_1, hc3⟩ := Zne ik_1 (Group.mk ((at_ v_2.Edges i.toNat).From) ((at_ v_2.Edges i.toNat).To)) hok (by rw [hgg]; exact hg1.1)
   have hpv := hx3_0
   have hc2_ := hx3_1
   have hpo : Zbp v_3 = true := by rw [hpv, hgg]; exact Ztt hok hg1.1
   have hp1 : 1 ≤ v_3.Strokes.length := by rw [hpv, hgg]; exact hrg.2.2.1
   have hp2 : (v_3.Strokes.length : Int) * t_1.Points ≤ 72 := by rw [hpv, hgg]; exact hrg.2.2.2
   refine Zbm [(6, .call [(false, .agg [Zae false ik_1.Strokes]), (true, .any)] false (.tup [.agg [Zae false v_3.Strokes], I c_3])), (10, .new 10)] [3, 4, 5, 6, 8, 9, 10, 11] [3, 4, 5, 6, 9, 10] [_ ∧ (((false = true → true = true) ∧ 1 = 1 ∧ ik_1.Strokes.length = ik_1.Strokes.length ∧ ∀ i_, i_ < ik_1.Strokes.length → (Zbl true ik_1.Strokes) i_ = (Zbl false ik_1.Strokes) i_ ∨ (AV.idsL ((Zbl false ik_1.Strokes) i_) = [] ∧ leL (fun _ => none) false ((Zbl true ik_1.Strokes) i_) ((Zbl false ik_1.Strokes) i_))) ∧ ([] : List AV) = []) ∧ True] hB ⟨⟨hc3, ⟨⟨(fun h => by cases h), rfl, rfl, fun i _ => .inr ⟨Zml _ _, Zoz _ _ _⟩⟩, rfl⟩, trivial⟩, trivial⟩ ?_
   refine Zaa ?_
   refine Zah ?_
   obtain ⟨v_4, c_4, hx4_0, hx4_1, hc4⟩ := Ztq v_1 v_3 t_1 hst hpo hset om hp1 hp2 hoks
   have hhv : v_4 = Zlh v_1 (Zlc ik_1 gq) t_1 := by rw [hx4_0, hpv, hgg]
   have hc3_ := hx4_1
   have hho : Zsc v_4 := by rw [hhv]; exact hrg.1
   refine Zbm [(3, .call [(false, Zfb v_1), (true, .any), (true, .any)] true (.tup [Zbs true v_4, I c_4]))] [3, 4, 5, 6, 8, 9, 11, 12, 13] [3, 4, 5, 6, 9] [_ ∧ ((Zen (I v_1.Band) = Zen (I v_1.Band)) ∧ ((false = true → true = true) ∧ 2 = 2 ∧ v_1.Templates.length = v_1.Templates.length ∧ ∀ i_, i_ < v_1.Templates.length → (Zch true v_1.Templates) i_ = (Zch false v_1.Templates) i_ ∨ (AV.idsL ((Zch false v_1.Templates) i_) = [] ∧ leL (fun _ => none) false ((Zch true v_1.Templates) i_) ((Zch false v_1.Templates) i_))) ∧ ([] : List AV) = []) ∧ True] hB ⟨⟨hc4, ⟨rfl, ⟨⟨(fun h => by cases h), rfl, rfl, fun i _ => .inr ⟨Zpu _ _, Zse _ _ _⟩⟩, rfl⟩⟩, trivial⟩, trivial⟩ ?_
   refine Zaa ?_
   refine Zah ?_
   obtain ⟨v_5, c_5, hx5_0, hx5_1, hc5⟩ := Ztr v_4 ((at_ v_2.Edges i.toNat).Label) hho
   have hc4_ : c_5 = 0 := hx5_1 ⟨hq, by rw [hhv]; exact hqm, hql⟩
   have hcv : v_5 = (at_ v_2.Edges i.toNat).Cost := by obtain ⟨h_, hm_, q1_, q2_⟩ := hx5_0 hc4_; rw [← q2_, ← hqc]; exact congrArg Hyp.Cost (lab_uq hho hm_ (by rw [hhv]; exact hqm) (q1_.trans hql.symm))
   refine Zbm [(3, .call [(false, Zbs false v_4), (true, .any)] true (.tup [I v_5, I c_5]))] [3, 4, 5, 6, 8, 9, 11, 13, 14, 15] [3, 4, 5, 6, 9] [_ ∧ ((false = true → true = true) ∧ 2 = 2 ∧ v_4.length = v_4.length ∧ ∀ i_, i_ < v_4.length → (Ziy v_4) i_ = (Ziy v_4) i_ ∨ (AV.idsL ((Ziy v_4) i_) = [] ∧ leL (fun _ => none) false ((Ziy v_4) i_) ((Ziy v_4) i_))) ∧ True] hB ⟨⟨hc5, ⟨(fun h => by cases h), rfl, rfl, fun i _ => .inl rfl⟩, trivial⟩, trivial⟩ ?_
   refine Zaa ?_
   refine aQ [(1, .dec false), (4, .dec false), (8, .dec false), (14, .dec false), (22, .dec false)] [3, 4, 5, 6, 8, 106] [3, 4, 5, 6] [¬ (c_3 ≠ 0), ¬ (c_4 ≠ 0), ¬ (c_5 ≠ 0), ¬ (v_5 ≠ ((at_ v_2.Edges i.toNat).Cost)), inR .i64 (((at_ v_2.Edges i.toNat).To) - ((at_ v_2.Edges i.toNat).From)), ¬ (3 < (((at_ v_2.Edges i.toNat).To) - ((at_ v_2.Edges i.toNat).From)))] hB ⟨(fun hq => hq hc2_), (fun hq => hq hc3_), (fun hq => hq hc4_), (fun hq => hq hcv), (Zac om om), om, trivial⟩ ?_
   refine Zbj ?_
   refine Zas ?_
   refine Zba 1 ?_
   refine Zaa ?_
   refine Zdg [] [3, 4, 5, 6, 8] [3, 4, 5, 6] [.ref 3 0, .ref 4 0, .ref 5 0, .ref 6 0, I (i + 1)] [some (Zpa v_1), some (.box [Zae true ik_1.Strokes]), some (Zcu t_1), some (Zni v_2)] [inR .i64 (i + 1)] hB ⟨(Zac om om), trivial⟩ ?_
   exact Zbf _ om ⟨(i + 1), rfl, om, rfl⟩
  refine Zbm [(4, .dec false)] [3, 4, 5, 6, 8, 51] [3, 4, 5, 6] [_] hB ⟨h2, trivial⟩ ?_
  refine Zaa ?_
  refine Zbj ?_
  refine Zcj ?_
  refine Zal ?_
  refine Zal ?_
  refine Zaw ?_
  refine Zaa ?_
  refine aR [] [2] [] [Bv true] [] [] hB trivial ?_
  refine Zam ?_
  refine Zan hB (Bv true) (by kernel_rfl) (.inl rfl) rfl (fun _ => trivial)
theorem Yfh : Ybc Tryz.prog 22 (cLU8 false) (fun xs => ∀ y ∈ xs, inR .u8 y) :=
 Zwe (c := cU8) (sz := 1) Tryz.underlying22 (by kernel_rfl) (by decide) (fun x => ⟨rfl, by simp [Zrg, cU8]⟩) (Ydi Tryz.underlying5)
namespace fnInkLattices
set_option maxRecDepth 100000 in
theorem lifted (os : Os) (started : os.Started) (H : Type) (enc : TypeId × Value → H) :
  ReturnsInHanded {} Tryz.checked os 3 .any (Rows.fnInkLatticesSpec.pre6 enc Tryz.prog Tryz.f3 Rows.fnInkLatticesRow.domain false) (Rows.fnInkLatticesSpec.post enc Tryz.prog Tryz.f3 false true false false) := by
 refine returnsInHanded_of_change_shaped (C := Tryz.checked) Tryz.own started (by kernel_rfl) Tryz.func3
  (ChangeSpec.witness6 (enc := enc) (C := Tryz.checked) false ⟨#[], #[.slice none 0 0], []⟩ 8 (by kernel_rfl) (by kernel_rfl) (by kernel_rfl) (by kernel_rfl)) ?_
 intro W base args ds gs before hval0 hW hcnd hsz hshp _
 have hW' := hW
 obtain ⟨p, q, hA0, hV, rfl, hfz, hnd⟩ := hW
 have hval : ∀ (j : Nat) t v, Tryz.f3.params[j]? = some t → args[j]? = some v → Value.okWide Tryz.prog W .any base t v := hval0
 have hA : DataW.TrodAll enc Tryz.prog W 0 (fun _ => true) true Tryz.f3.params.toList args.toList ds p := hA0
 rw [Tryz.params3] at hA hval
 obtain ⟨v0, vs0, d0, ds0, p0, q0, hargs, rfl, rfl, h0, r0⟩ := trodAll_cons hA
 obtain ⟨rfl, rfl, rfl⟩ := trodAll_nil r0
 obtain rfl : args = #[v0] := args_eq hargs
 obtain ⟨rfl, rfl⟩ := trodVars_none hV
 obtain ⟨fuel0, hf0⟩ := h0
 obtain ⟨A0, l0, c0, rfl⟩ := okWide_slice Tryz.underlying22 (hval 0 22 v0 rfl rfl)
 obtain ⟨x0, rx0, ok0⟩ := (Yfh) enc W 0 _ _ _ _ _ hf0
 refine (walk_of0 (Znh x0 ok0) (fun w _ => WX_free w) (RelTL.cons (Yfi rx0) RelTL.nil)).mono fun e W1 ⟨he, hb⟩ => ?_
 subst he
 exact ⟨_, rfl, law_post Tryz.laidOut rfl Tryz.underlying4 (of_decide_eq_true (by kernel_rfl)) rfl hW' hb rfl⟩
theorem jf0 : (Rows.fnInkLatticesRow.inPlace == Tryz.pinned.checked.prog.inPlace 3) = true := by kernel_rfl
theorem jf1 : (Rows.fnInkLatticesRow.unfollowed == Tryz.pinned.checked.prog.unfollowed 3) = true := by kernel_rfl
theorem jf2 : (Rows.fnInkLatticesRow.recurses == Tryz.pinned.checked.prog.recurses 3) = true := by kernel_rfl
theorem jf3 : (Rows.fnInkLatticesRow.named == Tryz.pinned.checked.prog.varsNamed 3) = true := by kernel_rfl
theorem jf : joinedFacts Tryz.pinned.checked.prog 3 Tryz.f3 Rows.fnInkLatticesSpec Rows.fnInkLatticesRow = true := by
 unfold joinedFacts
 rw [jf0, jf1, jf2, jf3]
 kernel_rfl
theorem over : Rows.fnInkLatticesRow.holds Tryz.pinned (OpenSpec.ofChange Rows.fnInkLatticesSpec) :=
 OpenClaim.holds_of_wide 3 Tryz.f3 rfl rfl rfl rfl rfl rfl rfl ⟨rfl, rfl, rfl, rfl, rfl⟩ rfl rfl rfl rfl rfl (by kernel_rfl) Tryz.func3 jf
  (of_decide_eq_true (by kernel_rfl)) (by unfold Func.isWrapper; first | (rw [if_pos (by decide +kernel)]; kernel_rfl) | (rw [if_neg (by decide +kernel)]; exact ⟨rfl, rfl⟩))
  (fun os started H enc _ => lifted os started H enc)
theorem proved : Rows.FnInkLatticesSaid :=
 over
#print axioms proved
end fnInkLattices
end Go.Proofs.YtapmeemeciigdaaGreat.Ax
