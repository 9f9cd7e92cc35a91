/- Contracts that the statement FnInkLattices reaches, part 3. No conditions. -/
import Derived.Test.YtapmeemeciigdaaGreatAxLInkLattices2
import Derived.Lib.IndexBytes
import Derived.Lib.ItoaNum
import Derived.Lib.ParseIntBCases
import Derived.Lib.SplitLaws
import Derived.Test.YtapmeemeciigdaaGreatAxR
import Derived.Test.YtapmeemeciigdaaGreatAxS
import Derived.Test.YtapmeemeciigdaaGreatAxSF
import Derived.Test.YtapmeemeciigdaaGreatAxY
import Derived.Test.YtapmeemeciigdaaGreatSfEdgShelf
import Derived.Test.YtapmeemeciigdaaGreatSortShelf
namespace Go.Proofs.YtapmeemeciigdaaGreat.Ax
open Go.RowKit Go.ChangeShapes Go.WideShapes
set_option linter.unusedVariables false
set_option linter.unusedSimpArgs false
theorem Zfq (s : Stroke) (ok : Zar s = true) : Con Tryz.prog 117 [.agg [Zaq false s.Points]] true (Zfo (Zby s.Points s.Points.length)) := by
  have hln := Zeo ok
  refine Zbu (fn := Tryz.f117) (nt := 38) Tryz.func117 rfl rfl rfl rfl (by simp [Zag, Zaj, Zec]) fun B hB => ?_
  refine Zbt (x := .agg [Zaq false s.Points]) 0 rfl (fun len_s => ?_)
  simp [Zdk, Zgf, Zee, Zdl, Zaq] at len_s
  refine aQ [(0, .new 1), (1, .new 2)] [1, 2] [1, 2] [] hB trivial ?_
  refine aQ [(1, .call [(true, .any)] true (Zct (at_ s.Points 0))), (2, .new 3)] [1, 2, 3] [1, 2, 3] [_ ∧ True] hB ⟨⟨(Zky s ok), trivial⟩, trivial⟩ ?_
  refine aQ [(9, .new 4)] [1, 2, 4] [1, 2, 4] [] hB trivial ?_
  refine Zah ?_
  refine aR [] [2, 4, 19, 20, 21] [2, 4] [.ref 2 0, .ref 4 0, Zaq false s.Points, I (s.Points.length : Int), I 0] [some (.box [I 0, I 0, I 0, I 0]), some (.box [I ((at_ s.Points 0).X), I ((at_ s.Points 0).Y), I ((at_ s.Points 0).X), I ((at_ s.Points 0).Y)])] [] hB trivial ?_
  refine Zau ?_
  refine Zcn (fun gn gσ => ∃ (t21 : Int) (x1 : Int) (y1 : Int) (x2 : Int) (y2 : Int), gn = ((s.Points.length : Int) - t21).toNat ∧ (0 ≤ t21 ∧ t21 ≤ (s.Points.length : Int)) ∧ (Box.mk x1 y1 x2 y2 = Zby s.Points t21.toNat) ∧ gσ = mkS [(2, .ref 2 0), (4, .ref 4 0), (19, Zaq false s.Points), (20, I (s.Points.length : Int)), (21, I t21)] [(2, .box [I 0, I 0, I 0, I 0]), (4, .box [I x1, I y1, I x2, I y2])]) (((s.Points.length : Int) - 0).toNat) ⟨0, (at_ s.Points 0).X, (at_ s.Points 0).Y, (at_ s.Points 0).X, (at_ s.Points 0).Y, rfl, om, (by first | rfl | exact (Ycq _).symm), rfl⟩ (fun gn gσ hI => ?_)
  obtain ⟨t21, x1, y1, x2, y2, rfl, hi0, hb1, rfl⟩ := hI
  refine Zah ?_
  by_cases h1 : t21 < (s.Points.length : Int)
  ·have hi : t21.toNat < s.Points.length := by omega
   refine Zbm [(0, .dec true)] [2, 4, 19, 20, 21, 22] [2, 4] [_] hB ⟨h1, trivial⟩ ?_
   refine Zaa ?_
   refine Zah ?_
   refine Zbq ?_
   refine Zas ?_
   refine Zaa ?_
   refine Zah ?_
   refine Zau ?_
   refine aQ [(2, .new 6)] [2, 4, 6, 19, 20, 21] [2, 4, 6] [(0 : Int) ≤ t21 ∧ t21 < (s.Points.length : Int)] hB ⟨⟨om, om⟩, trivial⟩ ?_
   refine Zbm [(10, .call [(true, .any), (true, .any)] true (Zfo (Zdx (Box.mk x1 y1 x2 y2) (Box.mk ((at_ s.Points t21.toNat).X) ((at_ s.Points t21.toNat).Y) ((at_ s.Points t21.toNat).X) ((at_ s.Points t21.toNat).Y)))))] [2, 4, 19, 20, 21] [2, 4] [_ ∧ True] hB ⟨⟨(Zof (Box.mk x1 y1 x2 y2) (Box.mk ((at_ s.Points t21.toNat).X) ((at_ s.Points t21.toNat).Y) ((at_ s.Points t21.toNat).X) ((at_ s.Points t21.toNat).Y))), trivial⟩, trivial⟩ ?_
   refine Zba 1 ?_
   refine Zaa ?_
   refine Zdg [] [2, 4, 19, 20, 21] [2, 4] [.ref 2 0, .ref 4 0, Zaq false s.Points, I (s.Points.length : Int), I (t21 + 1)] [some (.box [I 0, I 0, I 0, I 0]), some (Zef (Zdx (Box.mk x1 y1 x2 y2) (Box.mk ((at_ s.Points t21.toNat).X) ((at_ s.Points t21.toNat).Y) ((at_ s.Points t21.toNat).X) ((at_ s.Points t21.toNat).Y))))] [inR .i64 (t21 + 1)] hB ⟨(Zac om om), trivial⟩ ?_
   refine Zeq hB [] (T := [(2, .ref 2 0), (4, .ref 4 0), (19, Zaq false s.Points), (20, I (s.Points.length : Int)), (21, I (t21 + 1))]) (O := [(2, .box [I 0, I 0, I 0, I 0]), (4, .box [I ((Zdx (Box.mk x1 y1 x2 y2) (Box.mk ((at_ s.Points t21.toNat).X) ((at_ s.Points t21.toNat).Y) ((at_ s.Points t21.toNat).X) ((at_ s.Points t21.toNat).Y))).X1), I ((Zdx (Box.mk x1 y1 x2 y2) (Box.mk ((at_ s.Points t21.toNat).X) ((at_ s.Points t21.toNat).Y) ((at_ s.Points t21.toNat).X) ((at_ s.Points t21.toNat).Y))).Y1), I ((Zdx (Box.mk x1 y1 x2 y2) (Box.mk ((at_ s.Points t21.toNat).X) ((at_ s.Points t21.toNat).Y) ((at_ s.Points t21.toNat).X) ((at_ s.Points t21.toNat).Y))).X2), I ((Zdx (Box.mk x1 y1 x2 y2) (Box.mk ((at_ s.Points t21.toNat).X) ((at_ s.Points t21.toNat).Y) ((at_ s.Points t21.toNat).X) ((at_ s.Points t21.toNat).Y))).Y2)])]) rfl (⟨.inl rfl, .inl rfl, .inl rfl, .inl rfl, .inl rfl, trivial⟩) (⟨.inl rfl, .inr ⟨rfl, ⟨rfl, ⟨rfl, ⟨rfl, rfl⟩⟩⟩⟩, trivial⟩) (Zbf _ om ⟨(t21 + 1), (Zdx (Box.mk x1 y1 x2 y2) (Box.mk ((at_ s.Points t21.toNat).X) ((at_ s.Points t21.toNat).Y) ((at_ s.Points t21.toNat).X) ((at_ s.Points t21.toNat).Y))).X1, (Zdx (Box.mk x1 y1 x2 y2) (Box.mk ((at_ s.Points t21.toNat).X) ((at_ s.Points t21.toNat).Y) ((at_ s.Points t21.toNat).X) ((at_ s.Points t21.toNat).Y))).Y1, (Zdx (Box.mk x1 y1 x2 y2) (Box.mk ((at_ s.Points t21.toNat).X) ((at_ s.Points t21.toNat).Y) ((at_ s.Points t21.toNat).X) ((at_ s.Points t21.toNat).Y))).X2, (Zdx (Box.mk x1 y1 x2 y2) (Box.mk ((at_ s.Points t21.toNat).X) ((at_ s.Points t21.toNat).Y) ((at_ s.Points t21.toNat).X) ((at_ s.Points t21.toNat).Y))).Y2, rfl, om, (by rw [Zxu om, ← hb1]; rfl), rfl⟩)
  have hie : t21.toNat = s.Points.length := by omega
  rw [hie] at hb1
  refine Zbm [(0, .dec false)] [2, 4, 19, 20, 21, 22] [2, 4] [_] hB ⟨h1, trivial⟩ ?_
  refine Zaa ?_
  refine Zah ?_
  refine Zbj ?_
  refine Zcj ?_
  refine Zal ?_
  refine Zal ?_
  refine Zaw ?_
  refine Zaa ?_
  refine aR [] [2] [2] [.ref 2 0] [some (.box [I x1, I y1, I x2, I y2])] [] hB trivial ?_
  refine Zam ?_
  refine Zan hB (.agg [I x1, I y1, I x2, I y2]) (by kernel_rfl) (.inl (by rw [← hb1])) rfl (fun _ => (by simp [Zaj, Zag]))
theorem Zmw (s : Stroke) (ok : Zar s = true) : Con Tryz.prog 126 [.agg [Zaq false s.Points]] true (Bv (Zrh s)) := by
  have hbo := Zin ok
  unfold Zfk at hbo
  refine Zbu (fn := Tryz.f126) (nt := 20) Tryz.func126 rfl rfl rfl rfl (by simp [Zag, Zaj, Zec]) fun B hB => ?_
  refine Zbt (x := .agg [Zaq false s.Points]) 0 rfl (fun len_s => ?_)
  simp [Zdk, Zgf, Zee, Zdl, Zaq] at len_s
  refine aQ [(0, .new 1)] [1] [1] [] hB trivial ?_
  refine aQ [(1, .call [(true, .any)] true (Zfo (Zby s.Points s.Points.length))), (2, .new 3)] [3] [3] [_ ∧ True] hB ⟨⟨(Zfq s ok), trivial⟩, trivial⟩ ?_
  refine Zah ?_
  by_cases h1 : (((Zby s.Points s.Points.length).X2) - ((Zby s.Points s.Points.length).X1)) ≤ 160
  ·refine Zdg [(5, .dec true)] [2] [] [Bv (decide ((((Zby s.Points s.Points.length).Y2) - ((Zby s.Points s.Points.length).Y1)) ≤ 160))] [] [inR .i64 (((Zby s.Points s.Points.length).X2) - ((Zby s.Points s.Points.length).X1)), _, inR .i64 (((Zby s.Points s.Points.length).Y2) - ((Zby s.Points s.Points.length).Y1))] hB ⟨(Zac om om), h1, (Zac om om), trivial⟩ ?_
   refine Zaa ?_
   refine Zam ?_
   refine Zan hB (Bv (decide ((((Zby s.Points s.Points.length).Y2) - ((Zby s.Points s.Points.length).Y1)) ≤ 160))) (by kernel_rfl) (.inl (by refine congrArg Bv ?_; first | (simp [Zrh, *]; done) | (simp [Zrh]; omega))) rfl (fun _ => trivial)
  refine Zdg [(5, .dec false)] [2] [] [Bv false] [] [inR .i64 (((Zby s.Points s.Points.length).X2) - ((Zby s.Points s.Points.length).X1)), _] hB ⟨(Zac om om), h1, trivial⟩ ?_
  refine Zaa ?_
  refine Zam ?_
  refine Zan hB (Bv false) (by kernel_rfl) (.inl (by refine congrArg Bv ?_; first | (simp [Zrh, *]; done) | (simp [Zrh]; omega))) rfl (fun _ => trivial)
theorem Yhx (ik : Ink) (stroke : Int) (ok : Zbp ik = true) (hs : 0 ≤ stroke ∧ stroke < (ik.Strokes.length : Int)) : Con Tryz.prog 83 [.agg [Zae false ik.Strokes], I stroke] true (I (Zdh ik.Strokes stroke.toNat)) := by
  have hio : stroke.toNat < ik.Strokes.length := by omega
  have hod := Zdc ok _ hio
  have hbd := Zin hod
  unfold Zfk at hbd
  refine Zbu (fn := Tryz.f83) (nt := 63) Tryz.func83 rfl rfl rfl rfl (by simp [Zag, Zaj, Zck]) fun B hB => ?_
  refine Zbt (x := .agg [Zae false ik.Strokes]) 0 rfl (fun len_ik => ?_)
  simp [Zdk, Zgf, Zee, Zft, Zdl, Zbl, Zaq, Zae] at len_ik
  refine aQ [(0, .new 2)] [1, 2] [2] [] hB trivial ?_
  refine Zah ?_
  refine Zah ?_
  rcases Bool.eq_false_or_eq_true (Zrh (at_ ik.Strokes stroke.toNat)) with h1 | h1
  ·refine Zbm [(5, .call [(true, .any)] true (Bv true))] [1, 2, 18] [2] [(0 : Int) ≤ stroke ∧ stroke < (ik.Strokes.length : Int), Con Tryz.prog 126 [.agg [Zaq false ((at_ ik.Strokes stroke.toNat).Points)]] true (Bv true) ∧ True] hB ⟨⟨om, om⟩, ⟨(Zap h1 (Zmw (at_ ik.Strokes stroke.toNat) (by first | assumption | exact Zdc ok _ om))), trivial⟩, trivial⟩ ?_
   refine Zaa ?_
   refine Zbj ?_
   refine Zas ?_
   refine Zaa ?_
   refine aQ [(5, .call [(true, .any)] true (Zfo (Zby (at_ ik.Strokes stroke.toNat).Points (at_ ik.Strokes stroke.toNat).Points.length))), (6, .new 5)] [1, 2, 5] [2, 5] [(0 : Int) ≤ stroke ∧ stroke < (ik.Strokes.length : Int), _ ∧ True] hB ⟨⟨om, om⟩, ⟨(Zfq (at_ ik.Strokes stroke.toNat) (by first | assumption | exact Zdc ok _ om)), trivial⟩, trivial⟩ ?_
   refine aQ [] [1, 2, 5, 6, 7] [2, 5] [] hB trivial ?_
   refine Zah ?_
   refine aR [] [5, 6, 7, 28, 29, 30] [5] [.ref 5 0, I (-1), I 1, .sl false 1 (stroke.toNat - 0) (Zln 0 (Zbl false ik.Strokes)), I ((stroke.toNat - 0 : Nat) : Int), I 0] [some (Zef (Zby (at_ ik.Strokes stroke.toNat).Points (at_ ik.Strokes stroke.toNat).Points.length))] [(0 : Int) ≤ 0 ∧ (0 : Int) ≤ stroke ∧ stroke ≤ (ik.Strokes.length : Int)] hB ⟨⟨om, om, om⟩, trivial⟩ ?_
   refine Zau ?_
   refine Zcn (fun gn gσ => ∃ (home : Int) (most : Int) (t30 : Int), gn = (stroke - t30).toNat ∧ (0 ≤ t30 ∧ t30 ≤ stroke) ∧ (home = (Zhh ik.Strokes (Zby (at_ ik.Strokes stroke.toNat).Points (at_ ik.Strokes stroke.toNat).Points.length) t30.toNat).1 ∧ most = (Zhh ik.Strokes (Zby (at_ ik.Strokes stroke.toNat).Points (at_ ik.Strokes stroke.toNat).Points.length) t30.toNat).2) ∧ (-1 ≤ home ∧ home < t30 ∨ home = -1) ∧ gσ = mkS [(5, .ref 5 0), (6, I home), (7, I most), (28, .sl false 1 (stroke.toNat - 0) (Zln 0 (Zbl false ik.Strokes))), (29, I ((stroke.toNat - 0 : Nat) : Int)), (30, I t30)] [(5, Zef (Zby (at_ ik.Strokes stroke.toNat).Points (at_ ik.Strokes stroke.toNat).Points.length))]) ((stroke - 0).toNat) ⟨(-1), 1, 0, rfl, om, (by exact ⟨rfl, rfl⟩), om, rfl⟩ (fun gn gσ hI => ?_)
   obtain ⟨home, most, t30, rfl, hi0, hg0, hh0, rfl⟩ := hI
   refine Zah ?_
   by_cases h2 : t30 < ((stroke.toNat - 0 : Nat) : Int)
   ·have hz : 0 + t30.toNat = t30.toNat := Nat.zero_add _
    have hi : (0 + t30.toNat) < ik.Strokes.length := by omega
    have hos := Zdc ok _ hi
    have hbo := Zin hos
    unfold Zfk at hbo
    have hcm : Zrf (at_ ik.Strokes (0 + t30.toNat)) (Zby (at_ ik.Strokes stroke.toNat).Points (at_ ik.Strokes stroke.toNat).Points.length) = Zrf (at_ ik.Strokes (0 + t30.toNat)) (Zby (at_ ik.Strokes stroke.toNat).Points (at_ ik.Strokes stroke.toNat).Points.length) := rfl
    unfold Zrf at hcm
    rw [hz] at hcm
    refine Zbm [(0, .dec true)] [5, 6, 7, 28, 29, 30, 31] [5] [_] hB ⟨h2, trivial⟩ ?_
    refine Zaa ?_
    refine Zah ?_
    refine Zbq ?_
    refine Zas ?_
    refine Zaa ?_
    refine Zah ?_
    refine Zau ?_
    refine aQ [(3, .new 9)] [5, 6, 7, 8, 9, 28, 29, 30] [5, 9] [(0 : Int) ≤ t30 ∧ t30 < ((stroke.toNat - 0 : Nat) : Int)] hB ⟨⟨om, om⟩, trivial⟩ ?_
    refine aQ [(1, .call [(true, .any)] true (Zfo (Zby (at_ ik.Strokes (0 + t30.toNat)).Points (at_ ik.Strokes (0 + t30.toNat)).Points.length))), (2, .new 10)] [5, 6, 7, 8, 9, 10, 28, 29, 30] [5, 9, 10] [_ ∧ True] hB ⟨⟨(Zfq (at_ ik.Strokes (0 + t30.toNat)) (by first | assumption | exact Zdc ok _ om)), trivial⟩, trivial⟩ ?_
    refine aQ [] [5, 6, 7, 8, 9, 11, 28, 29, 30] [5, 9] [inR .i64 (((Zby (at_ ik.Strokes stroke.toNat).Points (at_ ik.Strokes stroke.toNat).Points.length).X2) + 40), inR .i64 (((Zby (at_ ik.Strokes stroke.toNat).Points (at_ ik.Strokes stroke.toNat).Points.length).X1) - 40), inR .i64 ((min ((Zby (at_ ik.Strokes (0 + t30.toNat)).Points (at_ ik.Strokes (0 + t30.toNat)).Points.length).X2) (((Zby (at_ ik.Strokes stroke.toNat).Points (at_ ik.Strokes stroke.toNat).Points.length).X2) + 40)) - (max ((Zby (at_ ik.Strokes (0 + t30.toNat)).Points (at_ ik.Strokes (0 + t30.toNat)).Points.length).X1) (((Zby (at_ ik.Strokes stroke.toNat).Points (at_ ik.Strokes stroke.toNat).Points.length).X1) - 40))), inR .i64 (((min ((Zby (at_ ik.Strokes (0 + t30.toNat)).Points (at_ ik.Strokes (0 + t30.toNat)).Points.length).X2) (((Zby (at_ ik.Strokes stroke.toNat).Points (at_ ik.Strokes stroke.toNat).Points.length).X2) + 40)) - (max ((Zby (at_ ik.Strokes (0 + t30.toNat)).Points (at_ ik.Strokes (0 + t30.toNat)).Points.length).X1) (((Zby (at_ ik.Strokes stroke.toNat).Points (at_ ik.Strokes stroke.toNat).Points.length).X1) - 40))) + 1)] hB ⟨(Zac om om), (Zac om om), (Zac om om), (Zac om om), trivial⟩ ?_
    refine Zah ?_
    rcases Bool.eq_false_or_eq_true (Zrh (at_ ik.Strokes (0 + t30.toNat))) with h3 | h3
    ·have hgn := Zmi (ss := ik.Strokes) (d := (Zby (at_ ik.Strokes stroke.toNat).Points (at_ ik.Strokes stroke.toNat).Points.length)) hi0.1 (fun q => by have q1 := q.1; rw [← show (0 + t30.toNat) = t30.toNat by omega, h3] at q1; cases q1)
     refine Zbm [(1, .call [(true, .any)] true (Bv true))] [5, 6, 7, 8, 11, 28, 29, 30, 58] [5] [Con Tryz.prog 126 [.agg [Zaq false ((at_ ik.Strokes (0 + t30.toNat)).Points)]] true (Bv true) ∧ True] hB ⟨⟨(Zap h3 (Zmw (at_ ik.Strokes (0 + t30.toNat)) (by first | assumption | exact Zdc ok _ om))), trivial⟩, trivial⟩ ?_
     refine Zaa ?_
     refine Zbj ?_
     refine Zas ?_
     refine Zba 1 ?_
     refine Zaa ?_
     refine Zdg [] [5, 6, 7, 28, 29, 30] [5] [.ref 5 0, I home, I most, .sl false 1 (stroke.toNat - 0) (Zln 0 (Zbl false ik.Strokes)), I ((stroke.toNat - 0 : Nat) : Int), I (t30 + 1)] [some (Zef (Zby (at_ ik.Strokes stroke.toNat).Points (at_ ik.Strokes stroke.toNat).Points.length))] [inR .i64 (t30 + 1)] hB ⟨(Zac om om), trivial⟩ ?_
     exact Zbf _ om ⟨home, most, (t30 + 1), rfl, om, (by rw [hgn]; first | exact hg0 | exact ⟨rfl, by unfold Zrf; rw [hz]⟩), om, rfl⟩
    by_cases h4 : most ≤ (((min ((Zby (at_ ik.Strokes (0 + t30.toNat)).Points (at_ ik.Strokes (0 + t30.toNat)).Points.length).X2) (((Zby (at_ ik.Strokes stroke.toNat).Points (at_ ik.Strokes stroke.toNat).Points.length).X2) + 40)) - (max ((Zby (at_ ik.Strokes (0 + t30.toNat)).Points (at_ ik.Strokes (0 + t30.toNat)).Points.length).X1) (((Zby (at_ ik.Strokes stroke.toNat).Points (at_ ik.Strokes stroke.toNat).Points.length).X1) - 40))) + 1)
    ·have hgn := Zvx (ss := ik.Strokes) (d := (Zby (at_ ik.Strokes stroke.toNat).Points (at_ ik.Strokes stroke.toNat).Points.length)) hi0.1 (by rw [← show (0 + t30.toNat) = t30.toNat by omega]; exact h3) (by unfold Zrf; rw [← hg0.2]; first | omega | (rw [hz] at h4; omega))
     refine Zbm [(1, .call [(true, .any)] true (Bv false)), (6, .dec true)] [5, 6, 7, 8, 11, 28, 29, 30, 58] [5] [Con Tryz.prog 126 [.agg [Zaq false ((at_ ik.Strokes (0 + t30.toNat)).Points)]] true (Bv false) ∧ True, _] hB ⟨⟨(Zap h3 (Zmw (at_ ik.Strokes (0 + t30.toNat)) (by first | assumption | exact Zdc ok _ om))), trivial⟩, h4, trivial⟩ ?_
     refine Zaa ?_
     refine Zbq ?_
     refine Zbm [] [5, 6, 7, 28, 29, 30] [5] [] hB trivial ?_
     refine Zba 1 ?_
     refine Zaa ?_
     refine Zdg [] [5, 6, 7, 28, 29, 30] [5] [.ref 5 0, I t30, I (((min ((Zby (at_ ik.Strokes (0 + t30.toNat)).Points (at_ ik.Strokes (0 + t30.toNat)).Points.length).X2) (((Zby (at_ ik.Strokes stroke.toNat).Points (at_ ik.Strokes stroke.toNat).Points.length).X2) + 40)) - (max ((Zby (at_ ik.Strokes (0 + t30.toNat)).Points (at_ ik.Strokes (0 + t30.toNat)).Points.length).X1) (((Zby (at_ ik.Strokes stroke.toNat).Points (at_ ik.Strokes stroke.toNat).Points.length).X1) - 40))) + 1), .sl false 1 (stroke.toNat - 0) (Zln 0 (Zbl false ik.Strokes)), I ((stroke.toNat - 0 : Nat) : Int), I (t30 + 1)] [some (Zef (Zby (at_ ik.Strokes stroke.toNat).Points (at_ ik.Strokes stroke.toNat).Points.length))] [inR .i64 (t30 + 1)] hB ⟨(Zac om om), trivial⟩ ?_
     exact Zbf _ om ⟨t30, (((min ((Zby (at_ ik.Strokes (0 + t30.toNat)).Points (at_ ik.Strokes (0 + t30.toNat)).Points.length).X2) (((Zby (at_ ik.Strokes stroke.toNat).Points (at_ ik.Strokes stroke.toNat).Points.length).X2) + 40)) - (max ((Zby (at_ ik.Strokes (0 + t30.toNat)).Points (at_ ik.Strokes (0 + t30.toNat)).Points.length).X1) (((Zby (at_ ik.Strokes stroke.toNat).Points (at_ ik.Strokes stroke.toNat).Points.length).X1) - 40))) + 1), (t30 + 1), rfl, om, (by rw [hgn]; first | exact hg0 | exact ⟨rfl, by unfold Zrf; rw [hz]⟩), om, rfl⟩
    have hgn := Zmi (ss := ik.Strokes) (d := (Zby (at_ ik.Strokes stroke.toNat).Points (at_ ik.Strokes stroke.toNat).Points.length)) hi0.1 (fun q => by have q2 := q.2; unfold Zrf at q2; rw [← hg0.2] at q2; first | omega | (rw [hz] at h4; omega))
    refine Zbm [(1, .call [(true, .any)] true (Bv false)), (6, .dec false)] [5, 6, 7, 8, 11, 28, 29, 30, 58] [5] [Con Tryz.prog 126 [.agg [Zaq false ((at_ ik.Strokes (0 + t30.toNat)).Points)]] true (Bv false) ∧ True, _] hB ⟨⟨(Zap h3 (Zmw (at_ ik.Strokes (0 + t30.toNat)) (by first | assumption | exact Zdc ok _ om))), trivial⟩, h4, trivial⟩ ?_
    refine Zaa ?_
    refine Zbj ?_
    refine Zas ?_
    refine Zba 1 ?_
    refine Zaa ?_
    refine Zdg [] [5, 6, 7, 28, 29, 30] [5] [.ref 5 0, I home, I most, .sl false 1 (stroke.toNat - 0) (Zln 0 (Zbl false ik.Strokes)), I ((stroke.toNat - 0 : Nat) : Int), I (t30 + 1)] [some (Zef (Zby (at_ ik.Strokes stroke.toNat).Points (at_ ik.Strokes stroke.toNat).Points.length))] [inR .i64 (t30 + 1)] hB ⟨(Zac om om), trivial⟩ ?_
    exact Zbf _ om ⟨home, most, (t30 + 1), rfl, om, (by rw [hgn]; first | exact hg0 | exact ⟨rfl, by unfold Zrf; rw [hz]⟩), om, rfl⟩
   have hie : t30.toNat = stroke.toNat := by omega
   refine Zbm [(0, .dec false)] [5, 6, 7, 28, 29, 30, 31] [5] [_] hB ⟨h2, trivial⟩ ?_
   refine Zaa ?_
   refine Zah ?_
   refine Zbj ?_
   refine Zcj ?_
   refine Zal ?_
   refine Zal ?_
   refine Zaw ?_
   refine Zaa ?_
   refine aR [] [4] [] [I home] [] [] hB trivial ?_
   refine Zam ?_
   refine Zan hB (I home) (by kernel_rfl) (.inl (by first | (rw [Zdh, if_pos (by assumption), ← hie]; exact congrArg I hg0.1) | (simp [Zdh, *]; done))) rfl (fun _ => trivial)
  refine Zbm [(5, .call [(true, .any)] true (Bv false))] [1, 2, 18] [2] [(0 : Int) ≤ stroke ∧ stroke < (ik.Strokes.length : Int), Con Tryz.prog 126 [.agg [Zaq false ((at_ ik.Strokes stroke.toNat).Points)]] true (Bv false) ∧ True] hB ⟨⟨om, om⟩, ⟨(Zap h1 (Zmw (at_ ik.Strokes stroke.toNat) (by first | assumption | exact Zdc ok _ om))), trivial⟩, trivial⟩ ?_
  refine Zaa ?_
  refine Zbq ?_
  refine aR [] [4] [] [I (-1)] [] [] hB trivial ?_
  refine Zam ?_
  refine Zak ?_
  refine Zan hB (I (-1)) (by kernel_rfl) (.inl (by first | (rw [Zdh, if_pos (by assumption), ← hie]; exact congrArg I hg0.1) | (simp [Zdh, *]; done))) rfl (fun _ => trivial)
theorem Yec (ik : Ink) (ok : Zbp ik = true) : ∃ (order : List Int), (order = Yaw ik.Strokes) ∧ Zbb Tryz.prog 45 [.agg [Zae false ik.Strokes]] (Zaf []) false (.arr 8301) (Zaf [(8301, tAI order)]) := by
  have hil := Zgp ok
  have hh : ∃ r : (List Int), ((r = Yaw ik.Strokes) ∧ (True)) ∧ Zbb Tryz.prog 45 [.agg [Zae false ik.Strokes]] (Zaf []) false (.arr 8301) (Zaf [(8301, tAI r)]) := by
    refine Zdv (Φ := fun r : (List Int) => (r = Yaw ik.Strokes) ∧ (True)) [] (fun r => [(8301, tAI r)]) (fn := Tryz.f45) (nt := 58) Tryz.func45 rfl rfl (args := [.agg [Zae false ik.Strokes]]) rfl (Zbd (.inl ⟨rfl, by simp [Zaj, Zag, Zck]⟩) Zdp) (res := fun r => .arr 8301) ?_
    refine xQ [(0, .new 1)] [1] [1] [] trivial ?_
    refine xQ [(3, .new 12)] [1, 3] [1, 12] [(0 : Int) ≤ (ik.Strokes.length : Int) ∧ ((ik.Strokes.length : Int) : Int) ≤ (ik.Strokes.length : Int) ∧ (8 : Int) * (ik.Strokes.length : Int) ≤ 281474976710656 ∧ (ik.Strokes.length : Int) ≤ 9223372036854775807] ⟨⟨om, om, om, om⟩, trivial⟩ ?_
    refine Zat ?_
    refine xR [] [1, 3, 15, 16] [1, 12] [.ref 1 0, .arr 12, I (ik.Strokes.length : Int), I 0] [some (.box [Zae false ik.Strokes]), some (.arr 1 ((ik.Strokes.length : Int).toNat) (fun _ => [I 0]))] [] trivial ?_
    refine Zbn ?_
    refine Zcw [] (T := [(1, .ref 1 0), (3, .arr 12), (15, I (ik.Strokes.length : Int)), (16, I 0)]) (O := [(1, .box [Zae false ik.Strokes]), (12, tAI (List.replicate ((ik.Strokes.length : Int).toNat) (0 : Int)))]) rfl (⟨.inl rfl, .inl rfl, .inl rfl, .inl rfl, trivial⟩) (⟨.inl rfl, .inr ⟨rfl, (by first | rfl | (simp; done) | (simp; omega) | omega), fun i_ hi_ => .inl (Zpp (enc := cI) rfl i_ hi_)⟩, trivial⟩) ?_
    refine Zeb (X := Int × (List Int)) (fun x => mkS [(1, .ref 1 0), (3, .arr 12), (15, I (ik.Strokes.length : Int)), (16, I x.1)] [(1, .box [Zae false ik.Strokes]), (12, tAI x.2)]) (fun x => (0 ≤ x.1 ∧ x.1 ≤ (ik.Strokes.length : Int)) ∧ (x.2.length = ik.Strokes.length) ∧ (∀ j : Nat, (j : Int) < x.1 → at_ x.2 j = Zdh ik.Strokes j) ∧ True) (fun x => ((ik.Strokes.length : Int) - x.1).toNat) (0, (List.replicate ((ik.Strokes.length : Int).toNat) (0 : Int))) rfl (show (0 ≤ (0 : Int) ∧ (0 : Int) ≤ (ik.Strokes.length : Int)) ∧ ((List.replicate ((ik.Strokes.length : Int).toNat) (0 : Int)).length = ik.Strokes.length) ∧ (∀ j : Nat, (j : Int) < (0 : Int) → at_ (List.replicate ((ik.Strokes.length : Int).toNat) (0 : Int)) j = Zdh ik.Strokes j) ∧ True from ⟨om, (by simp), (by intro j hj; omega), trivial⟩) (fun x hI => ?_)
    obtain ⟨t16, homes⟩ := x
    obtain ⟨hi0, hl0, hh0, _⟩ : (0 ≤ t16 ∧ t16 ≤ (ik.Strokes.length : Int)) ∧ (homes.length = ik.Strokes.length) ∧ (∀ j : Nat, (j : Int) < t16 → at_ homes j = Zdh ik.Strokes j) ∧ True := hI
    show XW _ _ _ _ (mkS [(1, .ref 1 0), (3, .arr 12), (15, I (ik.Strokes.length : Int)), (16, I t16)] [(1, .box [Zae false ik.Strokes]), (12, tAI homes)]) _ _
    refine Zat ?_
    by_cases h1 : t16 < (ik.Strokes.length : Int)
    ·have hi : t16.toNat < ik.Strokes.length := by omega
     have hix : t16.toNat < homes.length := by omega
     refine x_q [(0, .dec true)] [1, 3, 15, 16, 17] [1, 12] [_] ⟨h1, trivial⟩ ?_
     refine Zad ?_
     refine Zat ?_
     refine Zfl ?_
     refine Zbv ?_
     refine Zad ?_
     refine Zat ?_
     refine Zbn ?_
     refine xQ [] [1, 3, 4, 15, 16] [1, 12] [] trivial ?_
     refine x_r [(4, .call [(true, .any), (true, .any)] true (I (Zdh ik.Strokes t16.toNat)))] [1, 3, 15, 16] [1, 12] [.ref 1 0, .arr 12, I (ik.Strokes.length : Int), I t16] [some (.box [Zae false ik.Strokes]), some (.arr 1 homes.length (fun q => bif Nat.beq q t16.toNat then [I (Zdh ik.Strokes t16.toNat)] else (fI homes) q))] [_ ∧ True, (0 : Int) ≤ t16 ∧ t16 < (homes.length : Int), t16.toNat < homes.length] ⟨⟨(Yhx ik t16 ok om), trivial⟩, ⟨om, om⟩, om, trivial⟩ ?_
     refine Zbo 1 ?_
     refine Zad ?_
     refine Zcw [] (T := [(1, .ref 1 0), (3, .arr 12), (15, I (ik.Strokes.length : Int)), (16, I t16)]) (O := [(1, .box [Zae false ik.Strokes]), (12, tAI (homes.set t16.toNat (Zdh ik.Strokes t16.toNat)))]) rfl (⟨.inl rfl, .inl rfl, .inl rfl, .inl rfl, trivial⟩) (⟨.inl rfl, .inr ⟨rfl, (by first | rfl | (simp; done) | (simp; omega) | omega), fun i_ hi_ => .inl (Zpq (enc := cI) rfl i_ hi_)⟩, trivial⟩) ?_
     refine x_r [] [1, 3, 15, 16] [1, 12] [.ref 1 0, .arr 12, I (ik.Strokes.length : Int), I (t16 + 1)] [some (.box [Zae false ik.Strokes]), some (tAI (homes.set t16.toNat (Zdh ik.Strokes t16.toNat)))] [inR .i64 (t16 + 1)] ⟨(Zac om om), trivial⟩ ?_
     exact Zbh ((t16 + 1), (homes.set t16.toNat (Zdh ik.Strokes t16.toNat))) rfl (show (0 ≤ (t16 + 1) ∧ (t16 + 1) ≤ (ik.Strokes.length : Int)) ∧ ((homes.set t16.toNat (Zdh ik.Strokes t16.toNat)).length = ik.Strokes.length) ∧ (∀ j : Nat, (j : Int) < (t16 + 1) → at_ (homes.set t16.toNat (Zdh ik.Strokes t16.toNat)) j = Zdh ik.Strokes j) ∧ True from ⟨om, (by simp; omega), (by exact set_next hi0.1 om hh0 rfl), trivial⟩) (by first | (show (((ik.Strokes.length : Int) - (t16 + 1)).toNat : Nat) < ((ik.Strokes.length : Int) - t16).toNat; omega) | (dsimp only; omega))
    have hfin : homes = Zaz ik.Strokes := Zvy hl0 (fun j hj => hh0 j om)
    subst hfin
    refine x_r [(0, .dec false)] [1, 3, 15, 16, 17] [1, 12] [.ref 1 0, .arr 12, I (ik.Strokes.length : Int), I t16, Bv false] [some (.box [Zae false ik.Strokes]), some (tAI (Zaz ik.Strokes))] [_] ⟨h1, trivial⟩ ?_
    refine Zad ?_
    refine Zat ?_
    refine Zcd rfl ?_
    refine Zde ?_
    refine Zax ?_
    refine Zbe ?_
    refine Zay ?_
    refine Zad ?_
    refine xQ [] [1, 3, 5] [1, 12] [] trivial ?_
    refine Zat ?_
    refine xR [] [3, 5, 28, 29] [12] [.arr 12, Zcr, I (ik.Strokes.length : Int), I 0] [some (tAI (Zaz ik.Strokes))] [] trivial ?_
    refine Zbn ?_
    refine Yfk 5 705 1 (fun _ => []) (by kernel_rfl) ?_
    refine Zcw [] (T := [(3, slI true (Zaz ik.Strokes)), (5, .arr 705), (28, I (ik.Strokes.length : Int)), (29, I 0)]) (O := [(705, tAI ([] : List Int))]) rfl (⟨.inr ⟨(fun _ => rfl), rfl, rfl, fun i _ => .inl rfl⟩, .inl rfl, .inl rfl, .inl rfl, trivial⟩) (⟨.inr ⟨rfl, (by first | rfl | (simp; done) | (simp; omega) | omega), fun i_ hi_ => absurd hi_ (Nat.not_lt_zero _)⟩, trivial⟩) ?_
    refine Zeb (X := (List Int) × Int) (fun x => mkS [(3, slI true (Zaz ik.Strokes)), (5, .arr 705), (28, I (ik.Strokes.length : Int)), (29, I x.2)] [(705, tAI x.1)]) (fun x => (0 ≤ x.2 ∧ x.2 ≤ (ik.Strokes.length : Int)) ∧ (x.1 = Zjj (Zaz ik.Strokes) x.2.toNat) ∧ True) (fun x => ((ik.Strokes.length : Int) - x.2).toNat) (([] : List Int), 0) rfl (show (0 ≤ (0 : Int) ∧ (0 : Int) ≤ (ik.Strokes.length : Int)) ∧ (([] : List Int) = Zjj (Zaz ik.Strokes) (0 : Int).toNat) ∧ True from ⟨om, (by rfl), trivial⟩) (fun x hI => ?_)
    obtain ⟨order, t29⟩ := x
    obtain ⟨hi1, ho1, _⟩ : (0 ≤ t29 ∧ t29 ≤ (ik.Strokes.length : Int)) ∧ (order = Zjj (Zaz ik.Strokes) t29.toNat) ∧ True := hI
    show XW _ _ _ _ (mkS [(3, slI true (Zaz ik.Strokes)), (5, .arr 705), (28, I (ik.Strokes.length : Int)), (29, I t29)] [(705, tAI order)]) _ _
    refine Zat ?_
    by_cases h2 : t29 < (ik.Strokes.length : Int)
    ·have hi : t29.toNat < ik.Strokes.length := by omega
     have hol := Zte (Zaz ik.Strokes) t29.toNat
     rw [Zep] at hol
     have hlb := Nat.mul_le_mul (show t29.toNat ≤ 16 by omega) (show ik.Strokes.length + 1 ≤ 17 by omega)
     have hrl := Zmj (Zaz ik.Strokes) t29.toNat ik.Strokes.length
     have hhl := Zep ik.Strokes
     have holn : order.length = (Zjj (Zaz ik.Strokes) t29.toNat).length := by rw [ho1]
     refine x_q [(0, .dec true)] [3, 5, 28, 29, 30] [705] [_] ⟨h2, trivial⟩ ?_
     refine Zad ?_
     refine Zat ?_
     refine Zfl ?_
     refine Zbv ?_
     refine Zad ?_
     refine Zat ?_
     refine Zbn ?_
     refine xQ [] [3, 5, 6, 28, 29] [705] [] trivial ?_
     refine Zat ?_
     refine Zat ?_
     by_cases h3 : 0 ≤ (at_ (Zaz ik.Strokes) t29.toNat)
     ·refine x_q [(4, .dec true)] [3, 5, 6, 28, 29, 36] [705] [(0 : Int) ≤ t29 ∧ t29 < (((Zaz ik.Strokes).length) : Int), _] ⟨⟨om, om⟩, h3, trivial⟩ ?_
      refine Zad ?_
      refine Zfl ?_
      refine Zde ?_
      refine Zax ?_
      refine Zay ?_
      refine Zad ?_
      refine x_r [] [3, 5, 28, 29] [705] [slI true (Zaz ik.Strokes), .arr 705, I (ik.Strokes.length : Int), I (t29 + 1)] [some (tAI order)] [inR .i64 (t29 + 1)] ⟨(Zac om om), trivial⟩ ?_
      exact Zbh (order, (t29 + 1)) rfl (show (0 ≤ (t29 + 1) ∧ (t29 + 1) ≤ (ik.Strokes.length : Int)) ∧ (order = Zjj (Zaz ik.Strokes) (t29 + 1).toNat) ∧ True from ⟨om, (by first | (rw [Ztf hi1.1 om]; exact ho1) | (rw [Zov hi1.1 (Zep _).symm om, ho2, hie])), trivial⟩) (by first | (show (((ik.Strokes.length : Int) - (t29 + 1)).toNat : Nat) < ((ik.Strokes.length : Int) - t29).toNat; omega) | (dsimp only; omega))
     refine x_q [(4, .dec false)] [3, 5, 6, 28, 29, 36] [705] [(0 : Int) ≤ t29 ∧ t29 < (((Zaz ik.Strokes).length) : Int), _] ⟨⟨om, om⟩, h3, trivial⟩ ?_
     refine Zad ?_
     refine Zkr ?_
     refine Zbv ?_
     refine Zad ?_
     refine xQ [(2, .new 39), (3, .new 40)] [3, 5, 6, 28, 29] [40] [(order.length + 1) * 8 ≤ 140737488355328] ⟨om, trivial⟩ ?_
     refine xR [] [3, 5, 6, 28, 29, 41, 42, 43] [40] [slI true (Zaz ik.Strokes), .arr 40, I t29, I (ik.Strokes.length : Int), I t29, slI true (Zaz ik.Strokes), I (((Zaz ik.Strokes).length) : Int), I 0] [some (.arr 1 (order.length + 1) (Zgb order.length (fI order) (Zgm [I t29] 1)))] [] trivial ?_
     refine Zbn ?_
     refine Zcw [] (T := [(3, slI true (Zaz ik.Strokes)), (5, .arr 40), (6, I t29), (28, I (ik.Strokes.length : Int)), (29, I t29), (41, slI true (Zaz ik.Strokes)), (42, I (((Zaz ik.Strokes).length) : Int)), (43, I 0)]) (O := [(40, tAI (order ++ [t29]))]) rfl (⟨.inl rfl, .inl rfl, .inl rfl, .inl rfl, .inl rfl, .inl rfl, .inl rfl, .inl rfl, trivial⟩) (⟨.inr ⟨rfl, (by first | rfl | (simp; done) | (simp; omega) | omega), fun i_ hi_ => .inl (Zcm (enc := cI) (xs := order) rfl i_ hi_)⟩, trivial⟩) ?_
     refine Zeb (X := (List Int) × Int) (fun x => mkS [(3, slI true (Zaz ik.Strokes)), (5, .arr 40), (6, I t29), (28, I (ik.Strokes.length : Int)), (29, I t29), (41, slI true (Zaz ik.Strokes)), (42, I (((Zaz ik.Strokes).length) : Int)), (43, I x.2)] [(40, tAI x.1)]) (fun x => (0 ≤ x.2 ∧ x.2 ≤ (ik.Strokes.length : Int)) ∧ (x.1 = (Zjj (Zaz ik.Strokes) t29.toNat ++ [t29]) ++ Zpn (Zaz ik.Strokes) t29.toNat x.2.toNat) ∧ True) (fun x => ((ik.Strokes.length : Int) - x.2).toNat) ((order ++ [t29]), 0) rfl (show (0 ≤ (0 : Int) ∧ (0 : Int) ≤ (ik.Strokes.length : Int)) ∧ ((order ++ [t29]) = (Zjj (Zaz ik.Strokes) t29.toNat ++ [t29]) ++ Zpn (Zaz ik.Strokes) t29.toNat (0 : Int).toNat) ∧ True from ⟨om, (by rw [ho1]; exact (List.append_nil _).symm), trivial⟩) (fun x hI => ?_)
     obtain ⟨order', t43⟩ := x
     obtain ⟨hi2, ho2, _⟩ : (0 ≤ t43 ∧ t43 ≤ (ik.Strokes.length : Int)) ∧ (order' = (Zjj (Zaz ik.Strokes) t29.toNat ++ [t29]) ++ Zpn (Zaz ik.Strokes) t29.toNat t43.toNat) ∧ True := hI
     show XW _ _ _ _ (mkS [(3, slI true (Zaz ik.Strokes)), (5, .arr 40), (6, I t29), (28, I (ik.Strokes.length : Int)), (29, I t29), (41, slI true (Zaz ik.Strokes)), (42, I (((Zaz ik.Strokes).length) : Int)), (43, I t43)] [(40, tAI order')]) _ _
     refine Zat ?_
     by_cases h4 : t43 < (((Zaz ik.Strokes).length) : Int)
     ·have hi2x : t43.toNat < ik.Strokes.length := by omega
      have hrp := Zmj (Zaz ik.Strokes) t29.toNat t43.toNat
      have hon := congrArg List.length ho2
      simp only [List.length_append, List.length_cons, List.length_nil] at hon
      refine x_q [(0, .dec true)] [3, 5, 6, 28, 29, 41, 42, 43, 44] [40] [_] ⟨h4, trivial⟩ ?_
      refine Zad ?_
      refine Zat ?_
      refine Zfl ?_
      refine Zbv ?_
      refine Zad ?_
      refine Zat ?_
      refine Zbn ?_
      refine xQ [] [3, 5, 6, 7, 8, 28, 29, 41, 42, 43] [40] [(0 : Int) ≤ t43 ∧ t43 < (((Zaz ik.Strokes).length) : Int)] ⟨⟨om, om⟩, trivial⟩ ?_
      refine Zat ?_
      by_cases h5 : (at_ (Zaz ik.Strokes) t43.toNat) = t29
      ·refine x_q [(2, .dec true)] [3, 5, 6, 7, 28, 29, 41, 42, 43, 50] [40] [_] ⟨h5, trivial⟩ ?_
       refine Zad ?_
       refine Zfl ?_
       refine x_q [(2, .new 53), (3, .new 54)] [3, 5, 6, 28, 29, 41, 42, 43] [54] [(order'.length + 1) * 8 ≤ 140737488355328] ⟨om, trivial⟩ ?_
       refine Zbo 5 ?_
       refine Zad ?_
       refine x_r [] [3, 5, 6, 28, 29, 41, 42, 43] [54] [slI true (Zaz ik.Strokes), .arr 54, I t29, I (ik.Strokes.length : Int), I t29, slI true (Zaz ik.Strokes), I (((Zaz ik.Strokes).length) : Int), I (t43 + 1)] [some (.arr 1 (order'.length + 1) (Zgb order'.length (fI order') (Zgm [I t43] 1)))] [inR .i64 (t43 + 1)] ⟨(Zac om om), trivial⟩ ?_
       refine Zcl [(40, 54)] (T := [(3, slI true (Zaz ik.Strokes)), (5, .arr 40), (6, I t29), (28, I (ik.Strokes.length : Int)), (29, I t29), (41, slI true (Zaz ik.Strokes)), (42, I (((Zaz ik.Strokes).length) : Int)), (43, I (t43 + 1))]) (O := [(40, tAI (order' ++ [t43]))]) rfl (⟨.inl rfl, .inl rfl, .inl rfl, .inl rfl, .inl rfl, .inl rfl, .inl rfl, .inl rfl, trivial⟩) (⟨.inr ⟨rfl, (by first | rfl | (simp; done) | (simp; omega) | omega), fun i_ hi_ => .inl (Zcm (enc := cI) (xs := order') rfl i_ hi_)⟩, trivial⟩) (Zbh ((order' ++ [t43]), (t43 + 1)) rfl (show (0 ≤ (t43 + 1) ∧ (t43 + 1) ≤ (ik.Strokes.length : Int)) ∧ ((order' ++ [t43]) = (Zjj (Zaz ik.Strokes) t29.toNat ++ [t29]) ++ Zpn (Zaz ik.Strokes) t29.toNat (t43 + 1).toNat) ∧ True from ⟨om, (by first | (rw [Zow hi2.1 hi1.1 om, ← List.append_assoc, ← ho2]; done) | (rw [Ztg hi2.1 hi1.1 om]; exact ho2)), trivial⟩) (by first | (show (((ik.Strokes.length : Int) - (t43 + 1)).toNat : Nat) < ((ik.Strokes.length : Int) - t43).toNat; omega) | (dsimp only; omega)))
      refine x_q [(2, .dec false)] [3, 5, 6, 7, 28, 29, 41, 42, 43, 50] [40] [_] ⟨h5, trivial⟩ ?_
      refine Zad ?_
      refine Zkr ?_
      refine Zbv ?_
      refine Zbo 5 ?_
      refine Zad ?_
      refine x_r [] [3, 5, 6, 28, 29, 41, 42, 43] [40] [slI true (Zaz ik.Strokes), .arr 40, I t29, I (ik.Strokes.length : Int), I t29, slI true (Zaz ik.Strokes), I (((Zaz ik.Strokes).length) : Int), I (t43 + 1)] [some (tAI order')] [inR .i64 (t43 + 1)] ⟨(Zac om om), trivial⟩ ?_
      exact Zbh (order', (t43 + 1)) rfl (show (0 ≤ (t43 + 1) ∧ (t43 + 1) ≤ (ik.Strokes.length : Int)) ∧ (order' = (Zjj (Zaz ik.Strokes) t29.toNat ++ [t29]) ++ Zpn (Zaz ik.Strokes) t29.toNat (t43 + 1).toNat) ∧ True from ⟨om, (by first | (rw [Zow hi2.1 hi1.1 om, ← List.append_assoc, ← ho2]; done) | (rw [Ztg hi2.1 hi1.1 om]; exact ho2)), trivial⟩) (by first | (show (((ik.Strokes.length : Int) - (t43 + 1)).toNat : Nat) < ((ik.Strokes.length : Int) - t43).toNat; omega) | (dsimp only; omega))
     have hie : t43.toNat = ik.Strokes.length := by omega
     refine x_r [(0, .dec false)] [3, 5, 6, 28, 29, 41, 42, 43, 44] [40] [slI true (Zaz ik.Strokes), .arr 40, I t29, I (ik.Strokes.length : Int), I t29, slI true (Zaz ik.Strokes), I (((Zaz ik.Strokes).length) : Int), I t43, Bv false] [some (tAI order')] [_] ⟨h4, trivial⟩ ?_
     refine Zad ?_
     refine Zat ?_
     refine Zcd rfl ?_
     refine Zde ?_
     refine Zax ?_
     refine Zbe ?_
     refine Zay ?_
     refine Zbo 3 ?_
     refine Zad ?_
     refine x_r [] [3, 5, 28, 29] [40] [slI true (Zaz ik.Strokes), .arr 40, I (ik.Strokes.length : Int), I (t29 + 1)] [some (tAI order')] [inR .i64 (t29 + 1)] ⟨(Zac om om), trivial⟩ ?_
     refine Zcl [(705, 40)] (T := [(3, slI true (Zaz ik.Strokes)), (5, .arr 705), (28, I (ik.Strokes.length : Int)), (29, I (t29 + 1))]) (O := [(705, tAI order')]) rfl (⟨.inl rfl, .inl rfl, .inl rfl, .inl rfl, trivial⟩) (⟨.inl rfl, trivial⟩) (Zbh (order', (t29 + 1)) rfl (show (0 ≤ (t29 + 1) ∧ (t29 + 1) ≤ (ik.Strokes.length : Int)) ∧ (order' = Zjj (Zaz ik.Strokes) (t29 + 1).toNat) ∧ True from ⟨om, (by first | (rw [Ztf hi1.1 om]; exact ho1) | (rw [Zov hi1.1 (Zep _).symm om, ho2, hie])), trivial⟩) (by first | (show (((ik.Strokes.length : Int) - (t29 + 1)).toNat : Nat) < ((ik.Strokes.length : Int) - t29).toNat; omega) | (dsimp only; omega)))
    have hie : t29.toNat = ik.Strokes.length := by omega
    refine x_r [(0, .dec false)] [3, 5, 28, 29, 30] [705] [slI true (Zaz ik.Strokes), .arr 705, I (ik.Strokes.length : Int), I t29, Bv false] [some (tAI order)] [_] ⟨h2, trivial⟩ ?_
    refine Zad ?_
    refine Zat ?_
    refine Zcd rfl ?_
    refine Zde ?_
    refine Zax ?_
    refine Zbe ?_
    refine Zay ?_
    refine Zad ?_
    refine xR [] [2] [705] [.arr 705] [some (tAI order)] [] trivial ?_
    refine Zem ?_
    refine Zcl [(8301, 705)] (T := [(2, .arr 8301)]) (O := [(8301, tAI order)]) rfl (⟨.inl rfl, trivial⟩) (⟨.inl rfl, trivial⟩) ?_
    refine Zcz order (show (order = Yaw ik.Strokes) ∧ (True) from ⟨(by rw [ho1, hie]; rfl), trivial⟩) (⟨.inl rfl, trivial⟩) (.arr 8301) (by kernel_rfl) (.inl rfl) (fun h => by cases h) (fun h => by cases h)
  obtain ⟨order, ⟨hh0, _⟩, hc⟩ := hh
  exact ⟨order, hh0, hc⟩
theorem copy1_ok (p : Point) : Con Tryz.prog 86 [Zct p] true (Zct p) := by
 refine Zbu (fn := Tryz.f86) (nt := 4) Tryz.func86 rfl rfl rfl rfl (by simp [Zag, Zaj]) fun B hB => ?_
 refine aQ [(0, .new 1), (1, .new 2)] [1, 2] [1, 2] [] hB trivial ?_
 refine aR [] [2] [2] [.ref 2 0] [some (Yad p)] [] hB trivial ?_
 refine Zam ?_
 refine Zan hB (Zct p) (by kernel_rfl) (.inl rfl) rfl (fun _ => (by simp [Zaj, Zag]))
theorem mp_id (x : Ink) : mpI (fun p => p) x = x := by
 have e : (mpS fun p => p) = id := funext fun s => by cases s; simp [mpS]
 rw [mpI, e]; simp
theorem Yae (ik : Ink) (hx : ∀ s ∈ ik.Strokes, Zar s = true) (hl : ik.Strokes.length ≤ 16)  : ∃ (v : Ink), (v = mpI (fun p => p) ik) ∧ Con Tryz.prog 85 [.agg [Zae false ik.Strokes], .fn 86 []] true (.agg [Zae true v.Strokes]) := by
  have hh : ∃ r : Ink, ((r = mpI (fun p => p) ik) ∧ (True)) ∧ Zbb Tryz.prog 85 [.agg [Zae false ik.Strokes], .fn 86 []] (Zaf []) true (.agg [Zae true r.Strokes]) (Zaf []) := by
    refine Zdv (Φ := fun r : Ink => (r = mpI (fun p => p) ik) ∧ (True)) [] (fun r => []) (fn := Tryz.f85) (nt := 42) Tryz.func85 rfl rfl (args := [.agg [Zae false ik.Strokes], .fn 86 []]) rfl (Zbd (.inl ⟨rfl, by simp [Zaj, Zag, Zck]⟩) (Zbd (.inl ⟨rfl, trivial⟩) Zdp)) (res := fun r => .agg [Zae true r.Strokes]) ?_
    refine xQ [(0, .new 2), (1, .new 4)] [1, 2, 4] [2, 4] [] trivial ?_
    refine xQ [(0, .new 5)] [1, 2, 4, 5] [2, 4, 5] [] trivial ?_
    refine Zat ?_
    refine xR [] [1, 4, 5, 12, 13, 14] [4, 5] [.fn 86 [], .ref 4 0, .ref 5 0, Zae false ik.Strokes, I (ik.Strokes.length : Int), I 0] [some (.box [Zcr]), some (.box [Zcr])] [] trivial ?_
    refine Zbn ?_
    refine Zmk 5 0 750 1 (fun _ => []) rfl (by kernel_rfl) ?_
    refine x_fam 8062 3 (fun _ => 0) (fun _ _ => []) (by kernel_rfl) ?_
    refine Zcw [] (T := [(1, .fn 86 []), (4, .ref 4 0), (5, .ref 5 0), (12, Zae false ik.Strokes), (13, I (ik.Strokes.length : Int)), (14, I 0)]) (O := [(4, .box [Zcr]), (5, .box [.arr 750]), (750, Zbk 8062 ([] : List Stroke)), (8062, Zbg ([] : List Stroke))]) rfl (⟨.inl rfl, .inl rfl, .inl rfl, .inl rfl, .inl rfl, .inl rfl, trivial⟩) (⟨.inl rfl, .inl rfl, .inr ⟨rfl, rfl, fun i hi => absurd hi (Nat.not_lt_zero _)⟩, .inr ⟨rfl, rfl, fun p hp => absurd hp (Nat.not_lt_zero _)⟩, trivial⟩) ?_
    refine Zeb (X := Int × (List Stroke)) (fun x => mkS [(1, .fn 86 []), (4, .ref 4 0), (5, .ref 5 0), (12, Zae false ik.Strokes), (13, I (ik.Strokes.length : Int)), (14, I x.1)] [(4, .box [Zcr]), (5, .box [.arr 750]), (750, Zbk 8062 x.2), (8062, Zbg x.2)]) (fun x => (0 ≤ x.1 ∧ x.1 ≤ (ik.Strokes.length : Int)) ∧ ((x.2.length : Int) = x.1) ∧ (x.2 = (ik.Strokes.take x.1.toNat).map (mpS (fun p => p))) ∧ True) (fun x => ((ik.Strokes.length : Int) - x.1).toNat) (0, ([] : List Stroke)) rfl (show (0 ≤ (0 : Int) ∧ (0 : Int) ≤ (ik.Strokes.length : Int)) ∧ ((([] : List Stroke).length : Int) = (0 : Int)) ∧ (([] : List Stroke) = (ik.Strokes.take (0 : Int).toNat).map (mpS (fun p => p))) ∧ True from ⟨om, (by rfl), (by rfl), trivial⟩) (fun x hI => ?_)
    obtain ⟨t14, ss⟩ := x
    obtain ⟨hi0, hl0, hs0, _⟩ : (0 ≤ t14 ∧ t14 ≤ (ik.Strokes.length : Int)) ∧ ((ss.length : Int) = t14) ∧ (ss = (ik.Strokes.take t14.toNat).map (mpS (fun p => p))) ∧ True := hI
    show XW _ _ _ _ (mkS [(1, .fn 86 []), (4, .ref 4 0), (5, .ref 5 0), (12, Zae false ik.Strokes), (13, I (ik.Strokes.length : Int)), (14, I t14)] [(4, .box [Zcr]), (5, .box [.arr 750]), (750, Zbk 8062 ss), (8062, Zbg ss)]) _ _
    refine Zat ?_
    by_cases h1 : t14 < (ik.Strokes.length : Int)
    ·have hi : t14.toNat < ik.Strokes.length := by omega
     have hos := hx _ (Zdf hi)
     have hol := Zeo hos
     refine x_q [(0, .dec true)] [1, 4, 5, 12, 13, 14, 15] [4, 5, 750, 8062] [_] ⟨h1, trivial⟩ ?_
     refine Zad ?_
     refine Zat ?_
     refine Zfl ?_
     refine Zbv ?_
     refine Zad ?_
     refine Zat ?_
     refine Zbn ?_
     refine xQ [(2, .new 7)] [1, 4, 5, 7, 12, 13, 14] [4, 5, 7, 750, 8062] [(0 : Int) ≤ t14 ∧ t14 < (ik.Strokes.length : Int)] ⟨⟨om, om⟩, trivial⟩ ?_
     refine xQ [(0, .new 8)] [1, 4, 5, 7, 8, 12, 13, 14] [4, 5, 7, 8, 750, 8062] [] trivial ?_
     refine Zat ?_
     refine xR [] [1, 4, 5, 8, 12, 13, 14, 19, 20, 21] [4, 5, 8, 750, 8062] [.fn 86 [], .ref 4 0, .ref 5 0, .ref 8 0, Zae false ik.Strokes, I (ik.Strokes.length : Int), I t14, Zaq false ((at_ ik.Strokes t14.toNat).Points), I ((((at_ ik.Strokes t14.toNat).Points).length) : Int), I 0] [some (.box [Zcr]), some (.box [.arr 750]), some (.box [Zcr]), some (Zbk 8062 ss), some (Zbg ss)] [] trivial ?_
     refine Zbn ?_
     refine Zmk 8 0 780 3 (fun _ => []) rfl (by kernel_rfl) ?_
     refine Zcw [] (T := [(1, .fn 86 []), (4, .ref 4 0), (5, .ref 5 0), (8, .ref 8 0), (12, Zae false ik.Strokes), (13, I (ik.Strokes.length : Int)), (14, I t14), (19, Zaq false ((at_ ik.Strokes t14.toNat).Points)), (20, I ((((at_ ik.Strokes t14.toNat).Points).length) : Int)), (21, I 0)]) (O := [(4, .box [Zcr]), (5, .box [.arr 750]), (8, .box [.arr 780]), (750, Zbk 8062 ss), (780, Zdd ([] : List Point)), (8062, Zbg ss)]) rfl (⟨.inl rfl, .inl rfl, .inl rfl, .inl rfl, .inl rfl, .inl rfl, .inl rfl, .inl rfl, .inl rfl, .inl rfl, trivial⟩) (⟨.inl rfl, .inl rfl, .inl rfl, .inl rfl, .inr ⟨rfl, (by first | rfl | (simp; done) | (simp; omega) | omega), fun i_ hi_ => absurd hi_ (Nat.not_lt_zero _)⟩, .inl rfl, trivial⟩) ?_
     refine Zeb (X := Int × (List Point)) (fun x => mkS [(1, .fn 86 []), (4, .ref 4 0), (5, .ref 5 0), (8, .ref 8 0), (12, Zae false ik.Strokes), (13, I (ik.Strokes.length : Int)), (14, I t14), (19, Zaq false ((at_ ik.Strokes t14.toNat).Points)), (20, I ((((at_ ik.Strokes t14.toNat).Points).length) : Int)), (21, I x.1)] [(4, .box [Zcr]), (5, .box [.arr 750]), (8, .box [.arr 780]), (750, Zbk 8062 ss), (780, Zdd x.2), (8062, Zbg ss)]) (fun x => (0 ≤ x.1 ∧ x.1 ≤ ((at_ ik.Strokes t14.toNat).Points.length : Int)) ∧ ((x.2.length : Int) = x.1) ∧ (x.2 = ((at_ ik.Strokes t14.toNat).Points.take x.1.toNat).map (fun p => p)) ∧ True) (fun x => (((at_ ik.Strokes t14.toNat).Points.length : Int) - x.1).toNat) (0, ([] : List Point)) rfl (show (0 ≤ (0 : Int) ∧ (0 : Int) ≤ ((at_ ik.Strokes t14.toNat).Points.length : Int)) ∧ ((([] : List Point).length : Int) = (0 : Int)) ∧ (([] : List Point) = ((at_ ik.Strokes t14.toNat).Points.take (0 : Int).toNat).map (fun p => p)) ∧ True from ⟨om, (by rfl), (by rfl), trivial⟩) (fun x hI => ?_)
     obtain ⟨t21, pts⟩ := x
     obtain ⟨hk0, hm0, hp1, _⟩ : (0 ≤ t21 ∧ t21 ≤ ((at_ ik.Strokes t14.toNat).Points.length : Int)) ∧ ((pts.length : Int) = t21) ∧ (pts = ((at_ ik.Strokes t14.toNat).Points.take t21.toNat).map (fun p => p)) ∧ True := hI
     show XW _ _ _ _ (mkS [(1, .fn 86 []), (4, .ref 4 0), (5, .ref 5 0), (8, .ref 8 0), (12, Zae false ik.Strokes), (13, I (ik.Strokes.length : Int)), (14, I t14), (19, Zaq false ((at_ ik.Strokes t14.toNat).Points)), (20, I ((((at_ ik.Strokes t14.toNat).Points).length) : Int)), (21, I t21)] [(4, .box [Zcr]), (5, .box [.arr 750]), (8, .box [.arr 780]), (750, Zbk 8062 ss), (780, Zdd pts), (8062, Zbg ss)]) _ _
     refine Zat ?_
     by_cases h2 : t21 < ((((at_ ik.Strokes t14.toNat).Points).length) : Int)
     ·have hk : t21.toNat < (at_ ik.Strokes t14.toNat).Points.length := by omega
      have hpo := Zig hos hk
      refine x_q [(0, .dec true)] [1, 4, 5, 8, 12, 13, 14, 19, 20, 21, 22] [4, 5, 8, 750, 780, 8062] [_] ⟨h2, trivial⟩ ?_
      refine Zad ?_
      refine Zat ?_
      refine Zfl ?_
      refine Zbv ?_
      refine Zad ?_
      refine Zat ?_
      refine Zbn ?_
      refine xQ [(2, .new 10)] [1, 4, 5, 8, 10, 12, 13, 14, 19, 20, 21] [4, 5, 8, 10, 750, 780, 8062] [(0 : Int) ≤ t21 ∧ t21 < ((((at_ ik.Strokes t14.toNat).Points).length) : Int)] ⟨⟨om, om⟩, trivial⟩ ?_
      refine x_q [(4, .call [(true, .any)] true (Zct (at_ ((at_ ik.Strokes t14.toNat).Points) t21.toNat))), (5, .new 30), (6, .new 31)] [1, 4, 5, 8, 12, 13, 14, 19, 20, 21] [4, 5, 8, 31, 750, 8062] [_ ∧ True, (pts.length + 1) * 24 ≤ 140737488355328] ⟨⟨(copy1_ok (at_ ((at_ ik.Strokes t14.toNat).Points) t21.toNat)), trivial⟩, om, trivial⟩ ?_
      refine Zbo 3 ?_
      refine Zad ?_
      refine x_r [] [1, 4, 5, 8, 12, 13, 14, 19, 20, 21] [4, 5, 8, 31, 750, 8062] [.fn 86 [], .ref 4 0, .ref 5 0, .ref 8 0, Zae false ik.Strokes, I (ik.Strokes.length : Int), I t14, Zaq false ((at_ ik.Strokes t14.toNat).Points), I ((((at_ ik.Strokes t14.toNat).Points).length) : Int), I (t21 + 1)] [some (.box [Zcr]), some (.box [.arr 750]), some (.box [.arr 31]), some (.arr 3 (pts.length + 1) (Zgb pts.length (Zdl pts) (Zgm [I ((at_ ((at_ ik.Strokes t14.toNat).Points) t21.toNat).X), I ((at_ ((at_ ik.Strokes t14.toNat).Points) t21.toNat).Y), I ((at_ ((at_ ik.Strokes t14.toNat).Points) t21.toNat).T)] 3))), some (Zbk 8062 ss), some (Zbg ss)] [inR .i64 (t21 + 1)] ⟨(Zac om om), trivial⟩ ?_
      refine Zcl [(780, 31)] (T := [(1, .fn 86 []), (4, .ref 4 0), (5, .ref 5 0), (8, .ref 8 0), (12, Zae false ik.Strokes), (13, I (ik.Strokes.length : Int)), (14, I t14), (19, Zaq false ((at_ ik.Strokes t14.toNat).Points)), (20, I ((((at_ ik.Strokes t14.toNat).Points).length) : Int)), (21, I (t21 + 1))]) (O := [(4, .box [Zcr]), (5, .box [.arr 750]), (8, .box [.arr 780]), (750, Zbk 8062 ss), (780, Zdd (pts ++ [(at_ ((at_ ik.Strokes t14.toNat).Points) t21.toNat)])), (8062, Zbg ss)]) rfl (⟨.inl rfl, .inl rfl, .inl rfl, .inl rfl, .inl rfl, .inl rfl, .inl rfl, .inl rfl, .inl rfl, .inl rfl, trivial⟩) (⟨.inl rfl, .inl rfl, .inl rfl, .inl rfl, .inr ⟨rfl, (by first | rfl | (simp; done) | (simp; omega) | omega), fun i_ hi_ => .inl (Zcm (enc := Zee) (xs := pts) rfl i_ hi_)⟩, .inl rfl, trivial⟩) (Zbh ((t21 + 1), (pts ++ [(at_ ((at_ ik.Strokes t14.toNat).Points) t21.toNat)])) rfl (show (0 ≤ (t21 + 1) ∧ (t21 + 1) ≤ ((at_ ik.Strokes t14.toNat).Points.length : Int)) ∧ (((pts ++ [(at_ ((at_ ik.Strokes t14.toNat).Points) t21.toNat)]).length : Int) = (t21 + 1)) ∧ ((pts ++ [(at_ ((at_ ik.Strokes t14.toNat).Points) t21.toNat)]) = ((at_ ik.Strokes t14.toNat).Points.take (t21 + 1).toNat).map (fun p => p)) ∧ True from ⟨om, (by simp; omega), (by rw [hp1]; exact (Zkq om hk rfl).symm), trivial⟩) (by first | (show ((((at_ ik.Strokes t14.toNat).Points.length : Int) - (t21 + 1)).toNat : Nat) < (((at_ ik.Strokes t14.toNat).Points.length : Int) - t21).toNat; omega) | (dsimp only; omega)))
     refine x_r [(0, .dec false)] [1, 4, 5, 8, 12, 13, 14, 19, 20, 21, 22] [4, 5, 8, 750, 780, 8062] [.fn 86 [], .ref 4 0, .ref 5 0, .ref 8 0, Zae false ik.Strokes, I (ik.Strokes.length : Int), I t14, Zaq false ((at_ ik.Strokes t14.toNat).Points), I ((((at_ ik.Strokes t14.toNat).Points).length) : Int), I t21, Bv false] [some (.box [Zcr]), some (.box [.arr 750]), some (.box [.arr 780]), some (Zbk 8062 ss), some (Zdd pts), some (Zbg ss)] [_] ⟨h2, trivial⟩ ?_
     refine Zad ?_
     refine Zat ?_
     refine Zcd rfl ?_
     refine Zde ?_
     refine Zax ?_
     refine Zbe ?_
     refine Zay ?_
     refine Zad ?_
     refine x_q [(3, .new 37), (4, .new 38)] [1, 4, 5, 12, 13, 14] [4, 5, 38, 780, 8062] [(ss.length + 1) * 24 ≤ 140737488355328] ⟨om, trivial⟩ ?_
     refine Zbo 1 ?_
     refine Zad ?_
     refine x_r [] [1, 4, 5, 12, 13, 14] [4, 5, 38, 780, 8062] [.fn 86 [], .ref 4 0, .ref 5 0, Zae false ik.Strokes, I (ik.Strokes.length : Int), I (t14 + 1)] [some (.box [Zcr]), some (.box [.arr 38]), some (.oar [8062, 780] 1 (ss.length + 1) (Zgb ss.length (Zhc 8062 ss) (Zgm [.arr 780] 1))), some (Zdd pts), some (Zbg ss)] [inR .i64 (t14 + 1)] ⟨(Zac om om), trivial⟩ ?_
     refine Zti 780 8062 rfl rfl rfl ?_
     refine Zcl [(750, 38)] (T := [(1, .fn 86 []), (4, .ref 4 0), (5, .ref 5 0), (12, Zae false ik.Strokes), (13, I (ik.Strokes.length : Int)), (14, I (t14 + 1))]) (O := [(4, .box [Zcr]), (5, .box [.arr 750]), (750, Zbk 8062 (ss ++ [(Stroke.mk pts)])), (8062, Zbg (ss ++ [(Stroke.mk pts)]))]) rfl (⟨.inl rfl, .inl rfl, .inl rfl, .inl rfl, .inl rfl, .inl rfl, trivial⟩) (⟨.inl rfl, .inl rfl, .inr ⟨rfl, rfl, (by simp), fun i hi => .inl (Zks rfl rfl rfl i hi)⟩, .inr (Zkt (Stroke.mk pts) (by first | rfl | (simp; done)) (fun i_ hi_ => (by first | rfl | fail))), trivial⟩) (Zbh ((t14 + 1), (ss ++ [(Stroke.mk pts)])) rfl (show (0 ≤ (t14 + 1) ∧ (t14 + 1) ≤ (ik.Strokes.length : Int)) ∧ (((ss ++ [(Stroke.mk pts)]).length : Int) = (t14 + 1)) ∧ ((ss ++ [(Stroke.mk pts)]) = (ik.Strokes.take (t14 + 1).toNat).map (mpS (fun p => p))) ∧ True from ⟨om, (by simp; omega), (by rw [hs0]; exact (Zkq om hi (by rw [hp1]; unfold mpS; rw [Zzv om])).symm), trivial⟩) (by first | (show (((ik.Strokes.length : Int) - (t14 + 1)).toNat : Nat) < ((ik.Strokes.length : Int) - t14).toNat; omega) | (dsimp only; omega)))
    refine x_r [(0, .dec false)] [1, 4, 5, 12, 13, 14, 15] [4, 5, 750, 8062] [.fn 86 [], .ref 4 0, .ref 5 0, Zae false ik.Strokes, I (ik.Strokes.length : Int), I t14, Bv false] [some (.box [Zcr]), some (.box [.arr 750]), some (Zbk 8062 ss), some (Zbg ss)] [_] ⟨h1, trivial⟩ ?_
    refine Zad ?_
    refine Zat ?_
    refine Zcd rfl ?_
    refine Zde ?_
    refine Zax ?_
    refine Zbe ?_
    refine Zay ?_
    refine Zad ?_
    refine xR [] [4] [4, 750, 8062] [.ref 4 0] [some (.box [.arr 750]), some (Zbk 8062 ss), some (Zbg ss)] [] trivial ?_
    refine Zem ?_
    refine Zcz (Ink.mk ss) (show ((Ink.mk ss) = mpI (fun p => p) ik) ∧ (True) from ⟨(by rw [hs0]; unfold mpI; rw [Zzv om]), trivial⟩) (trivial) (.agg [.arr 750]) (by kernel_rfl) (.inr ⟨⟨(fun _ => rfl), rfl, rfl, Zkb _ _ rfl⟩, rfl⟩) (fun _ => rfl) (fun _ => (by simp [Zaj, Zag, Zck]))
  obtain ⟨v, ⟨hh0, _⟩, hc⟩ := hh
  exact ⟨v, hh0, hc⟩
theorem Yed (ik : Ink) (ok : ∀ s ∈ ik.Strokes, Zar s = true) (hl : ik.Strokes.length ≤ 16) : ∃ (v : Ink), (v = ik) ∧ Con Tryz.prog 47 [.agg [Zae false ik.Strokes]] true (.agg [Zae true v.Strokes]) := by
 have hh : ∃ r : Ink, ((r = ik) ∧ (True)) ∧ Zbb Tryz.prog 47 [.agg [Zae false ik.Strokes]] (Zaf []) true (.agg [Zae true r.Strokes]) (Zaf []) := by
  refine Zdv (Φ := fun r : Ink => (r = ik) ∧ (True)) [] (fun r => []) (fn := Tryz.f47) (nt := 5) Tryz.func47 rfl rfl (args := [.agg [Zae false ik.Strokes]]) rfl (Zbd (.inl ⟨rfl, by simp [Zaj, Zag, Zck]⟩) Zdp) (res := fun r => .agg [Zae true r.Strokes]) ?_
  refine xQ [(0, .new 1), (1, .new 2)] [1, 2] [1, 2] [] trivial ?_
  refine Zat ?_
  obtain ⟨v_1, hx1_0, hc1⟩ := Yae ik ok hl
  refine x_r [(1, .call [(true, .any), (true, .any)] true (.agg [Zae true v_1.Strokes]))] [2] [2] [.ref 2 0] [some (.box [Zae true v_1.Strokes])] [_ ∧ True] ⟨⟨hc1, trivial⟩, trivial⟩ ?_
  refine Zad ?_
  refine Zem ?_
  refine Zcz v_1 (show (v_1 = ik) ∧ (True) from ⟨(by rw [hx1_0, mp_id]), trivial⟩) (trivial) (.agg [Zae true v_1.Strokes]) (by kernel_rfl) (.inl rfl) (fun _ => rfl) (fun _ => (by simp [Zaj, Zag, Zck]))
 obtain ⟨v, ⟨hh0, _⟩, hc⟩ := hh
 exact ⟨v, hh0, hc⟩
def Zgu (xs : List Int) (o n : Nat) : List Int := xs.take o ++ (Zon ((xs.drop o).take n) ++ xs.drop (o + n))
theorem Ycr {xs : List Int} {o n : Nat} (h : o + n ≤ xs.length) : (Zgu xs o n).length = xs.length := by
 unfold Zgu
 rw [List.length_append, List.length_append, Zqo, List.length_take, List.length_take, List.length_drop, List.length_drop]
 omega
theorem srtW_cut {xs : List Int} {o n : Nat} (h : o + n ≤ xs.length) : ((Zgu xs o n).drop o).take n = Zon ((xs.drop o).take n) := by
 have h1 : (xs.take o).length = o := by rw [List.length_take]; omega
 have h2 : (Zon ((xs.drop o).take n)).length = n := by rw [Zqo, List.length_take, List.length_drop]; omega
 unfold Zgu
 rw [List.drop_append_of_le_length om, List.drop_eq_nil_of_le om, List.nil_append, List.take_append_of_le_length om, List.take_of_length_le om]
theorem Yaf {xs : List Int} {o n : Nat} (h : o + n ≤ xs.length) : ((xs.drop o).take n).length = n := by rw [List.length_take, List.length_drop]; omega
theorem Yhy {xs : List Int} {o n i : Nat} (h : i < ((xs.drop o).take n).length) : fI xs (o + i) = fI ((xs.drop o).take n) i := by
 rw [List.length_take, List.length_drop] at h
 have e : at_ ((xs.drop o).take n) i = at_ xs (o + i) := by simp only [at_, List.getD_eq_getElem?_getD, List.getElem?_take, List.getElem?_drop, if_pos (show i < n by omega)]
 show cI (at_ xs (o + i)) = cI (at_ ((xs.drop o).take n) i)
 rw [e]
theorem srwI_ok (xs : List Int) (o n : Nat) (h0 : 0 < n) (h1 : o + n ≤ xs.length) (hs : xs.length < 1000000) : SrwOK Tryz.prog 46 o xs.length (fI xs) (fI (Zgu xs o n)) n := by
 have hl := Yaf h1
 have hl2 : (Zon ((xs.drop o).take n)).length = n := by rw [Zqo]; exact hl
 refine ⟨h0, h1, ((xs.drop o).take n).toArray, (Zon ((xs.drop o).take n)).toArray, by simpa using hl, by simpa using hl2, fun p hp => ?_, fun p hp => ?_, fun blk off cap w h2 h3 => ?_⟩
 ·rw [Yhy (n := n) (by rw [hl]; exact hp)]
  show cI (at_ _ p) = _
  rw [Zej (by rw [hl]; exact hp), getElem!_pos _ _ (by simpa using (by rw [hl]; exact hp : p < ((xs.drop o).take n).length))]
  rfl
 ·show cI (at_ (Zgu xs o n) p) = _
  have h4 : (xs.take o).length = o := by rw [List.length_take]; omega
  split
  ·rename_i hw
   have e : at_ (Zgu xs o n) p = at_ (Zon ((xs.drop o).take n)) (p - o) := by
    have := Yhy (xs := Zgu xs o n) (o := o) (n := n) (i := p - o) (by rw [Yaf (by rw [Ycr h1]; exact h1)]; omega)
    simp only [at_, Zgu, List.getD_eq_getElem?_getD]
    rw [List.getElem?_append_right om, h4, List.getElem?_append_left om]
   rw [e, Zej om, getElem!_pos _ _ (by simpa using (by omega : p - o < (Zon ((xs.drop o).take n)).length))]
   rfl
  ·rename_i hw
   have e : at_ (Zgu xs o n) p = at_ xs p := by
    simp only [at_, Zgu, List.getD_eq_getElem?_getD]
    by_cases q : p < o
    ·rw [List.getElem?_append_left om, List.getElem?_take, if_pos q]
    ·rw [List.getElem?_append_right om, h4, List.getElem?_append_right om, hl2, List.getElem?_drop]
     congr 2; omega
   rw [e]; rfl
 ·have := AnyG.slices_Sort_int Tryz.laysSort blk off cap ((xs.drop o).take n) w h2 h3 (by rw [hl]; omega)
  rw [hl] at this
  exact this
theorem Zvh (ik : Ink) (gr : Group) (ok : Zbp ik = true) (hg : okG (ik.Strokes.length : Int) gr) : ∃ (v : Ink), (v = Zlc ik gr) ∧ Con Tryz.prog 19 [.agg [Zae false ik.Strokes], .agg [I gr.From, I gr.To]] true (.agg [Zae true v.Strokes]) := by
  have hil := Zgp ok
  have hol := Zth ik.Strokes
  have hoi := Zox ik.Strokes.length
  have hg1 := hg.1
  have hg2 := hg.2.1
  have hg3 := hg.2.2
  have hh : ∃ r : Ink, ((r = Zlc ik gr) ∧ (True)) ∧ Zbb Tryz.prog 19 [.agg [Zae false ik.Strokes], .agg [I gr.From, I gr.To]] (Zaf []) true (.agg [Zae true r.Strokes]) (Zaf []) := by
    refine Zdv (Φ := fun r : Ink => (r = Zlc ik gr) ∧ (True)) [] (fun r => []) (fn := Tryz.f19) (nt := 37) Tryz.func19 rfl rfl (args := [.agg [Zae false ik.Strokes], .agg [I gr.From, I gr.To]]) rfl (Zbd (.inl ⟨rfl, by simp [Zaj, Zag, Zck]⟩) (Zbd (.inl ⟨rfl, by simp [Zaj, Zag]⟩) Zdp)) (res := fun r => .agg [Zae true r.Strokes]) ?_
    refine xQ [(0, .new 2), (1, .new 3), (2, .new 4)] [2, 3, 4] [2, 3, 4] [] trivial ?_
    refine Zat ?_
    obtain ⟨order_1, hx1_0, hc1⟩ := Yec ik ok
    have hov := hx1_0
    have holn : order_1.length = ik.Strokes.length := by rw [hx1_0, hol]
    have hsl : (((Zgu order_1 gr.From.toNat (gr.To.toNat - gr.From.toNat)).drop gr.From.toNat).take (gr.To.toNat - gr.From.toNat)) = grpK ik gr := by rw [srtW_cut om, hov]; exact Yhz ik gr
    have hsn : ((((Zgu order_1 gr.From.toNat (gr.To.toNat - gr.From.toNat)).drop gr.From.toNat).take (gr.To.toNat - gr.From.toNat)).length : Int) = gr.To - gr.From := by rw [hsl]; exact Zvj hg
    refine x_q [(1, .lend [] [(8301, tAI order_1)] [(true, .any)] false (.arr 8301)), (6, .winq)] [2, 4, 5] [2, 4, 8301] [Zbb Tryz.prog 45 [.agg [Zae false ik.Strokes]] (Zaf []) false (.arr 8301) (Zaf [(8301, tAI order_1)]) ∧ True, (0 : Int) ≤ gr.From ∧ gr.From < gr.To ∧ gr.To ≤ (order_1.length : Int)] ⟨⟨hc1, trivial⟩, ⟨om, om, om⟩, trivial⟩ ?_
    refine Zad ?_
    refine xQ [(1, .srw 8301 gr.From.toNat order_1.length ((fI order_1)) (fI (Zgu order_1 gr.From.toNat (gr.To.toNat - gr.From.toNat))) (gr.To.toNat - gr.From.toNat))] [2, 4, 5] [2, 4, 8301] [(([.win 8301 gr.From.toNat (gr.To.toNat - gr.From.toNat)] : List AV) = [.win 8301 gr.From.toNat (gr.To.toNat - gr.From.toNat)]) ∧ ((tAI order_1 : Ob) = .arr 1 order_1.length ((fI order_1))) ∧ SrwOK Tryz.prog 46 gr.From.toNat order_1.length ((fI order_1)) (fI (Zgu order_1 gr.From.toNat (gr.To.toNat - gr.From.toNat))) (gr.To.toNat - gr.From.toNat)] ⟨⟨rfl, rfl, srwI_ok order_1 gr.From.toNat (gr.To.toNat - gr.From.toNat) om om om⟩, trivial⟩ ?_
    refine xR [(0, .new 6)] [2, 4, 5, 6] [2, 4, 6, 8301] [.ref 2 0, .ref 4 0, .win 8301 gr.From.toNat (gr.To.toNat - gr.From.toNat), .ref 6 0] [some (.box [Zae false ik.Strokes]), some (.box [Zcr]), some (.box [Zcr]), some (.arr 1 order_1.length (fI (Zgu order_1 gr.From.toNat (gr.To.toNat - gr.From.toNat))))] [] trivial ?_
    refine Zat ?_
    refine Zat ?_
    refine Zcw [] (T := [(2, .ref 2 0), (4, .ref 4 0), (5, slI true (((Zgu order_1 gr.From.toNat (gr.To.toNat - gr.From.toNat)).drop gr.From.toNat).take (gr.To.toNat - gr.From.toNat))), (6, .ref 6 0)]) (O := [(2, .box [Zae false ik.Strokes]), (4, .box [Zcr]), (6, .box [Zcr])]) rfl (⟨.inl rfl, .inl rfl, .inr ⟨(fun _ => rfl), rfl, rfl, (by rw [Yaf (by first | omega | (rw [Ycr om]; omega))]), fun i_ hi_ => .inl (Yhy hi_)⟩, .inl rfl, trivial⟩) (⟨.inl rfl, .inl rfl, .inl rfl, trivial⟩) ?_
    refine x_r [] [2, 4, 6, 18, 19, 20] [2, 4, 6] [.ref 2 0, .ref 4 0, .ref 6 0, slI true (((Zgu order_1 gr.From.toNat (gr.To.toNat - gr.From.toNat)).drop gr.From.toNat).take (gr.To.toNat - gr.From.toNat)), I (((((Zgu order_1 gr.From.toNat (gr.To.toNat - gr.From.toNat)).drop gr.From.toNat).take (gr.To.toNat - gr.From.toNat)).length) : Int), I 0] [some (.box [Zae false ik.Strokes]), some (.box [Zcr]), some (.box [Zcr])] [] trivial ?_
    refine Zad ?_
    refine Zbn ?_
    refine Zmk 6 0 760 1 (fun _ => []) rfl (by kernel_rfl) ?_
    refine Zcw [] (T := [(2, .ref 2 0), (4, .ref 4 0), (6, .ref 6 0), (18, slI true (((Zgu order_1 gr.From.toNat (gr.To.toNat - gr.From.toNat)).drop gr.From.toNat).take (gr.To.toNat - gr.From.toNat))), (19, I (((((Zgu order_1 gr.From.toNat (gr.To.toNat - gr.From.toNat)).drop gr.From.toNat).take (gr.To.toNat - gr.From.toNat)).length) : Int)), (20, I 0)]) (O := [(2, .box [Zae false ik.Strokes]), (4, .box [Zcr]), (6, .box [.arr 760]), (760, Zmx false ([] : List Stroke))]) rfl (⟨.inl rfl, .inl rfl, .inl rfl, .inl rfl, .inl rfl, .inl rfl, trivial⟩) (⟨.inl rfl, .inl rfl, .inl rfl, .inr ⟨rfl, (by first | rfl | (simp; done) | (simp; omega) | omega), fun i_ hi_ => absurd hi_ (Nat.not_lt_zero _)⟩, trivial⟩) ?_
    refine Zeb (X := Int × (List Stroke)) (fun x => mkS [(2, .ref 2 0), (4, .ref 4 0), (6, .ref 6 0), (18, slI true (((Zgu order_1 gr.From.toNat (gr.To.toNat - gr.From.toNat)).drop gr.From.toNat).take (gr.To.toNat - gr.From.toNat))), (19, I (((((Zgu order_1 gr.From.toNat (gr.To.toNat - gr.From.toNat)).drop gr.From.toNat).take (gr.To.toNat - gr.From.toNat)).length) : Int)), (20, I x.1)] [(2, .box [Zae false ik.Strokes]), (4, .box [Zcr]), (6, .box [.arr 760]), (760, Zmx false x.2)]) (fun x => (0 ≤ x.1 ∧ x.1 ≤ ((((Zgu order_1 gr.From.toNat (gr.To.toNat - gr.From.toNat)).drop gr.From.toNat).take (gr.To.toNat - gr.From.toNat)).length : Int)) ∧ ((x.2.length : Int) = x.1) ∧ (x.2 = ((((Zgu order_1 gr.From.toNat (gr.To.toNat - gr.From.toNat)).drop gr.From.toNat).take (gr.To.toNat - gr.From.toNat)).take x.1.toNat).map (fun k_ => at_ ik.Strokes k_.toNat)) ∧ True) (fun x => (((((Zgu order_1 gr.From.toNat (gr.To.toNat - gr.From.toNat)).drop gr.From.toNat).take (gr.To.toNat - gr.From.toNat)).length : Int) - x.1).toNat) (0, ([] : List Stroke)) rfl (show (0 ≤ (0 : Int) ∧ (0 : Int) ≤ ((((Zgu order_1 gr.From.toNat (gr.To.toNat - gr.From.toNat)).drop gr.From.toNat).take (gr.To.toNat - gr.From.toNat)).length : Int)) ∧ ((([] : List Stroke).length : Int) = (0 : Int)) ∧ (([] : List Stroke) = ((((Zgu order_1 gr.From.toNat (gr.To.toNat - gr.From.toNat)).drop gr.From.toNat).take (gr.To.toNat - gr.From.toNat)).take (0 : Int).toNat).map (fun k_ => at_ ik.Strokes k_.toNat)) ∧ True from ⟨om, (by rfl), (by simp), trivial⟩) (fun x hI => ?_)
    obtain ⟨t20, ss⟩ := x
    obtain ⟨hi0, hl0, hs0, _⟩ : (0 ≤ t20 ∧ t20 ≤ ((((Zgu order_1 gr.From.toNat (gr.To.toNat - gr.From.toNat)).drop gr.From.toNat).take (gr.To.toNat - gr.From.toNat)).length : Int)) ∧ ((ss.length : Int) = t20) ∧ (ss = ((((Zgu order_1 gr.From.toNat (gr.To.toNat - gr.From.toNat)).drop gr.From.toNat).take (gr.To.toNat - gr.From.toNat)).take t20.toNat).map (fun k_ => at_ ik.Strokes k_.toNat)) ∧ True := hI
    show XW _ _ _ _ (mkS [(2, .ref 2 0), (4, .ref 4 0), (6, .ref 6 0), (18, slI true (((Zgu order_1 gr.From.toNat (gr.To.toNat - gr.From.toNat)).drop gr.From.toNat).take (gr.To.toNat - gr.From.toNat))), (19, I (((((Zgu order_1 gr.From.toNat (gr.To.toNat - gr.From.toNat)).drop gr.From.toNat).take (gr.To.toNat - gr.From.toNat)).length) : Int)), (20, I t20)] [(2, .box [Zae false ik.Strokes]), (4, .box [Zcr]), (6, .box [.arr 760]), (760, Zmx false ss)]) _ _
    refine Zat ?_
    by_cases h1 : t20 < (((((Zgu order_1 gr.From.toNat (gr.To.toNat - gr.From.toNat)).drop gr.From.toNat).take (gr.To.toNat - gr.From.toNat)).length) : Int)
    ·have hi : t20.toNat < (((Zgu order_1 gr.From.toNat (gr.To.toNat - gr.From.toNat)).drop gr.From.toNat).take (gr.To.toNat - gr.From.toNat)).length := by omega
     have hkin : 0 ≤ at_ (((Zgu order_1 gr.From.toNat (gr.To.toNat - gr.From.toNat)).drop gr.From.toNat).take (gr.To.toNat - gr.From.toNat)) t20.toNat ∧ at_ (((Zgu order_1 gr.From.toNat (gr.To.toNat - gr.From.toNat)).drop gr.From.toNat).take (gr.To.toNat - gr.From.toNat)) t20.toNat < (ik.Strokes.length : Int) := by rw [hsl]; exact Zvk (Zdf (by rw [← hsl]; exact hi))
     have hii : (t20 + 1).toNat = t20.toNat + 1 := by omega
     refine x_q [(0, .dec true)] [2, 4, 6, 18, 19, 20, 21] [2, 4, 6, 760] [_] ⟨h1, trivial⟩ ?_
     refine Zad ?_
     refine Zat ?_
     refine Zfl ?_
     refine Zbv ?_
     refine Zad ?_
     refine Zat ?_
     refine Zbn ?_
     refine xQ [] [2, 4, 6, 8, 18, 19, 20] [2, 4, 6, 760] [(0 : Int) ≤ t20 ∧ t20 < (((((Zgu order_1 gr.From.toNat (gr.To.toNat - gr.From.toNat)).drop gr.From.toNat).take (gr.To.toNat - gr.From.toNat)).length) : Int)] ⟨⟨om, om⟩, trivial⟩ ?_
     refine x_q [(7, .new 31), (8, .new 32)] [2, 4, 6, 18, 19, 20] [2, 4, 6, 32] [(0 : Int) ≤ (at_ (((Zgu order_1 gr.From.toNat (gr.To.toNat - gr.From.toNat)).drop gr.From.toNat).take (gr.To.toNat - gr.From.toNat)) t20.toNat) ∧ (at_ (((Zgu order_1 gr.From.toNat (gr.To.toNat - gr.From.toNat)).drop gr.From.toNat).take (gr.To.toNat - gr.From.toNat)) t20.toNat) < (ik.Strokes.length : Int), (ss.length + 1) * 24 ≤ 140737488355328] ⟨⟨om, om⟩, om, trivial⟩ ?_
     refine Zbo 1 ?_
     refine Zad ?_
     refine x_r [] [2, 4, 6, 18, 19, 20] [2, 4, 6, 32] [.ref 2 0, .ref 4 0, .ref 6 0, slI true (((Zgu order_1 gr.From.toNat (gr.To.toNat - gr.From.toNat)).drop gr.From.toNat).take (gr.To.toNat - gr.From.toNat)), I (((((Zgu order_1 gr.From.toNat (gr.To.toNat - gr.From.toNat)).drop gr.From.toNat).take (gr.To.toNat - gr.From.toNat)).length) : Int), I (t20 + 1)] [some (.box [Zae false ik.Strokes]), some (.box [Zcr]), some (.box [.arr 32]), some (.arr 1 (ss.length + 1) (Zgb ss.length (Zbl false ss) (Zgm [Zaq false ((at_ ik.Strokes ((at_ (((Zgu order_1 gr.From.toNat (gr.To.toNat - gr.From.toNat)).drop gr.From.toNat).take (gr.To.toNat - gr.From.toNat)) t20.toNat).toNat)).Points)] 1)))] [inR .i64 (t20 + 1)] ⟨(Zac om om), trivial⟩ ?_
     refine Zcl [(760, 32)] (T := [(2, .ref 2 0), (4, .ref 4 0), (6, .ref 6 0), (18, slI true (((Zgu order_1 gr.From.toNat (gr.To.toNat - gr.From.toNat)).drop gr.From.toNat).take (gr.To.toNat - gr.From.toNat))), (19, I (((((Zgu order_1 gr.From.toNat (gr.To.toNat - gr.From.toNat)).drop gr.From.toNat).take (gr.To.toNat - gr.From.toNat)).length) : Int)), (20, I (t20 + 1))]) (O := [(2, .box [Zae false ik.Strokes]), (4, .box [Zcr]), (6, .box [.arr 760]), (760, Zmx false (ss ++ [(at_ ik.Strokes ((at_ (((Zgu order_1 gr.From.toNat (gr.To.toNat - gr.From.toNat)).drop gr.From.toNat).take (gr.To.toNat - gr.From.toNat)) t20.toNat).toNat))]))]) rfl (⟨.inl rfl, .inl rfl, .inl rfl, .inl rfl, .inl rfl, .inl rfl, trivial⟩) (⟨.inl rfl, .inl rfl, .inl rfl, .inr ⟨rfl, (by first | rfl | (simp; done) | (simp; omega) | omega), fun i_ hi_ => .inl (Zcm (enc := (Zft false)) (xs := ss) rfl i_ hi_)⟩, trivial⟩) (Zbh ((t20 + 1), (ss ++ [(at_ ik.Strokes ((at_ (((Zgu order_1 gr.From.toNat (gr.To.toNat - gr.From.toNat)).drop gr.From.toNat).take (gr.To.toNat - gr.From.toNat)) t20.toNat).toNat))])) rfl (show (0 ≤ (t20 + 1) ∧ (t20 + 1) ≤ ((((Zgu order_1 gr.From.toNat (gr.To.toNat - gr.From.toNat)).drop gr.From.toNat).take (gr.To.toNat - gr.From.toNat)).length : Int)) ∧ (((ss ++ [(at_ ik.Strokes ((at_ (((Zgu order_1 gr.From.toNat (gr.To.toNat - gr.From.toNat)).drop gr.From.toNat).take (gr.To.toNat - gr.From.toNat)) t20.toNat).toNat))]).length : Int) = (t20 + 1)) ∧ ((ss ++ [(at_ ik.Strokes ((at_ (((Zgu order_1 gr.From.toNat (gr.To.toNat - gr.From.toNat)).drop gr.From.toNat).take (gr.To.toNat - gr.From.toNat)) t20.toNat).toNat))]) = ((((Zgu order_1 gr.From.toNat (gr.To.toNat - gr.From.toNat)).drop gr.From.toNat).take (gr.To.toNat - gr.From.toNat)).take (t20 + 1).toNat).map (fun k_ => at_ ik.Strokes k_.toNat)) ∧ True from ⟨om, (by simp; omega), (by rw [hs0, hii, List.take_succ_eq_append_getElem hi, List.map_append, ← Zej hi]; rfl), trivial⟩) (by first | (show ((((((Zgu order_1 gr.From.toNat (gr.To.toNat - gr.From.toNat)).drop gr.From.toNat).take (gr.To.toNat - gr.From.toNat)).length : Int) - (t20 + 1)).toNat : Nat) < (((((Zgu order_1 gr.From.toNat (gr.To.toNat - gr.From.toNat)).drop gr.From.toNat).take (gr.To.toNat - gr.From.toNat)).length : Int) - t20).toNat; omega) | (dsimp only; omega)))
    have hfin : ss = (Zlc ik gr).Strokes := by rw [hs0, List.take_of_length_le om, hsl]; rfl
    have hfl : (ss.length : Int) = gr.To - gr.From := by rw [hfin]; exact Ycj hg
    refine x_r [(0, .dec false)] [2, 4, 6, 18, 19, 20, 21] [2, 4, 6, 760] [.ref 2 0, .ref 4 0, .ref 6 0, slI true (((Zgu order_1 gr.From.toNat (gr.To.toNat - gr.From.toNat)).drop gr.From.toNat).take (gr.To.toNat - gr.From.toNat)), I (((((Zgu order_1 gr.From.toNat (gr.To.toNat - gr.From.toNat)).drop gr.From.toNat).take (gr.To.toNat - gr.From.toNat)).length) : Int), I t20, Bv false] [some (.box [Zae false ik.Strokes]), some (.box [Zcr]), some (.box [.arr 760]), some (Zmx false ss)] [_] ⟨h1, trivial⟩ ?_
    refine Zad ?_
    refine Zat ?_
    refine Zcd rfl ?_
    refine Zde ?_
    refine Zax ?_
    refine Zbe ?_
    refine Zay ?_
    refine Zad ?_
    refine Zat ?_
    obtain ⟨v_2, hx2_0, hc2⟩ := Yed (Ink.mk ss) (by simp only [hfin]; exact Yia (Ztt ok hg)) (by first | omega | (dsimp only; omega) | (simp only [List.length_drop, List.length_take]; omega))
    refine x_r [(1, .call [(false, .agg [Zae false ss])] true (.agg [Zae true v_2.Strokes]))] [4] [4] [.ref 4 0] [some (.box [Zae true v_2.Strokes])] [_ ∧ (((false = true → true = true) ∧ 1 = 1 ∧ ss.length = ss.length ∧ ∀ i_, i_ < ss.length → (Zbl false ss) i_ = (Zbl false ss) i_ ∨ (AV.idsL ((Zbl false ss) i_) = [] ∧ leL (fun _ => none) false ((Zbl false ss) i_) ((Zbl false ss) i_))) ∧ ([] : List AV) = []) ∧ True] ⟨⟨hc2, ⟨⟨(fun h => by cases h), rfl, rfl, fun i _ => .inl rfl⟩, rfl⟩, trivial⟩, trivial⟩ ?_
    refine Zad ?_
    refine Zem ?_
    refine Zcz v_2 (show (v_2 = Zlc ik gr) ∧ (True) from ⟨(by first | (rw [hx2_0, hfin]; done) | (rw [hx2_0, hfin]; rfl) | (rw [hx3_0, hfin]; done) | (rw [hx3_0, hfin]; rfl)), trivial⟩) (trivial) (.agg [Zae true v_2.Strokes]) (by kernel_rfl) (.inl rfl) (fun _ => rfl) (fun _ => (by simp [Zaj, Zag, Zck]))
  obtain ⟨v, ⟨hh0, _⟩, hc⟩ := hh
  exact ⟨v, hh0, hc⟩
theorem Yag (ik : Ink) (ok : Zbp ik = true) (h0 : 1 ≤ ik.Strokes.length) : Con Tryz.prog 74 [.agg [Zae false ik.Strokes]] true (Zfo (Zhs ik.Strokes ik.Strokes.length)) := by
  refine Zbu (fn := Tryz.f74) (nt := 24) Tryz.func74 rfl rfl rfl rfl (by simp [Zag, Zaj, Zck]) fun B hB => ?_
  refine Zbt (x := .agg [Zae false ik.Strokes]) 0 rfl (fun len_ik => ?_)
  simp [Zdk, Zgf, Zee, Zft, Zdl, Zbl, Zaq, Zae] at len_ik
  refine aQ [(0, .new 1), (1, .new 2)] [1, 2] [1, 2] [] hB trivial ?_
  refine aQ [(4, .call [(true, .any)] true (Zfo (Zby (at_ ik.Strokes 0).Points (at_ ik.Strokes 0).Points.length))), (5, .new 3)] [1, 2, 3] [1, 2, 3] [(0 : Int) ≤ 0 ∧ 0 < (ik.Strokes.length : Int), _ ∧ True] hB ⟨⟨om, om⟩, ⟨(Zfq (at_ ik.Strokes 0) (Zdc ok _ om)), trivial⟩, trivial⟩ ?_
  refine Zah ?_
  refine aR [] [2, 3, 12, 13, 14] [2, 3] [.ref 2 0, .ref 3 0, Zae false ik.Strokes, I (ik.Strokes.length : Int), I 0] [some (.box [I 0, I 0, I 0, I 0]), some (Zef (Zby (at_ ik.Strokes 0).Points (at_ ik.Strokes 0).Points.length))] [] hB trivial ?_
  refine Zau ?_
  refine Zhz hB [] (T := [(2, .ref 2 0), (3, .ref 3 0), (12, Zae false ik.Strokes), (13, I (ik.Strokes.length : Int)), (14, I 0)]) (O := [(2, .box [I 0, I 0, I 0, I 0]), (3, .box [I ((Zby (at_ ik.Strokes 0).Points (at_ ik.Strokes 0).Points.length).X1), I ((Zby (at_ ik.Strokes 0).Points (at_ ik.Strokes 0).Points.length).Y1), I ((Zby (at_ ik.Strokes 0).Points (at_ ik.Strokes 0).Points.length).X2), I ((Zby (at_ ik.Strokes 0).Points (at_ ik.Strokes 0).Points.length).Y2)])]) rfl (⟨.inl rfl, .inl rfl, .inl rfl, .inl rfl, .inl rfl, trivial⟩) (⟨.inl rfl, .inr ⟨rfl, ⟨rfl, ⟨rfl, ⟨rfl, rfl⟩⟩⟩⟩, trivial⟩) ?_
  refine Zcn (fun gn gσ => ∃ (t14 : Int) (x1 : Int) (y1 : Int) (x2 : Int) (y2 : Int), gn = ((ik.Strokes.length : Int) - t14).toNat ∧ (0 ≤ t14 ∧ t14 ≤ (ik.Strokes.length : Int)) ∧ (Box.mk x1 y1 x2 y2 = Zhs ik.Strokes t14.toNat) ∧ gσ = mkS [(2, .ref 2 0), (3, .ref 3 0), (12, Zae false ik.Strokes), (13, I (ik.Strokes.length : Int)), (14, I t14)] [(2, .box [I 0, I 0, I 0, I 0]), (3, .box [I x1, I y1, I x2, I y2])]) (((ik.Strokes.length : Int) - 0).toNat) ⟨0, (Zby (at_ ik.Strokes 0).Points (at_ ik.Strokes 0).Points.length).X1, (Zby (at_ ik.Strokes 0).Points (at_ ik.Strokes 0).Points.length).Y1, (Zby (at_ ik.Strokes 0).Points (at_ ik.Strokes 0).Points.length).X2, (Zby (at_ ik.Strokes 0).Points (at_ ik.Strokes 0).Points.length).Y2, rfl, om, (by first | rfl | exact (Ycs _).symm), rfl⟩ (fun gn gσ hI => ?_)
  obtain ⟨t14, x1, y1, x2, y2, rfl, hi0, hb1, rfl⟩ := hI
  refine Zah ?_
  by_cases h1 : t14 < (ik.Strokes.length : Int)
  ·have hi : t14.toNat < ik.Strokes.length := by omega
   refine Zbm [(0, .dec true)] [2, 3, 12, 13, 14, 15] [2, 3] [_] hB ⟨h1, trivial⟩ ?_
   refine Zaa ?_
   refine Zah ?_
   refine Zbq ?_
   refine Zas ?_
   refine Zaa ?_
   refine Zah ?_
   refine Zau ?_
   refine aQ [(2, .new 5)] [2, 3, 5, 12, 13, 14] [2, 3, 5] [(0 : Int) ≤ t14 ∧ t14 < (ik.Strokes.length : Int)] hB ⟨⟨om, om⟩, trivial⟩ ?_
   refine Zbm [(2, .call [(true, .any)] true (Zfo (Zby (at_ ik.Strokes t14.toNat).Points (at_ ik.Strokes t14.toNat).Points.length))), (3, .call [(true, .any), (true, .any)] true (Zfo (Zdx (Box.mk x1 y1 x2 y2) (Zby (at_ ik.Strokes t14.toNat).Points (at_ ik.Strokes t14.toNat).Points.length))))] [2, 3, 12, 13, 14] [2, 3] [_ ∧ True, _ ∧ True] hB ⟨⟨(Zfq (at_ ik.Strokes t14.toNat) (Zdc ok _ om)), trivial⟩, ⟨(Zof (Box.mk x1 y1 x2 y2) (Zby (at_ ik.Strokes t14.toNat).Points (at_ ik.Strokes t14.toNat).Points.length)), trivial⟩, trivial⟩ ?_
   refine Zba 1 ?_
   refine Zaa ?_
   refine Zdg [] [2, 3, 12, 13, 14] [2, 3] [.ref 2 0, .ref 3 0, Zae false ik.Strokes, I (ik.Strokes.length : Int), I (t14 + 1)] [some (.box [I 0, I 0, I 0, I 0]), some (Zef (Zdx (Box.mk x1 y1 x2 y2) (Zby (at_ ik.Strokes t14.toNat).Points (at_ ik.Strokes t14.toNat).Points.length)))] [inR .i64 (t14 + 1)] hB ⟨(Zac om om), trivial⟩ ?_
   refine Zeq hB [] (T := [(2, .ref 2 0), (3, .ref 3 0), (12, Zae false ik.Strokes), (13, I (ik.Strokes.length : Int)), (14, I (t14 + 1))]) (O := [(2, .box [I 0, I 0, I 0, I 0]), (3, .box [I ((Zdx (Box.mk x1 y1 x2 y2) (Zby (at_ ik.Strokes t14.toNat).Points (at_ ik.Strokes t14.toNat).Points.length)).X1), I ((Zdx (Box.mk x1 y1 x2 y2) (Zby (at_ ik.Strokes t14.toNat).Points (at_ ik.Strokes t14.toNat).Points.length)).Y1), I ((Zdx (Box.mk x1 y1 x2 y2) (Zby (at_ ik.Strokes t14.toNat).Points (at_ ik.Strokes t14.toNat).Points.length)).X2), I ((Zdx (Box.mk x1 y1 x2 y2) (Zby (at_ ik.Strokes t14.toNat).Points (at_ ik.Strokes t14.toNat).Points.length)).Y2)])]) rfl (⟨.inl rfl, .inl rfl, .inl rfl, .inl rfl, .inl rfl, trivial⟩) (⟨.inl rfl, .inr ⟨rfl, ⟨rfl, ⟨rfl, ⟨rfl, rfl⟩⟩⟩⟩, trivial⟩) (Zbf _ om ⟨(t14 + 1), (Zdx (Box.mk x1 y1 x2 y2) (Zby (at_ ik.Strokes t14.toNat).Points (at_ ik.Strokes t14.toNat).Points.length)).X1, (Zdx (Box.mk x1 y1 x2 y2) (Zby (at_ ik.Strokes t14.toNat).Points (at_ ik.Strokes t14.toNat).Points.length)).Y1, (Zdx (Box.mk x1 y1 x2 y2) (Zby (at_ ik.Strokes t14.toNat).Points (at_ ik.Strokes t14.toNat).Points.length)).X2, (Zdx (Box.mk x1 y1 x2 y2) (Zby (at_ ik.Strokes t14.toNat).Points (at_ ik.Strokes t14.toNat).Points.length)).Y2, rfl, om, (by rw [Zxv om, ← hb1]; rfl), rfl⟩)
  have hie : t14.toNat = ik.Strokes.length := by omega
  rw [hie] at hb1
  refine Zbm [(0, .dec false)] [2, 3, 12, 13, 14, 15] [2, 3] [_] hB ⟨h1, trivial⟩ ?_
  refine Zaa ?_
  refine Zah ?_
  refine Zbj ?_
  refine Zcj ?_
  refine Zal ?_
  refine Zal ?_
  refine Zaw ?_
  refine Zaa ?_
  refine aR [] [2] [2] [.ref 2 0] [some (.box [I x1, I y1, I x2, I y2])] [] hB trivial ?_
  refine Zam ?_
  refine Zan hB (.agg [I x1, I y1, I x2, I y2]) (by kernel_rfl) (.inl (by rw [← hb1])) rfl (fun _ => (by simp [Zaj, Zag]))
theorem Yee (a : Point) (b : Point) (ha : okP a = true) (hb : okP b = true) : Con Tryz.prog 195 [Zct a, Zct b] true (I (Zsv a b)) := by
 have ha' := Zfi.1 ha
 have hb' := Zfi.1 hb
 have hfb := Zxw ha hb
 refine Zbu (fn := Tryz.f195) (nt := 28) Tryz.func195 rfl rfl rfl rfl (by simp [Zag, Zaj]) fun B hB => ?_
 refine aQ [(0, .new 2), (1, .new 3)] [2, 3] [2, 3] [] hB trivial ?_
 refine aR [] [4] [] [I (((a.X - b.X) * (a.X - b.X)) + ((a.Y - b.Y) * (a.Y - b.Y)))] [] [inR .i64 (a.X - b.X), inR .i64 (a.X - b.X), inR .i64 ((a.X - b.X) * (a.X - b.X)), inR .i64 (a.Y - b.Y), inR .i64 (a.Y - b.Y), inR .i64 ((a.Y - b.Y) * (a.Y - b.Y)), inR .i64 (((a.X - b.X) * (a.X - b.X)) + ((a.Y - b.Y) * (a.Y - b.Y)))] hB ⟨(Zac om om), (Zac om om), (Zac om om), (Zac om om), (Zac om om), (Zac om om), (Zac om om), trivial⟩ ?_
 refine Zam ?_
 refine Zan hB (I (((a.X - b.X) * (a.X - b.X)) + ((a.Y - b.Y) * (a.Y - b.Y)))) (by kernel_rfl) (.inl (by first | rfl | (refine congrArg Bv ?_; simp [*]; done) | (refine congrArg Bv ?_; simp [*]; omega) | (refine congrArg Bv ?_; simp_all []; done) | (refine congrArg Bv ?_; simp_all []; omega))) rfl (fun _ => trivial)
theorem len64_ok (x : Int) (h : 0 ≤ x ∧ x ≤ 18446744073709551615) : Con Tryz.prog 96 [.val (.int .u64 x)] true (I ((Lib.bitLen x.toNat : Nat) : Int)) := by
 refine Zke (vals := [.int .u64 x]) fun w _ => ?_
 refine (Tryz.bits_Len64 x w h.1 h.2).mono ?_
 rintro e w' ⟨rfl, rfl⟩
 exact ⟨rfl, Below.refl _ _⟩
theorem Yib (n : Int) (hn : 0 ≤ n ∧ n ≤ 1000000000000000) : Con Tryz.prog 194 [I n] true (I (Ziw n)) := by
  refine Zbu (fn := Tryz.f194) (nt := 30) Tryz.func194 rfl rfl rfl rfl (by simp [Zag, Zaj]) fun B hB => ?_
  refine aQ [] [0] [] [] hB trivial ?_
  refine Zah ?_
  refine Zah ?_
  by_cases h1 : n = 0
  ·refine Zbm [(1, .dec true)] [0, 6] [] [_] hB ⟨h1, trivial⟩ ?_
   refine Zaa ?_
   refine Zbq ?_
   refine aR [] [2] [] [I 0] [] [] hB trivial ?_
   refine Zam ?_
   refine Zak ?_
   refine Zan hB (I 0) (by kernel_rfl) (.inl (by first | (exact congrArg I (Eq.symm (Zvl om hfin hr1))) | (refine congrArg I ?_; rw [h1]; rfl))) rfl (fun _ => trivial)
  obtain ⟨hb1, hb2, hb3⟩ := root0 hn.1 hn.2
  have hq0 := Yic (r := (1 * ((2 ^ ((((Lib.bitLen n.toNat : Nat) : Int) + 1) / 2).toNat : Nat) : Int))) hn.1 om
  refine Zbm [(1, .dec false)] [0, 6] [] [_] hB ⟨h1, trivial⟩ ?_
  refine Zaa ?_
  refine Zbj ?_
  refine Zas ?_
  refine Zaa ?_
  refine aQ [(2, .call [(true, .any)] true (I ((Lib.bitLen n.toNat : Nat) : Int))), (4, .nn)] [0, 3] [] [inR .u64 n, _ ∧ True, inR .i64 (((Lib.bitLen n.toNat : Nat) : Int) + 1), (0 : Int) ≤ (((Lib.bitLen n.toNat : Nat) : Int) + 1) ∧ (0 : Int) < 2 ∧ inR .i64 (((Lib.bitLen n.toNat : Nat) : Int) + 1), (0 : Int) ≤ ((((Lib.bitLen n.toNat : Nat) : Int) + 1) / 2) ∧ ((((Lib.bitLen n.toNat : Nat) : Int) + 1) / 2) ≤ ((IntKind.bits .i64 : Nat) : Int) ∧ inR .i64 (1 * ((2 ^ ((((Lib.bitLen n.toNat : Nat) : Int) + 1) / 2).toNat : Nat) : Int))] hB ⟨(Zpx om om), ⟨(len64_ok n om), trivial⟩, (Zac om om), ⟨om, om, (Zac om om)⟩, ⟨om, (show ((((Lib.bitLen n.toNat : Nat) : Int) + 1) / 2) ≤ (64 : Int) from by omega), (Zac om om)⟩, trivial⟩ ?_
  refine Zah ?_
  refine aR [(3, .nn), (5, .nn)] [0, 3, 4] [] [I n, I (1 * ((2 ^ ((((Lib.bitLen n.toNat : Nat) : Int) + 1) / 2).toNat : Nat) : Int)), I (((1 * ((2 ^ ((((Lib.bitLen n.toNat : Nat) : Int) + 1) / 2).toNat : Nat) : Int)) + (n / (1 * ((2 ^ ((((Lib.bitLen n.toNat : Nat) : Int) + 1) / 2).toNat : Nat) : Int)))) / 2)] [] [(0 : Int) ≤ n ∧ (0 : Int) < (1 * ((2 ^ ((((Lib.bitLen n.toNat : Nat) : Int) + 1) / 2).toNat : Nat) : Int)) ∧ inR .i64 n, inR .i64 ((1 * ((2 ^ ((((Lib.bitLen n.toNat : Nat) : Int) + 1) / 2).toNat : Nat) : Int)) + (n / (1 * ((2 ^ ((((Lib.bitLen n.toNat : Nat) : Int) + 1) / 2).toNat : Nat) : Int)))), (0 : Int) ≤ ((1 * ((2 ^ ((((Lib.bitLen n.toNat : Nat) : Int) + 1) / 2).toNat : Nat) : Int)) + (n / (1 * ((2 ^ ((((Lib.bitLen n.toNat : Nat) : Int) + 1) / 2).toNat : Nat) : Int)))) ∧ (0 : Int) < 2 ∧ inR .i64 ((1 * ((2 ^ ((((Lib.bitLen n.toNat : Nat) : Int) + 1) / 2).toNat : Nat) : Int)) + (n / (1 * ((2 ^ ((((Lib.bitLen n.toNat : Nat) : Int) + 1) / 2).toNat : Nat) : Int))))] hB ⟨⟨om, om, (Zac om om)⟩, (Zac om om), ⟨om, om, (Zac om om)⟩, trivial⟩ ?_
  refine Zau ?_
  refine Zcn (fun gn gσ => ∃ (r : Int) (next : Int), gn = r.toNat ∧ (0 < r ∧ r ≤ 33554432) ∧ (n < (r + 1) * (r + 1)) ∧ (next = (r + n / r) / 2) ∧ gσ = mkS [(0, I n), (3, I r), (4, I next)] []) ((1 * ((2 ^ ((((Lib.bitLen n.toNat : Nat) : Int) + 1) / 2).toNat : Nat) : Int)).toNat) ⟨(1 * ((2 ^ ((((Lib.bitLen n.toNat : Nat) : Int) + 1) / 2).toNat : Nat) : Int)), (((1 * ((2 ^ ((((Lib.bitLen n.toNat : Nat) : Int) + 1) / 2).toNat : Nat) : Int)) + (n / (1 * ((2 ^ ((((Lib.bitLen n.toNat : Nat) : Int) + 1) / 2).toNat : Nat) : Int)))) / 2), rfl, om, (by exact hb3), (by rfl), rfl⟩ (fun gn gσ hI => ?_)
  obtain ⟨r, next, rfl, hr0, hr1, hr2, rfl⟩ := hI
  refine Zah ?_
  refine Zah ?_
  by_cases h2 : next < r
  ·have hn1 := newton (n := n) hr0.1
   rw [← hr2] at hn1
   have hq1 := Yic (r := r) hn.1 hr0.1
   have hnp := Yef (q := next) om om hn1
   have hq2 := Yic (r := next) hn.1 hnp
   refine Zbm [(2, .dec true)] [0, 3, 4, 21] [] [_] hB ⟨h2, trivial⟩ ?_
   refine Zaa ?_
   refine Zbq ?_
   refine Zas ?_
   refine Zaa ?_
   refine Zah ?_
   refine Zau ?_
   refine Zbm [] [0, 3] [] [] hB trivial ?_
   refine Zba 1 ?_
   refine Zaa ?_
   refine Zdg [(3, .nn), (5, .nn)] [0, 3, 4] [] [I n, I next, I ((next + (n / next)) / 2)] [] [(0 : Int) ≤ n ∧ (0 : Int) < next ∧ inR .i64 n, inR .i64 (next + (n / next)), (0 : Int) ≤ (next + (n / next)) ∧ (0 : Int) < 2 ∧ inR .i64 (next + (n / next))] hB ⟨⟨om, om, (Zac om om)⟩, (Zac om om), ⟨om, om, (Zac om om)⟩, trivial⟩ ?_
   exact Zbf _ om ⟨next, ((next + (n / next)) / 2), rfl, om, (by exact hn1), (by rfl), rfl⟩
  have hfin := Yeg hr0.1 (by rw [← hr2]; exact h2)
  refine Zbm [(2, .dec false)] [0, 3, 4, 21] [] [_] hB ⟨h2, trivial⟩ ?_
  refine Zaa ?_
  refine Zbj ?_
  refine Zcj ?_
  refine Zal ?_
  refine Zal ?_
  refine Zaw ?_
  refine Zaa ?_
  refine aR [] [2] [] [I r] [] [] hB trivial ?_
  refine Zam ?_
  refine Zan hB (I r) (by kernel_rfl) (.inl (by first | (exact congrArg I (Eq.symm (Zvl om hfin hr1))) | (refine congrArg I ?_; rw [h1]; rfl))) rfl (fun _ => trivial)
theorem Yah (a : Point) (b : Point) (ha : okP a = true) (hb : okP b = true) : Con Tryz.prog 180 [Zct a, Zct b] true (I (Zxx a b)) := by
 have ha' := Zfi.1 ha
 have hb' := Zfi.1 hb
 have hfb := Zxw ha hb
 have hlb := Znu ha hb
 refine Zbu (fn := Tryz.f180) (nt := 10) Tryz.func180 rfl rfl rfl rfl (by simp [Zag, Zaj]) fun B hB => ?_
 refine aQ [(0, .new 2), (1, .new 3)] [2, 3] [2, 3] [] hB trivial ?_
 refine aR [(2, .call [(true, .any), (true, .any)] true (I (Zsv a b))), (4, .call [(true, .any)] true (I (Ziw (256 * (Zsv a b)))))] [4] [] [I (Ziw (256 * (Zsv a b)))] [] [_ ∧ True, inR .i64 (256 * (Zsv a b)), _ ∧ True] hB ⟨⟨(Yee a b ha hb), trivial⟩, (Zac om om), ⟨(Yib (256 * (Zsv a b)) om), trivial⟩, trivial⟩ ?_
 refine Zam ?_
 refine Zan hB (I (Ziw (256 * (Zsv a b)))) (by kernel_rfl) (.inl (by first | rfl | (refine congrArg Bv ?_; simp [*]; done) | (refine congrArg Bv ?_; simp [*]; omega) | (refine congrArg Bv ?_; simp_all []; done) | (refine congrArg Bv ?_; simp_all []; omega))) rfl (fun _ => trivial)
theorem Yid (s : Stroke) (ok : Zar s = true) : Con Tryz.prog 155 [.agg [Zaq false s.Points]] true (slI true (Zei s.Points s.Points.length)) := by
  have hln := Zeo ok
  refine Zbu (fn := Tryz.f155) (nt := 35) Tryz.func155 rfl rfl rfl rfl (by simp [Zag, Zaj, Zec]) fun B hB => ?_
  refine Zbt (x := .agg [Zaq false s.Points]) 0 rfl (fun len_s => ?_)
  simp [Zdk, Zgf, Zee, Zdl, Zaq] at len_s
  refine aQ [(0, .new 1)] [1] [1] [] hB trivial ?_
  refine aQ [(0, .new 5)] [1, 3] [1, 5] [] hB trivial ?_
  refine Zah ?_
  refine aR [] [1, 3, 4] [1, 5] [.ref 1 0, .arr 5, I 1] [some (.box [Zaq false s.Points]), some (.arr 1 1 (Zgm [I 0] 1))] [] hB trivial ?_
  refine Zau ?_
  refine Zhz hB [] (T := [(1, .ref 1 0), (3, .arr 5), (4, I 1)]) (O := [(1, .box [Zaq false s.Points]), (5, tAI ([0]))]) rfl (⟨.inl rfl, .inl rfl, .inl rfl, trivial⟩) (⟨.inl rfl, .inr ⟨rfl, (by first | rfl | (simp; done) | (simp; omega) | omega), fun i_ hi_ => .inl (match i_, hi_ with | 0, _ => rfl | (i + 1), h => absurd h (by simp))⟩, trivial⟩) ?_
  refine Zcn (fun gn gσ => ∃ (arcs : List Int) (k : Int), gn = ((s.Points.length : Int) - k).toNat ∧ (1 ≤ k ∧ k ≤ (s.Points.length : Int)) ∧ (arcs = Zei s.Points k.toNat) ∧ gσ = mkS [(1, .ref 1 0), (3, .arr 5), (4, I k)] [(1, .box [Zaq false s.Points]), (5, tAI arcs)]) (((s.Points.length : Int) - 1).toNat) ⟨[0], 1, rfl, om, (by rfl), rfl⟩ (fun gn gσ hI => ?_)
  obtain ⟨arcs, k, rfl, hi0, hs0, rfl⟩ := hI
  refine Zah ?_
  refine Zah ?_
  by_cases h1 : k < (s.Points.length : Int)
  ·have hi : k.toNat < s.Points.length := by omega
   have hi2 : (k - 1).toNat < s.Points.length := by omega
   have hp1 := Zig ok hi2
   have hp2 := Zig ok hi
   have hlb := Znu hp1 hp2
   have hal : arcs.length = k.toNat := by rw [hs0, Zmy]
   have hav : at_ arcs (k - 1).toNat = Zvv s.Points k.toNat := by rw [hs0, Zpk om]; congr 1; omega
   have hsb := Zvm ok k.toNat om
   refine Zbm [(4, .dec true)] [1, 3, 4, 10] [1, 5] [_] hB ⟨h1, trivial⟩ ?_
   refine Zaa ?_
   refine Zbq ?_
   refine Zas ?_
   refine Zaa ?_
   refine Zah ?_
   refine Zau ?_
   refine Zbm [(17, .call [(true, .any), (true, .any)] true (I (Zxx (at_ s.Points ((k - 1).toNat)) (at_ s.Points k.toNat)))), (19, .new 32), (20, .new 33)] [1, 3, 4] [1, 33] [inR .i64 (k - 1), (0 : Int) ≤ (k - 1) ∧ (k - 1) < (arcs.length : Int), (k - 1).toNat < arcs.length, inR .i64 (k - 1), (0 : Int) ≤ (k - 1) ∧ (k - 1) < (s.Points.length : Int), (0 : Int) ≤ k ∧ k < (s.Points.length : Int), _ ∧ True, inR .i64 ((at_ arcs ((k - 1).toNat)) + (Zxx (at_ s.Points ((k - 1).toNat)) (at_ s.Points k.toNat))), (arcs.length + 1) * 8 ≤ 140737488355328] hB ⟨(Zac om om), ⟨om, om⟩, om, (Zac om om), ⟨om, om⟩, ⟨om, om⟩, ⟨(Yah (at_ s.Points ((k - 1).toNat)) (at_ s.Points k.toNat) hp1 hp2), trivial⟩, (Zac om om), om, trivial⟩ ?_
   refine Zba 1 ?_
   refine Zaa ?_
   refine Zdg [] [1, 3, 4] [1, 33] [.ref 1 0, .arr 33, I (k + 1)] [some (.box [Zaq false s.Points]), some (.arr 1 (arcs.length + 1) (Zgb arcs.length (fI arcs) (Zgm [I ((at_ arcs ((k - 1).toNat)) + (Zxx (at_ s.Points ((k - 1).toNat)) (at_ s.Points k.toNat)))] 1)))] [inR .i64 (k + 1)] hB ⟨(Zac om om), trivial⟩ ?_
   refine Zeq hB [(5, 33)] (T := [(1, .ref 1 0), (3, .arr 5), (4, I (k + 1))]) (O := [(1, .box [Zaq false s.Points]), (5, tAI (arcs ++ [((at_ arcs ((k - 1).toNat)) + (Zxx (at_ s.Points ((k - 1).toNat)) (at_ s.Points k.toNat)))]))]) rfl (⟨.inl rfl, .inl rfl, .inl rfl, trivial⟩) (⟨.inl rfl, .inr ⟨rfl, (by first | rfl | (simp; done) | (simp; omega) | omega), fun i_ hi_ => .inl (Zcm (enc := cI) (xs := arcs) rfl i_ hi_)⟩, trivial⟩) (Zbf _ om ⟨(arcs ++ [((at_ arcs ((k - 1).toNat)) + (Zxx (at_ s.Points ((k - 1).toNat)) (at_ s.Points k.toNat)))]), (k + 1), rfl, om, (by have e : (k + 1).toNat = k.toNat + 1 := om; rw [e, Zsw, ← e, Zxy hi0.1, ← hs0, hav]), rfl⟩)
  have hie : k.toNat = s.Points.length := by omega
  rw [hie] at hs0
  subst hs0
  refine Zbm [(4, .dec false)] [1, 3, 4, 10] [1, 5] [_] hB ⟨h1, trivial⟩ ?_
  refine Zaa ?_
  refine Zbj ?_
  refine Zcj ?_
  refine Zal ?_
  refine Zal ?_
  refine Zaw ?_
  refine Zaa ?_
  refine aR [] [2] [5] [.arr 5] [some (tAI (Zei s.Points s.Points.length))] [] hB trivial ?_
  refine Zam ?_
  refine Zan hB (.arr 5) (by kernel_rfl) (.inr ⟨(fun _ => rfl), rfl, rfl, fun i _ => .inl rfl⟩) rfl (fun _ => (tagI true _))
theorem Yai (n : Int) (d : Int) (hn : (-4611686018427387904 ≤ n ∧ n ≤ 4611686018427387904) ∧ 0 < d) : Con Tryz.prog 182 [I n, I d] true (I (n / d)) := by
  have hq := Yie n d
  have hs := Zxz n hn.2
  refine Zbu (fn := Tryz.f182) (nt := 16) Tryz.func182 rfl rfl rfl rfl (by simp [Zag, Zaj]) fun B hB => ?_
  refine aQ [] [0, 1] [] [] hB trivial ?_
  refine aQ [] [0, 1, 5] [] [(d : Int) ≠ 0 ∧ inR .i64 (Int.tdiv n d)] hB ⟨⟨by omega, (Zac om om)⟩, trivial⟩ ?_
  refine Zah ?_
  refine Zah ?_
  by_cases h1 : (Int.tmod n d) < 0
  ·refine Zbm [(3, .dec true)] [5, 12] [] [(d : Int) ≠ 0, _] hB ⟨om, h1, trivial⟩ ?_
   refine Zaa ?_
   refine Zbq ?_
   refine Zbm [] [5] [] [inR .i64 ((Int.tdiv n d) - 1)] hB ⟨(Zac om om), trivial⟩ ?_
   refine Zaa ?_
   refine aR [] [4] [] [I ((Int.tdiv n d) - 1)] [] [] hB trivial ?_
   refine Zam ?_
   refine Zan hB (I ((Int.tdiv n d) - 1)) (by kernel_rfl) (.inl (by refine congrArg I ?_; first | exact hs.1 (by assumption) | exact hs.2 (by assumption))) rfl (fun _ => trivial)
  refine Zbm [(3, .dec false)] [5, 12] [] [(d : Int) ≠ 0, _] hB ⟨om, h1, trivial⟩ ?_
  refine Zaa ?_
  refine Zbj ?_
  refine Zas ?_
  refine Zaa ?_
  refine aR [] [4] [] [I (Int.tdiv n d)] [] [] hB trivial ?_
  refine Zam ?_
  refine Zan hB (I (Int.tdiv n d)) (by kernel_rfl) (.inl (by refine congrArg I ?_; first | exact hs.1 (by assumption) | exact hs.2 (by assumption))) rfl (fun _ => trivial)
theorem Zhn (n : Int) (d : Int) (hn : (-1000000000000000000 ≤ n ∧ n ≤ 1000000000000000000) ∧ 0 < d ∧ d ≤ 1000000000000000000) : Con Tryz.prog 158 [I n, I d] true (I (Zed n d)) := by
  have hs := Zya n hn.2.1
  have hrb := rest_bd n hn.2.1
  have heb := ediv_bd n hn.2.1
  refine Zbu (fn := Tryz.f158) (nt := 23) Tryz.func158 rfl rfl rfl rfl (by simp [Zag, Zaj]) fun B hB => ?_
  refine aQ [] [0, 1] [] [] hB trivial ?_
  refine aQ [(2, .call [(true, .any), (true, .any)] true (I (n / d)))] [0, 1, 5] [] [_ ∧ True] hB ⟨⟨(Yai n d om), trivial⟩, trivial⟩ ?_
  refine Zah ?_
  refine aQ [] [1, 5, 6] [] [inR .i64 ((n / d) * d), inR .i64 (n - ((n / d) * d))] hB ⟨(Zac om om), (Zac om om), trivial⟩ ?_
  refine Zah ?_
  by_cases h1 : (d - (n - ((n / d) * d))) ≤ (n - ((n / d) * d))
  ·refine Zbm [(4, .dec true)] [5, 19] [] [inR .i64 (d - (n - ((n / d) * d))), _] hB ⟨(Zac om om), h1, trivial⟩ ?_
   refine Zaa ?_
   refine Zbq ?_
   refine Zbm [] [5] [] [inR .i64 ((n / d) + 1)] hB ⟨(Zac om om), trivial⟩ ?_
   refine Zaa ?_
   refine aR [] [4] [] [I ((n / d) + 1)] [] [] hB trivial ?_
   refine Zam ?_
   refine Zan hB (I ((n / d) + 1)) (by kernel_rfl) (.inl (by refine congrArg I ?_; first | exact hs.1 (by assumption) | exact hs.2 (by assumption))) rfl (fun _ => trivial)
  refine Zbm [(4, .dec false)] [5, 19] [] [inR .i64 (d - (n - ((n / d) * d))), _] hB ⟨(Zac om om), h1, trivial⟩ ?_
  refine Zaa ?_
  refine Zbj ?_
  refine Zas ?_
  refine Zaa ?_
  refine aR [] [4] [] [I (n / d)] [] [] hB trivial ?_
  refine Zam ?_
  refine Zan hB (I (n / d)) (by kernel_rfl) (.inl (by refine congrArg I ?_; first | exact hs.1 (by assumption) | exact hs.2 (by assumption))) rfl (fun _ => trivial)
theorem Yif (p : Point) : Con Tryz.prog 181 [Zct p] true (.agg [I p.X, I p.Y]) := by
 refine Zbu (fn := Tryz.f181) (nt := 8) Tryz.func181 rfl rfl rfl rfl (by simp [Zag, Zaj]) fun B hB => ?_
 refine aQ [(0, .new 1), (1, .new 2)] [1, 2] [1, 2] [] hB trivial ?_
 refine aR [] [2] [2] [.ref 2 0] [some (.box [I p.X, I p.Y])] [] hB trivial ?_
 refine Zam ?_
 refine Zan hB (.agg [I p.X, I p.Y]) (by kernel_rfl) (.inl rfl) rfl (fun _ => (by simp [Zaj, Zag]))
theorem Yig (s : Stroke) (arcs : List Int) (part : Int) (parts : Int) (ok : Zar s = true) (ha : arcs = Zei s.Points s.Points.length) (hp : (0 ≤ part ∧ part ≤ parts) ∧ (1 ≤ parts ∧ parts ≤ 1000)) : Con Tryz.prog 156 [.agg [Zaq false s.Points], slI false arcs, I part, I parts] true (.agg [I ((Zfw s part parts).X), I ((Zfw s part parts).Y)]) := by
  have hln := Zeo ok
  have hal : arcs.length = s.Points.length := by rw [ha, Zmy]
  have hat : ∀ j, j < s.Points.length → at_ arcs j = Zhb s j := by intro j hj; rw [ha]; exact Zpk hj
  have e0 : at_ arcs ((arcs.length : Int) - 1).toNat = Zhb s (s.Points.length - 1) := (hat _ om).trans (by congr 1; omega)
  have hb0 := Zme ok (k := s.Points.length - 1) om
  rw [← e0] at hb0
  have hm0 := Zih hb0.1 hb0.2 hp.1.1 (by omega : part ≤ 1000)
  refine Zbu (fn := Tryz.f156) (nt := 103) Tryz.func156 rfl rfl rfl rfl (by simp [Zag, Zaj, tagI, Zec]) fun B hB => ?_
  refine Zbt (x := .agg [Zaq false s.Points]) 0 rfl (fun len_s => ?_)
  simp [Zdk, Zgf, Zee, Zdl, Zaq] at len_s
  refine Zbt (x := slI false arcs) 1 rfl (fun len_arcs => ?_)
  simp [Zdk, Zgf, cI, fI, slI] at len_arcs
  refine aQ [(0, .new 4), (1, .new 8)] [1, 2, 3, 4, 8] [4, 8] [] hB trivial ?_
  refine aQ [] [1, 3, 4, 8, 9] [4, 8] [inR .i64 ((arcs.length : Int) - 1), (0 : Int) ≤ ((arcs.length : Int) - 1) ∧ ((arcs.length : Int) - 1) < (arcs.length : Int), inR .i64 ((at_ arcs (((arcs.length : Int) - 1).toNat)) * part)] hB ⟨(Zac om om), ⟨om, om⟩, (Zac om om), trivial⟩ ?_
  refine Zah ?_
  refine aR [] [1, 3, 4, 8, 9, 10] [4, 8] [slI false arcs, I parts, .ref 4 0, .ref 8 0, I ((at_ arcs (((arcs.length : Int) - 1).toNat)) * part), I 1] [some (.box [Zaq false s.Points]), some (.box [I 0, I 0])] [] hB trivial ?_
  refine Zau ?_
  refine Zcn (fun gn gσ => ∃ (k : Int), gn = ((arcs.length : Int) - k).toNat ∧ (1 ≤ k ∧ k ≤ (arcs.length : Int)) ∧ (∀ j : Nat, (j : Int) < k → Zix s part parts j = false) ∧ gσ = mkS [(1, slI false arcs), (3, I parts), (4, .ref 4 0), (8, .ref 8 0), (9, I ((at_ arcs (((arcs.length : Int) - 1).toNat)) * part)), (10, I k)] [(4, .box [Zaq false s.Points]), (8, .box [I 0, I 0])]) (((arcs.length : Int) - 1).toNat) ⟨1, rfl, om, (by intro j hj; exact Znv (fun q => by omega)), rfl⟩ (fun gn gσ hI => ?_)
  obtain ⟨k, rfl, hi0, hn0, rfl⟩ := hI
  refine Zah ?_
  refine Zah ?_
  by_cases h1 : k < (arcs.length : Int)
  ·have hi : k.toNat < s.Points.length := by omega
   have ei : (k - 1).toNat = k.toNat - 1 := by omega
   have e1 := hat k.toNat hi
   have e2 : at_ arcs (k - 1).toNat = Zhb s (k.toNat - 1) := (hat _ om).trans (by rw [ei])
   have hb1 := Zme ok hi
   have hb2 := Zme ok (k := k.toNat - 1) om
   have hup := Yaj ok hi om
   rw [← e1] at hb1
   rw [← e2] at hb2
   rw [← e1, ← e2] at hup
   have hm1 := Zih hb1.1 hb1.2 (by omega : 0 ≤ parts) hp.2.2
   have hm2 := Zih hb2.1 hb2.2 (by omega : 0 ≤ parts) hp.2.2
   have hm3 := Zih (x := at_ arcs k.toNat - at_ arcs (k - 1).toNat) (A := 5559540) om om (by omega : 0 ≤ parts) hp.2.2
   refine Zbm [(3, .dec true)] [1, 3, 4, 8, 9, 10, 27] [4, 8] [_] hB ⟨h1, trivial⟩ ?_
   refine Zaa ?_
   refine Zbq ?_
   refine Zas ?_
   refine Zaa ?_
   refine Zah ?_
   refine Zau ?_
   refine aQ [] [1, 3, 4, 8, 9, 10, 11] [4, 8] [(0 : Int) ≤ k ∧ k < (arcs.length : Int), inR .i64 (k - 1), (0 : Int) ≤ (k - 1) ∧ (k - 1) < (arcs.length : Int), inR .i64 ((at_ arcs k.toNat) - (at_ arcs ((k - 1).toNat)))] hB ⟨⟨om, om⟩, (Zac om om), ⟨om, om⟩, (Zac om om), trivial⟩ ?_
   refine Zah ?_
   refine Zah ?_
   by_cases h2 : ((at_ arcs k.toNat) - (at_ arcs ((k - 1).toNat))) = 0
   ·have hst : Zix s part parts k.toNat = false := Znv (by rintro ⟨_, q, _⟩; rw [← e1, ← e2] at q; omega)
    refine Zbm [(1, .dec true)] [1, 3, 4, 8, 9, 10, 11, 51] [4, 8] [_] hB ⟨h2, trivial⟩ ?_
    refine Zaa ?_
    refine Zbq ?_
    refine Zcj ?_
    refine Zal ?_
    refine Zaw ?_
    refine Zaa ?_
    refine Zdg [] [1, 3, 4, 8, 9, 10] [4, 8] [slI false arcs, I parts, .ref 4 0, .ref 8 0, I ((at_ arcs (((arcs.length : Int) - 1).toNat)) * part), I (k + 1)] [some (.box [Zaq false s.Points]), some (.box [I 0, I 0])] [inR .i64 (k + 1)] hB ⟨(Zac om om), trivial⟩ ?_
    exact Zbf _ om ⟨(k + 1), rfl, om, (by exact up_to (n := 0) om hn0 hst), rfl⟩
   by_cases h3 : ((at_ arcs k.toNat) * parts) < ((at_ arcs (((arcs.length : Int) - 1).toNat)) * part)
   ·have hst : Zix s part parts k.toNat = false := Znv (by rintro ⟨_, _, q⟩; rw [← e1, ← e0] at q; omega)
    refine Zbm [(1, .dec false), (10, .dec true)] [1, 3, 4, 8, 9, 10, 11, 51] [4, 8] [_, (0 : Int) ≤ k ∧ k < (arcs.length : Int), inR .i64 ((at_ arcs k.toNat) * parts), _] hB ⟨h2, ⟨om, om⟩, (Zac om om), h3, trivial⟩ ?_
    refine Zaa ?_
    refine Zbq ?_
    refine Zcj ?_
    refine Zal ?_
    refine Zaw ?_
    refine Zaa ?_
    refine Zdg [] [1, 3, 4, 8, 9, 10] [4, 8] [slI false arcs, I parts, .ref 4 0, .ref 8 0, I ((at_ arcs (((arcs.length : Int) - 1).toNat)) * part), I (k + 1)] [some (.box [Zaq false s.Points]), some (.box [I 0, I 0])] [inR .i64 (k + 1)] hB ⟨(Zac om om), trivial⟩ ?_
    exact Zbf _ om ⟨(k + 1), rfl, om, (by exact up_to (n := 0) om hn0 hst), rfl⟩
   have hst : Zix s part parts k.toNat = true := Zkz.2 (by rw [← e1, ← e0, ← e2]; omega)
   have hn1 : ∀ j, j < k.toNat → Zix s part parts j = false := fun j hj => hn0 j om
   have hr := Zqs ok om hi hst hn1
   rw [← e0, ← e1, ← e2] at hr
   have hpa := Zfi.1 (Zig ok (j := (k - 1).toNat) om)
   have hpb := Zfi.1 (Zig ok hi)
   have hmx := Zvn (x := (at_ s.Points k.toNat).X - (at_ s.Points (k - 1).toNat).X) (A := 4095) (B := 5559540000) om om hr.1.1 om
   have hmy := Zvn (x := (at_ s.Points k.toNat).Y - (at_ s.Points (k - 1).toNat).Y) (A := 4095) (B := 5559540000) om om hr.1.1 om
   have hnx := Zfj (x := (at_ s.Points k.toNat).X - (at_ s.Points (k - 1).toNat).X) hr.2 hr.1.1 hr.1.2
   have hny := Zfj (x := (at_ s.Points k.toNat).Y - (at_ s.Points (k - 1).toNat).Y) hr.2 hr.1.1 hr.1.2
   have hsp := Zvo hi hst hn1
   refine Zbm [(1, .dec false), (10, .dec false)] [1, 3, 4, 8, 9, 10, 11, 51] [4, 8] [_, (0 : Int) ≤ k ∧ k < (arcs.length : Int), inR .i64 ((at_ arcs k.toNat) * parts), _] hB ⟨h2, ⟨om, om⟩, (Zac om om), h3, trivial⟩ ?_
   refine Zaa ?_
   refine Zbj ?_
   refine Zas ?_
   refine Zaa ?_
   refine aQ [(11, .new 12), (12, .new 13)] [1, 3, 8, 9, 10, 11, 12, 13] [8, 12, 13] [inR .i64 (k - 1), (0 : Int) ≤ (k - 1) ∧ (k - 1) < (s.Points.length : Int), (0 : Int) ≤ k ∧ k < (s.Points.length : Int)] hB ⟨(Zac om om), ⟨om, om⟩, ⟨om, om⟩, trivial⟩ ?_
   refine aQ [] [8, 12, 13, 14, 15] [8, 12, 13] [inR .i64 (k - 1), (0 : Int) ≤ (k - 1) ∧ (k - 1) < (arcs.length : Int), inR .i64 ((at_ arcs ((k - 1).toNat)) * parts), inR .i64 (((at_ arcs (((arcs.length : Int) - 1).toNat)) * part) - ((at_ arcs ((k - 1).toNat)) * parts)), inR .i64 (((at_ arcs k.toNat) - (at_ arcs ((k - 1).toNat))) * parts)] hB ⟨(Zac om om), ⟨om, om⟩, (Zac om om), (Zac om om), (Zac om om), trivial⟩ ?_
   refine aR [(10, .call [(true, .any), (true, .any)] true (I (Zed ((((at_ s.Points k.toNat).X) - ((at_ s.Points ((k - 1).toNat)).X)) * (((at_ arcs (((arcs.length : Int) - 1).toNat)) * part) - ((at_ arcs ((k - 1).toNat)) * parts))) (((at_ arcs k.toNat) - (at_ arcs ((k - 1).toNat))) * parts)))), (22, .call [(true, .any), (true, .any)] true (I (Zed ((((at_ s.Points k.toNat).Y) - ((at_ s.Points ((k - 1).toNat)).Y)) * (((at_ arcs (((arcs.length : Int) - 1).toNat)) * part) - ((at_ arcs ((k - 1).toNat)) * parts))) (((at_ arcs k.toNat) - (at_ arcs ((k - 1).toNat))) * parts))))] [8] [8] [.ref 8 0] [some (.box [I (((at_ s.Points ((k - 1).toNat)).X) + (Zed ((((at_ s.Points k.toNat).X) - ((at_ s.Points ((k - 1).toNat)).X)) * (((at_ arcs (((arcs.length : Int) - 1).toNat)) * part) - ((at_ arcs ((k - 1).toNat)) * parts))) (((at_ arcs k.toNat) - (at_ arcs ((k - 1).toNat))) * parts))), I (((at_ s.Points ((k - 1).toNat)).Y) + (Zed ((((at_ s.Points k.toNat).Y) - ((at_ s.Points ((k - 1).toNat)).Y)) * (((at_ arcs (((arcs.length : Int) - 1).toNat)) * part) - ((at_ arcs ((k - 1).toNat)) * parts))) (((at_ arcs k.toNat) - (at_ arcs ((k - 1).toNat))) * parts)))])] [inR .i64 (((at_ s.Points k.toNat).X) - ((at_ s.Points ((k - 1).toNat)).X)), inR .i64 ((((at_ s.Points k.toNat).X) - ((at_ s.Points ((k - 1).toNat)).X)) * (((at_ arcs (((arcs.length : Int) - 1).toNat)) * part) - ((at_ arcs ((k - 1).toNat)) * parts))), _ ∧ True, inR .i64 (((at_ s.Points ((k - 1).toNat)).X) + (Zed ((((at_ s.Points k.toNat).X) - ((at_ s.Points ((k - 1).toNat)).X)) * (((at_ arcs (((arcs.length : Int) - 1).toNat)) * part) - ((at_ arcs ((k - 1).toNat)) * parts))) (((at_ arcs k.toNat) - (at_ arcs ((k - 1).toNat))) * parts))), inR .i64 (((at_ s.Points k.toNat).Y) - ((at_ s.Points ((k - 1).toNat)).Y)), inR .i64 ((((at_ s.Points k.toNat).Y) - ((at_ s.Points ((k - 1).toNat)).Y)) * (((at_ arcs (((arcs.length : Int) - 1).toNat)) * part) - ((at_ arcs ((k - 1).toNat)) * parts))), _ ∧ True, inR .i64 (((at_ s.Points ((k - 1).toNat)).Y) + (Zed ((((at_ s.Points k.toNat).Y) - ((at_ s.Points ((k - 1).toNat)).Y)) * (((at_ arcs (((arcs.length : Int) - 1).toNat)) * part) - ((at_ arcs ((k - 1).toNat)) * parts))) (((at_ arcs k.toNat) - (at_ arcs ((k - 1).toNat))) * parts)))] hB ⟨(Zac om om), (Zac om om), ⟨(Zhn ((((at_ s.Points k.toNat).X) - ((at_ s.Points ((k - 1).toNat)).X)) * (((at_ arcs (((arcs.length : Int) - 1).toNat)) * part) - ((at_ arcs ((k - 1).toNat)) * parts))) (((at_ arcs k.toNat) - (at_ arcs ((k - 1).toNat))) * parts) om), trivial⟩, (Zac om om), (Zac om om), (Zac om om), ⟨(Zhn ((((at_ s.Points k.toNat).Y) - ((at_ s.Points ((k - 1).toNat)).Y)) * (((at_ arcs (((arcs.length : Int) - 1).toNat)) * part) - ((at_ arcs ((k - 1).toNat)) * parts))) (((at_ arcs k.toNat) - (at_ arcs ((k - 1).toNat))) * parts) om), trivial⟩, (Zac om om), trivial⟩ ?_
   refine Zam ?_
   refine Zao (Zak (Zak (Zao (Zak ?_))))
   refine Zan hB (.agg [I (((at_ s.Points ((k - 1).toNat)).X) + (Zed ((((at_ s.Points k.toNat).X) - ((at_ s.Points ((k - 1).toNat)).X)) * (((at_ arcs (((arcs.length : Int) - 1).toNat)) * part) - ((at_ arcs ((k - 1).toNat)) * parts))) (((at_ arcs k.toNat) - (at_ arcs ((k - 1).toNat))) * parts))), I (((at_ s.Points ((k - 1).toNat)).Y) + (Zed ((((at_ s.Points k.toNat).Y) - ((at_ s.Points ((k - 1).toNat)).Y)) * (((at_ arcs (((arcs.length : Int) - 1).toNat)) * part) - ((at_ arcs ((k - 1).toNat)) * parts))) (((at_ arcs k.toNat) - (at_ arcs ((k - 1).toNat))) * parts)))]) (by kernel_rfl) (.inl (by first | (rw [hnone]; done) | (rw [hnone]; rfl) | (rw [hsp]; simp only [Yak, e0, e1, e2]; simp only [ei]))) rfl (fun _ => (by simp [Zaj, Zag]))
  have hnone := Znw (s := s) (part := part) (parts := parts) (fun j hj => hn0 j om)
  refine Zbm [(3, .dec false)] [1, 3, 4, 8, 9, 10, 27] [4, 8] [_] hB ⟨h1, trivial⟩ ?_
  refine Zaa ?_
  refine Zbj ?_
  refine Zcj ?_
  refine Zal ?_
  refine Zal ?_
  refine Zaw ?_
  refine Zaa ?_
  refine aR [(1, .call [(true, .any)] true (Zct (at_ s.Points 0))), (2, .call [(true, .any)] true (.agg [I ((at_ s.Points 0).X), I ((at_ s.Points 0).Y)]))] [8] [8] [.ref 8 0] [some (.box [I ((at_ s.Points 0).X), I ((at_ s.Points 0).Y)])] [_ ∧ True, _ ∧ True] hB ⟨⟨(Zky s ok), trivial⟩, ⟨(Yif (at_ s.Points 0)), trivial⟩, trivial⟩ ?_
  refine Zam ?_
  refine Zan hB (.agg [I ((at_ s.Points 0).X), I ((at_ s.Points 0).Y)]) (by kernel_rfl) (.inl (by first | (rw [hnone]; done) | (rw [hnone]; rfl) | (rw [hsp]; simp only [Yak, e0, e1, e2]; simp only [ei]))) rfl (fun _ => (by simp [Zaj, Zag]))
theorem Yal (s : Stroke) (n : Int) (ok : Zar s = true) (hn : 2 ≤ n ∧ n ≤ 24) : Con Tryz.prog 119 [.agg [Zaq false s.Points], I n] true (Zdy true (Zbi s n)) := by
  refine Zbu (fn := Tryz.f119) (nt := 25) Tryz.func119 rfl rfl rfl rfl (by simp [Zag, Zaj, Zec]) fun B hB => ?_
  refine Zbt (x := .agg [Zaq false s.Points]) 0 rfl (fun len_s => ?_)
  simp [Zdk, Zgf, Zee, Zdl, Zaq] at len_s
  refine aQ [(0, .new 2)] [1, 2] [2] [] hB trivial ?_
  refine aQ [(1, .call [(true, .any)] true (slI true (Zei s.Points s.Points.length)))] [1, 2, 5] [2] [_ ∧ True] hB ⟨⟨(Yid s ok), trivial⟩, trivial⟩ ?_
  refine aQ [] [1, 2, 5, 6] [2] [] hB trivial ?_
  refine Zah ?_
  refine aR [] [1, 2, 5, 6, 7] [2] [I n, .ref 2 0, slI true (Zei s.Points s.Points.length), Zcr, I 0] [some (.box [Zaq false s.Points])] [] hB trivial ?_
  refine Zau ?_
  refine Ybg hB 6 706 2 (fun _ => []) (by kernel_rfl) ?_
  refine Zhz hB [] (T := [(1, I n), (2, .ref 2 0), (5, slI true (Zei s.Points s.Points.length)), (6, .arr 706), (7, I 0)]) (O := [(2, .box [Zaq false s.Points]), (706, Zog ([] : List Spot))]) rfl (⟨.inl rfl, .inl rfl, .inl rfl, .inl rfl, .inl rfl, trivial⟩) (⟨.inl rfl, .inr ⟨rfl, (by first | rfl | (simp; done) | (simp; omega) | omega), fun i_ hi_ => absurd hi_ (Nat.not_lt_zero _)⟩, trivial⟩) ?_
  refine Zcn (fun gn gσ => ∃ (list : List Spot) (k : Int), gn = (n - k).toNat ∧ (0 ≤ k ∧ k ≤ n) ∧ ((list.length : Int) = k) ∧ (list = resK s n k.toNat) ∧ gσ = mkS [(1, I n), (2, .ref 2 0), (5, slI true (Zei s.Points s.Points.length)), (6, .arr 706), (7, I k)] [(2, .box [Zaq false s.Points]), (706, Zog list)]) ((n - 0).toNat) ⟨([] : List Spot), 0, rfl, om, (by rfl), (by rfl), rfl⟩ (fun gn gσ hI => ?_)
  obtain ⟨list, k, rfl, hk0, hll, hl0, rfl⟩ := hI
  refine Zah ?_
  refine Zah ?_
  by_cases h1 : k < n
  ·refine Zbm [(2, .dec true)] [1, 2, 5, 6, 7, 12] [2, 706] [_] hB ⟨h1, trivial⟩ ?_
   refine Zaa ?_
   refine Zbq ?_
   refine Zas ?_
   refine Zaa ?_
   refine Zah ?_
   refine Zau ?_
   refine Zbm [(6, .call [(true, .any), (false, slI false (Zei s.Points s.Points.length)), (true, .any), (true, .any)] true (.agg [I ((Zfw s k (n - 1)).X), I ((Zfw s k (n - 1)).Y)])), (7, .new 22), (8, .new 23)] [1, 2, 5, 6, 7] [2, 23] [inR .i64 (n - 1), _ ∧ ((false = true → true = true) ∧ 1 = 1 ∧ ((Zei s.Points s.Points.length).length) = ((Zei s.Points s.Points.length).length) ∧ ∀ i_, i_ < ((Zei s.Points s.Points.length).length) → (fI (Zei s.Points s.Points.length)) i_ = (fI (Zei s.Points s.Points.length)) i_ ∨ (AV.idsL ((fI (Zei s.Points s.Points.length)) i_) = [] ∧ leL (fun _ => none) false ((fI (Zei s.Points s.Points.length)) i_) ((fI (Zei s.Points s.Points.length)) i_))) ∧ True, (list.length + 1) * 16 ≤ 140737488355328] hB ⟨(Zac om om), ⟨(Yig s (Zei s.Points s.Points.length) k (n - 1) ok (by first | rfl | assumption) om), ⟨(fun h => by cases h), rfl, rfl, fun i _ => .inl rfl⟩, trivial⟩, om, trivial⟩ ?_
   refine Zba 1 ?_
   refine Zaa ?_
   refine Zdg [] [1, 2, 5, 6, 7] [2, 23] [I n, .ref 2 0, slI true (Zei s.Points s.Points.length), .arr 23, I (k + 1)] [some (.box [Zaq false s.Points]), some (.arr 2 (list.length + 1) (Zgb list.length (fSpot list) (Zgm [I ((Zfw s k (n - 1)).X), I ((Zfw s k (n - 1)).Y)] 2)))] [inR .i64 (k + 1)] hB ⟨(Zac om om), trivial⟩ ?_
   refine Zeq hB [(706, 23)] (T := [(1, I n), (2, .ref 2 0), (5, slI true (Zei s.Points s.Points.length)), (6, .arr 706), (7, I (k + 1))]) (O := [(2, .box [Zaq false s.Points]), (706, Zog (list ++ [(Zfw s k (n - 1))]))]) rfl (⟨.inl rfl, .inl rfl, .inl rfl, .inl rfl, .inl rfl, trivial⟩) (⟨.inl rfl, .inr ⟨rfl, (by first | rfl | (simp; done) | (simp; omega) | omega), fun i_ hi_ => .inl (Zcm (enc := Yih) (xs := list) rfl i_ hi_)⟩, trivial⟩) (Zbf _ om ⟨(list ++ [(Zfw s k (n - 1))]), (k + 1), rfl, om, (by simp; omega), (by rw [Zyb om, ← hl0]), rfl⟩)
  have hke : k.toNat = n.toNat := by omega
  rw [hke] at hl0
  have hl1 : list = Zbi s n := hl0
  clear hl0
  subst hl1
  refine Zbm [(2, .dec false)] [1, 2, 5, 6, 7, 12] [2, 706] [_] hB ⟨h1, trivial⟩ ?_
  refine Zaa ?_
  refine Zbj ?_
  refine Zcj ?_
  refine Zal ?_
  refine Zal ?_
  refine Zaw ?_
  refine Zaa ?_
  refine aR [] [4] [706] [.arr 706] [some (Zog (Zbi s n))] [] hB trivial ?_
  refine Zam ?_
  refine Zan hB (.arr 706) (by kernel_rfl) (.inr ⟨(fun _ => rfl), rfl, rfl, fun i _ => .inl rfl⟩) rfl (fun _ => (Yii true _))
theorem Zir (n : Int) (hn : -9223372036854775807 ≤ n ∧ n ≤ 9223372036854775807) : Con Tryz.prog 122 [I n] true (I (n.natAbs : Int)) := by
  refine Zbu (fn := Tryz.f122) (nt := 8) Tryz.func122 rfl rfl rfl rfl (by simp [Zag, Zaj]) fun B hB => ?_
  refine aQ [] [0] [] [] hB trivial ?_
  refine Zah ?_
  refine Zah ?_
  by_cases h1 : n < 0
  ·refine Zbm [(1, .dec true)] [0, 4] [] [_] hB ⟨h1, trivial⟩ ?_
   refine Zaa ?_
   refine Zbq ?_
   refine aR [] [2] [] [I (-n)] [] [inR .i64 (-n)] hB ⟨(Zac om om), trivial⟩ ?_
   refine Zam ?_
   refine Zak ?_
   refine Zan hB (I (-n)) (by kernel_rfl) (.inl (by refine congrArg I ?_; omega)) rfl (fun _ => trivial)
  refine Zbm [(1, .dec false)] [0, 4] [] [_] hB ⟨h1, trivial⟩ ?_
  refine Zaa ?_
  refine Zbj ?_
  refine Zas ?_
  refine Zaa ?_
  refine aR [] [2] [] [I n] [] [] hB trivial ?_
  refine Zam ?_
  refine Zan hB (I n) (by kernel_rfl) (.inl (by refine congrArg I ?_; omega)) rfl (fun _ => trivial)
theorem Zrv (dx : Int) (dy : Int) (hd : (-4095 ≤ dx ∧ dx ≤ 4095) ∧ -4095 ≤ dy ∧ dy ≤ 4095) : Con Tryz.prog 120 [I dx, I dy] true (I (Zht dx dy)) := by
  have hx2 := Yct (x := (dx.natAbs : Int)) om om
  have hy2 := Yct (x := (dy.natAbs : Int)) om om
  have hs2 := Yeh (x := (dx.natAbs : Int) + (dy.natAbs : Int)) (B := 8190) om om
  have hz := @Ycu dx dy
  refine Zbu (fn := Tryz.f120) (nt := 68) Tryz.func120 rfl rfl rfl rfl (by simp [Zag, Zaj]) fun B hB => ?_
  refine aQ [] [0, 1] [] [] hB trivial ?_
  refine aQ [(1, .call [(true, .any)] true (I (dx.natAbs : Int))), (3, .call [(true, .any)] true (I (dy.natAbs : Int)))] [0, 1, 5, 6] [] [_ ∧ True, _ ∧ True] hB ⟨⟨(Zir dx om), trivial⟩, ⟨(Zir dy om), trivial⟩, trivial⟩ ?_
  refine aQ [] [0, 1, 5, 6, 7] [] [inR .i64 ((dx.natAbs : Int) + (dy.natAbs : Int)), inR .i64 ((dx.natAbs : Int) + (dy.natAbs : Int)), inR .i64 (((dx.natAbs : Int) + (dy.natAbs : Int)) * ((dx.natAbs : Int) + (dy.natAbs : Int)))] hB ⟨(Zac om om), (Zac om om), (Zac om om), trivial⟩ ?_
  refine Zah ?_
  refine Zau ?_
  refine Zah ?_
  by_cases h1 : (((dx.natAbs : Int) + (dy.natAbs : Int)) * ((dx.natAbs : Int) + (dy.natAbs : Int))) ≤ ((2 * (dx.natAbs : Int)) * (dx.natAbs : Int))
  ·by_cases h2 : 0 < dx
   ·refine Zbm [(5, .dec true), (8, .dec true)] [0, 1, 5, 6, 7, 19] [] [inR .i64 (2 * (dx.natAbs : Int)), inR .i64 ((2 * (dx.natAbs : Int)) * (dx.natAbs : Int)), _, _] hB ⟨(Zac om om), (Zac om om), h1, h2, trivial⟩ ?_
    refine Zaa ?_
    refine Zbq ?_
    refine aR [] [4] [] [I 0] [] [] hB trivial ?_
    refine Zam ?_
    refine Zao (Zak ?_)
    refine Zan hB (I 0) (by kernel_rfl) (.inl (by refine congrArg I ?_; unfold Zht; (repeat' split) <;> first | rfl | omega)) rfl (fun _ => trivial)
   refine Zbm [(5, .dec true), (8, .dec false)] [0, 1, 5, 6, 7, 19] [] [inR .i64 (2 * (dx.natAbs : Int)), inR .i64 ((2 * (dx.natAbs : Int)) * (dx.natAbs : Int)), _, _] hB ⟨(Zac om om), (Zac om om), h1, h2, trivial⟩ ?_
   refine Zaa ?_
   refine Zbj ?_
   refine aQ [(5, .dec true)] [0, 1, 6, 7, 30] [] [inR .i64 (2 * (dx.natAbs : Int)), inR .i64 ((2 * (dx.natAbs : Int)) * (dx.natAbs : Int)), _] hB ⟨(Zac om om), (Zac om om), h1, trivial⟩ ?_
   refine Zbq ?_
   refine aR [] [4] [] [I 4] [] [] hB trivial ?_
   refine Zam ?_
   refine Zao (Zak ?_)
   refine Zan hB (I 4) (by kernel_rfl) (.inl (by refine congrArg I ?_; unfold Zht; (repeat' split) <;> first | rfl | omega)) rfl (fun _ => trivial)
  refine Zbm [(5, .dec false)] [0, 1, 5, 6, 7, 19] [] [inR .i64 (2 * (dx.natAbs : Int)), inR .i64 ((2 * (dx.natAbs : Int)) * (dx.natAbs : Int)), _] hB ⟨(Zac om om), (Zac om om), h1, trivial⟩ ?_
  refine Zaa ?_
  refine Zbj ?_
  refine aQ [(5, .dec false)] [0, 1, 6, 7, 30] [] [inR .i64 (2 * (dx.natAbs : Int)), inR .i64 ((2 * (dx.natAbs : Int)) * (dx.natAbs : Int)), _] hB ⟨(Zac om om), (Zac om om), h1, trivial⟩ ?_
  refine Zbj ?_
  refine Zah ?_
  by_cases h3 : (((dx.natAbs : Int) + (dy.natAbs : Int)) * ((dx.natAbs : Int) + (dy.natAbs : Int))) ≤ ((2 * (dy.natAbs : Int)) * (dy.natAbs : Int))
  ·by_cases h4 : 0 < dy
   ·refine Zbm [(5, .dec true), (8, .dec true)] [0, 1, 6, 7, 37] [] [inR .i64 (2 * (dy.natAbs : Int)), inR .i64 ((2 * (dy.natAbs : Int)) * (dy.natAbs : Int)), _, _] hB ⟨(Zac om om), (Zac om om), h3, h4, trivial⟩ ?_
    refine Zaa ?_
    refine Zbq ?_
    refine aR [] [4] [] [I 2] [] [] hB trivial ?_
    refine Zam ?_
    refine Zao (Zak ?_)
    refine Zan hB (I 2) (by kernel_rfl) (.inl (by refine congrArg I ?_; unfold Zht; (repeat' split) <;> first | rfl | omega)) rfl (fun _ => trivial)
   refine Zbm [(5, .dec true), (8, .dec false)] [0, 1, 6, 7, 37] [] [inR .i64 (2 * (dy.natAbs : Int)), inR .i64 ((2 * (dy.natAbs : Int)) * (dy.natAbs : Int)), _, _] hB ⟨(Zac om om), (Zac om om), h3, h4, trivial⟩ ?_
   refine Zaa ?_
   refine Zbj ?_
   refine aQ [(5, .dec true)] [0, 1, 48] [] [inR .i64 (2 * (dy.natAbs : Int)), inR .i64 ((2 * (dy.natAbs : Int)) * (dy.natAbs : Int)), _] hB ⟨(Zac om om), (Zac om om), h3, trivial⟩ ?_
   refine Zbq ?_
   refine aR [] [4] [] [I 6] [] [] hB trivial ?_
   refine Zam ?_
   refine Zao (Zak ?_)
   refine Zan hB (I 6) (by kernel_rfl) (.inl (by refine congrArg I ?_; unfold Zht; (repeat' split) <;> first | rfl | omega)) rfl (fun _ => trivial)
  refine Zbm [(5, .dec false)] [0, 1, 6, 7, 37] [] [inR .i64 (2 * (dy.natAbs : Int)), inR .i64 ((2 * (dy.natAbs : Int)) * (dy.natAbs : Int)), _] hB ⟨(Zac om om), (Zac om om), h3, trivial⟩ ?_
  refine Zaa ?_
  refine Zbj ?_
  refine aQ [(5, .dec false)] [0, 1, 48] [] [inR .i64 (2 * (dy.natAbs : Int)), inR .i64 ((2 * (dy.natAbs : Int)) * (dy.natAbs : Int)), _] hB ⟨(Zac om om), (Zac om om), h3, trivial⟩ ?_
  refine Zbj ?_
  refine Zah ?_
  by_cases h5 : 0 < dx
  ·by_cases h6 : 0 < dy
   ·refine Zbm [(1, .dec true), (4, .dec true)] [0, 1, 55] [] [_, _] hB ⟨h5, h6, trivial⟩ ?_
    refine Zaa ?_
    refine Zbq ?_
    refine aR [] [4] [] [I 1] [] [] hB trivial ?_
    refine Zam ?_
    refine Zao (Zak ?_)
    refine Zan hB (I 1) (by kernel_rfl) (.inl (by refine congrArg I ?_; unfold Zht; (repeat' split) <;> first | rfl | omega)) rfl (fun _ => trivial)
   refine Zbm [(1, .dec true), (4, .dec false)] [0, 1, 55] [] [_, _] hB ⟨h5, h6, trivial⟩ ?_
   refine Zaa ?_
   refine Zbj ?_
   refine aQ [(1, .dec false)] [0, 62] [] [_] hB ⟨h6, trivial⟩ ?_
   refine Zbj ?_
   refine Zah ?_
   by_cases h7 : dx < 0
   ·refine Zbm [(1, .dec true)] [65] [] [_] hB ⟨h7, trivial⟩ ?_
    refine Zaa ?_
    refine Zbq ?_
    refine aR [] [4] [] [I 5] [] [] hB trivial ?_
    refine Zam ?_
    refine Zao (Zak ?_)
    refine Zan hB (I 5) (by kernel_rfl) (.inl (by refine congrArg I ?_; unfold Zht; (repeat' split) <;> first | rfl | omega)) rfl (fun _ => trivial)
   refine Zbm [(1, .dec false)] [65] [] [_] hB ⟨h7, trivial⟩ ?_
   refine Zaa ?_
   refine Zbj ?_
   refine Zas ?_
   refine Zba 0 ?_
   refine Zaa ?_
   refine aR [] [4] [] [I 7] [] [] hB trivial ?_
   refine Zam ?_
   refine Zan hB (I 7) (by kernel_rfl) (.inl (by refine congrArg I ?_; unfold Zht; (repeat' split) <;> first | rfl | omega)) rfl (fun _ => trivial)
  refine Zbm [(1, .dec false)] [0, 1, 55] [] [_] hB ⟨h5, trivial⟩ ?_
  refine Zaa ?_
  refine Zbj ?_
  refine Zah ?_
  by_cases h8 : 0 < dy
  ·refine Zbm [(1, .dec true)] [0, 62] [] [_] hB ⟨h8, trivial⟩ ?_
   refine Zaa ?_
   refine Zbq ?_
   refine aR [] [4] [] [I 3] [] [] hB trivial ?_
   refine Zam ?_
   refine Zao (Zak ?_)
   refine Zan hB (I 3) (by kernel_rfl) (.inl (by refine congrArg I ?_; unfold Zht; (repeat' split) <;> first | rfl | omega)) rfl (fun _ => trivial)
  refine Zbm [(1, .dec false)] [0, 62] [] [_] hB ⟨h8, trivial⟩ ?_
  refine Zaa ?_
  refine Zbj ?_
  refine Zah ?_
  by_cases h9 : dx < 0
  ·refine Zbm [(1, .dec true)] [65] [] [_] hB ⟨h9, trivial⟩ ?_
   refine Zaa ?_
   refine Zbq ?_
   refine aR [] [4] [] [I 5] [] [] hB trivial ?_
   refine Zam ?_
   refine Zao (Zak ?_)
   refine Zan hB (I 5) (by kernel_rfl) (.inl (by refine congrArg I ?_; unfold Zht; (repeat' split) <;> first | rfl | omega)) rfl (fun _ => trivial)
  refine Zbm [(1, .dec false)] [65] [] [_] hB ⟨h9, trivial⟩ ?_
  refine Zaa ?_
  refine Zbj ?_
  refine Zas ?_
  refine Zba 0 ?_
  refine Zaa ?_
  refine aR [] [4] [] [I 7] [] [] hB trivial ?_
  refine Zam ?_
  refine Zan hB (I 7) (by kernel_rfl) (.inl (by refine congrArg I ?_; unfold Zht; (repeat' split) <;> first | rfl | omega)) rfl (fun _ => trivial)
theorem Zyc (b : Box) (hb : Zfk b) : Con Tryz.prog 157 [Zfo b] true (I (Zcq b)) := by
 unfold Zfk at hb
 refine Zbu (fn := Tryz.f157) (nt := 14) Tryz.func157 rfl rfl rfl rfl (by simp [Zag, Zaj]) fun B hB => ?_
 refine aQ [(0, .new 1)] [1] [1] [] hB trivial ?_
 refine aR [] [2] [] [I (max (max (b.X2 - b.X1) (b.Y2 - b.Y1)) 1)] [] [inR .i64 (b.X2 - b.X1), inR .i64 (b.Y2 - b.Y1)] hB ⟨(Zac om om), (Zac om om), trivial⟩ ?_
 refine Zam ?_
 refine Zan hB (I (max (max (b.X2 - b.X1) (b.Y2 - b.Y1)) 1)) (by kernel_rfl) (.inl (by refine congrArg I ?_; unfold Zcq; omega)) rfl (fun _ => trivial)
theorem Zjt (p : Spot) (b : Box) (hb : Zfk b) (hp : (b.X1 ≤ p.X ∧ p.X ≤ b.X2) ∧ b.Y1 ≤ p.Y ∧ p.Y ≤ b.Y2) : Con Tryz.prog 121 [.agg [I p.X, I p.Y], Zfo b] true (.agg [I ((Zcv p b).X), I ((Zcv p b).Y)]) := by
 have hb0 := hb
 have hs := Yam hb
 unfold Zfk at hb
 have hqx := Zyd (w := b.X2 - b.X1) (d := Zcq b) om om om
 have hqy := Zyd (w := b.Y2 - b.Y1) (d := Zcq b) om om om
 have hnx := Yei (x := p.X - b.X1) (w := b.X2 - b.X1) (d := Zcq b) om om om
 have hny := Yei (x := p.Y - b.Y1) (w := b.Y2 - b.Y1) (d := Zcq b) om om om
 refine Zbu (fn := Tryz.f121) (nt := 51) Tryz.func121 rfl rfl rfl rfl (by simp [Zag, Zaj]) fun B hB => ?_
 refine aQ [(0, .new 2), (1, .new 3), (2, .new 4)] [2, 3, 4] [2, 3, 4] [] hB trivial ?_
 refine aQ [(1, .call [(true, .any)] true (I (Zcq b)))] [2, 3, 4, 5] [2, 3, 4] [_ ∧ True] hB ⟨⟨(Zyc b hb0), trivial⟩, trivial⟩ ?_
 refine aQ [(7, .nn), (9, .nn)] [2, 3, 4, 5, 6] [2, 3, 4] [inR .i64 (b.X2 - b.X1), inR .i64 ((b.X2 - b.X1) * 255), (0 : Int) ≤ ((b.X2 - b.X1) * 255) ∧ (0 : Int) < (Zcq b) ∧ inR .i64 ((b.X2 - b.X1) * 255), inR .i64 (255 - (((b.X2 - b.X1) * 255) / (Zcq b))), (0 : Int) ≤ (255 - (((b.X2 - b.X1) * 255) / (Zcq b))) ∧ (0 : Int) < 2 ∧ inR .i64 (255 - (((b.X2 - b.X1) * 255) / (Zcq b)))] hB ⟨(Zac om om), (Zac om om), ⟨om, om, (Zac om om)⟩, (Zac om om), ⟨om, om, (Zac om om)⟩, trivial⟩ ?_
 refine aQ [(7, .nn), (9, .nn)] [2, 3, 4, 5, 6, 7] [2, 3, 4] [inR .i64 (b.Y2 - b.Y1), inR .i64 ((b.Y2 - b.Y1) * 255), (0 : Int) ≤ ((b.Y2 - b.Y1) * 255) ∧ (0 : Int) < (Zcq b) ∧ inR .i64 ((b.Y2 - b.Y1) * 255), inR .i64 (255 - (((b.Y2 - b.Y1) * 255) / (Zcq b))), (0 : Int) ≤ (255 - (((b.Y2 - b.Y1) * 255) / (Zcq b))) ∧ (0 : Int) < 2 ∧ inR .i64 (255 - (((b.Y2 - b.Y1) * 255) / (Zcq b)))] hB ⟨(Zac om om), (Zac om om), ⟨om, om, (Zac om om)⟩, (Zac om om), ⟨om, om, (Zac om om)⟩, trivial⟩ ?_
 refine aR [(8, .call [(true, .any), (true, .any)] true (I (Zed ((p.X - b.X1) * 255) (Zcq b)))), (18, .call [(true, .any), (true, .any)] true (I (Zed ((p.Y - b.Y1) * 255) (Zcq b))))] [4] [4] [.ref 4 0] [some (.box [I (((255 - (((b.X2 - b.X1) * 255) / (Zcq b))) / 2) + (Zed ((p.X - b.X1) * 255) (Zcq b))), I (((255 - (((b.Y2 - b.Y1) * 255) / (Zcq b))) / 2) + (Zed ((p.Y - b.Y1) * 255) (Zcq b)))])] [inR .i64 (p.X - b.X1), inR .i64 ((p.X - b.X1) * 255), _ ∧ True, inR .i64 (((255 - (((b.X2 - b.X1) * 255) / (Zcq b))) / 2) + (Zed ((p.X - b.X1) * 255) (Zcq b))), inR .i64 (p.Y - b.Y1), inR .i64 ((p.Y - b.Y1) * 255), _ ∧ True, inR .i64 (((255 - (((b.Y2 - b.Y1) * 255) / (Zcq b))) / 2) + (Zed ((p.Y - b.Y1) * 255) (Zcq b)))] hB ⟨(Zac om om), (Zac om om), ⟨(Zhn ((p.X - b.X1) * 255) (Zcq b) om), trivial⟩, (Zac om om), (Zac om om), (Zac om om), ⟨(Zhn ((p.Y - b.Y1) * 255) (Zcq b) om), trivial⟩, (Zac om om), trivial⟩ ?_
 refine Zam ?_
 refine Zan hB (.agg [I (((255 - (((b.X2 - b.X1) * 255) / (Zcq b))) / 2) + (Zed ((p.X - b.X1) * 255) (Zcq b))), I (((255 - (((b.Y2 - b.Y1) * 255) / (Zcq b))) / 2) + (Zed ((p.Y - b.Y1) * 255) (Zcq b)))]) (by kernel_rfl) (.inl (by rfl)) rfl (fun _ => (by simp [Zaj, Zag]))
theorem Zoq (s : Stroke) (b : Box) (n : Int) (ok : Zar s = true) (hn : 2 ≤ n ∧ n ≤ 24) (hb : Zfk b ∧ Zqt (skB s) b) : Con Tryz.prog 75 [.agg [Zaq false s.Points], Zfo b, I n] true (Zai true (Zil s n b)) := by
  have hrl := Zpl s n
  have hbb := hb.1
  unfold Zfk at hbb
  refine Zbu (fn := Tryz.f75) (nt := 70) Tryz.func75 rfl rfl rfl rfl (by simp [Zag, Zaj, Zec]) fun B hB => ?_
  refine Zbt (x := .agg [Zaq false s.Points]) 0 rfl (fun len_s => ?_)
  simp [Zdk, Zgf, Zee, Zdl, Zaq] at len_s
  refine aQ [(0, .new 3), (1, .new 4)] [2, 3, 4] [3, 4] [] hB trivial ?_
  refine aQ [(2, .call [(true, .any), (true, .any)] true (Zdy true (Zbi s n)))] [4, 7] [4] [_ ∧ True] hB ⟨⟨(Yal s n ok om), trivial⟩, trivial⟩ ?_
  refine aQ [] [4, 7, 8] [4] [] hB trivial ?_
  refine aQ [] [4, 7, 8, 9] [4] [] hB trivial ?_
  refine Zah ?_
  refine aR [] [4, 7, 8, 9, 16, 17, 18] [4] [.ref 4 0, Zdy true (Zbi s n), Zcr, I 0, Zdy true (Zbi s n), I (((Zbi s n).length) : Int), I 0] [some (Zef b)] [] hB trivial ?_
  refine Zau ?_
  refine Ybg hB 8 708 3 (fun _ => []) (by kernel_rfl) ?_
  refine Zhz hB [] (T := [(4, .ref 4 0), (7, Zdy true (Zbi s n)), (8, .arr 708), (9, I 0), (16, Zdy true (Zbi s n)), (17, I (((Zbi s n).length) : Int)), (18, I 0)]) (O := [(4, Zef b), (708, Zfr ([] : List Feat))]) rfl (⟨.inl rfl, .inl rfl, .inl rfl, .inl rfl, .inl rfl, .inl rfl, .inl rfl, trivial⟩) (⟨.inl rfl, .inr ⟨rfl, (by first | rfl | (simp; done) | (simp; omega) | omega), fun i_ hi_ => absurd hi_ (Nat.not_lt_zero _)⟩, trivial⟩) ?_
  refine Zcn (fun gn gσ => ∃ (list : List Feat) (d : Int) (t18 : Int), gn = (((Zbi s n).length : Int) - t18).toNat ∧ (0 ≤ t18 ∧ t18 ≤ ((Zbi s n).length : Int)) ∧ ((list.length : Int) = t18) ∧ (list = Zrw (Zbi s n) b t18.toNat) ∧ (d = Ycv (Zbi s n) t18.toNat ∧ 0 ≤ d ∧ d ≤ 7) ∧ gσ = mkS [(4, .ref 4 0), (7, Zdy true (Zbi s n)), (8, .arr 708), (9, I d), (16, Zdy true (Zbi s n)), (17, I (((Zbi s n).length) : Int)), (18, I t18)] [(4, Zef b), (708, Zfr list)]) ((((Zbi s n).length : Int) - 0).toNat) ⟨([] : List Feat), 0, 0, rfl, om, (by rfl), (by rfl), (by exact ⟨rfl, by omega⟩), rfl⟩ (fun gn gσ hI => ?_)
  obtain ⟨list, d, t18, rfl, hk0, hll, hl0, hd0, rfl⟩ := hI
  refine Zah ?_
  by_cases h1 : t18 < (((Zbi s n).length) : Int)
  ·have hk : t18.toNat < (Zbi s n).length := by omega
   have hbk := Zmz ok hn.1 hb.2 hk
   refine Zbm [(0, .dec true)] [4, 7, 8, 9, 16, 17, 18, 19] [4, 708] [_] hB ⟨h1, trivial⟩ ?_
   refine Zaa ?_
   refine Zah ?_
   refine Zbq ?_
   refine Zas ?_
   refine Zaa ?_
   refine Zah ?_
   refine Zau ?_
   refine aQ [(3, .new 11)] [4, 7, 8, 9, 10, 11, 16, 17, 18] [4, 11, 708] [(0 : Int) ≤ t18 ∧ t18 < (((Zbi s n).length) : Int)] hB ⟨⟨om, om⟩, trivial⟩ ?_
   refine Zah ?_
   refine Zah ?_
   by_cases h2 : (t18 + 1) < (((Zbi s n).length) : Int)
   ·have hbk1 := Zmz ok hn.1 hb.2 (j := (t18 + 1).toNat) om
    by_cases h3 : ((at_ (Zbi s n) ((t18 + 1).toNat)).X) = ((at_ (Zbi s n) t18.toNat).X) ∧ ((at_ (Zbi s n) ((t18 + 1).toNat)).Y) = ((at_ (Zbi s n) t18.toNat).Y) ∧ True
    ·have hdq := (Zvp (l := (Zbi s n)) (k := t18) om (fun q => q.2 ⟨by omega, by omega⟩)).trans hd0.1.symm
     refine Zbm [(4, .dec true), (12, .dec false)] [4, 7, 8, 9, 10, 11, 16, 17, 18, 36] [4, 11, 708] [inR .i64 (t18 + 1), _, inR .i64 (t18 + 1), (0 : Int) ≤ (t18 + 1) ∧ (t18 + 1) < (((Zbi s n).length) : Int), ¬ (¬ (((at_ (Zbi s n) ((t18 + 1).toNat)).X) = ((at_ (Zbi s n) t18.toNat).X) ∧ ((at_ (Zbi s n) ((t18 + 1).toNat)).Y) = ((at_ (Zbi s n) t18.toNat).Y) ∧ True))] hB ⟨(Zac om om), h2, (Zac om om), ⟨om, om⟩, (fun hq => hq h3), trivial⟩ ?_
     refine Zaa ?_
     refine Zbj ?_
     refine Zas ?_
     refine Zaa ?_
     refine aQ [(2, .call [(true, .any), (true, .any)] true (.agg [I ((Zcv (at_ (Zbi s n) t18.toNat) b).X), I ((Zcv (at_ (Zbi s n) t18.toNat) b).Y)])), (3, .new 12)] [4, 7, 8, 9, 12, 16, 17, 18] [4, 12, 708] [_ ∧ True] hB ⟨⟨(Zjt (at_ (Zbi s n) t18.toNat) b hb.1 om), trivial⟩, trivial⟩ ?_
     refine Zbm [(7, .new 66), (8, .new 67)] [4, 7, 8, 9, 16, 17, 18] [4, 67] [(list.length + 1) * 24 ≤ 140737488355328] hB ⟨om, trivial⟩ ?_
     refine Zba 1 ?_
     refine Zaa ?_
     refine Zdg [] [4, 7, 8, 9, 16, 17, 18] [4, 67] [.ref 4 0, Zdy true (Zbi s n), .arr 67, I d, Zdy true (Zbi s n), I (((Zbi s n).length) : Int), I (t18 + 1)] [some (Zef b), some (.arr 3 (list.length + 1) (Zgb list.length (Zez list) (Zgm [I ((Zcv (at_ (Zbi s n) t18.toNat) b).X), I ((Zcv (at_ (Zbi s n) t18.toNat) b).Y), I d] 3)))] [inR .i64 (t18 + 1)] hB ⟨(Zac om om), trivial⟩ ?_
     refine Zeq hB [(708, 67)] (T := [(4, .ref 4 0), (7, Zdy true (Zbi s n)), (8, .arr 708), (9, I d), (16, Zdy true (Zbi s n)), (17, I (((Zbi s n).length) : Int)), (18, I (t18 + 1))]) (O := [(4, Zef b), (708, Zfr (list ++ [(Feat.mk ((Zcv (at_ (Zbi s n) t18.toNat) b).X) ((Zcv (at_ (Zbi s n) t18.toNat) b).Y) d)]))]) rfl (⟨.inl rfl, .inl rfl, .inl rfl, .inl rfl, .inl rfl, .inl rfl, .inl rfl, trivial⟩) (⟨.inl rfl, .inr ⟨rfl, (by first | rfl | (simp; done) | (simp; omega) | omega), fun i_ hi_ => .inl (Zcm (enc := Zgw) (xs := list) rfl i_ hi_)⟩, trivial⟩) (Zbf _ om ⟨(list ++ [(Feat.mk ((Zcv (at_ (Zbi s n) t18.toNat) b).X) ((Zcv (at_ (Zbi s n) t18.toNat) b).Y) d)]), d, (t18 + 1), rfl, om, (by simp; omega), (by rw [Zgr om, ← hl0, hdq]), (by have hdb := Zju (Zbi s n) (t18 + 1).toNat; rw [hdq] at hdb; exact ⟨hdq.symm, hdb⟩), rfl⟩)
    have hdq := Zvq (l := (Zbi s n)) (k := t18) om om (fun q => h3 ⟨by omega, by omega, trivial⟩)
    refine Zbm [(4, .dec true), (12, .dec true)] [4, 7, 8, 9, 10, 11, 16, 17, 18, 36] [4, 11, 708] [inR .i64 (t18 + 1), _, inR .i64 (t18 + 1), (0 : Int) ≤ (t18 + 1) ∧ (t18 + 1) < (((Zbi s n).length) : Int), _] hB ⟨(Zac om om), h2, (Zac om om), ⟨om, om⟩, h3, trivial⟩ ?_
    refine Zaa ?_
    refine Zbq ?_
    refine Zbm [(18, .call [(true, .any), (true, .any)] true (I (Zht (((at_ (Zbi s n) ((t18 + 1).toNat)).X) - ((at_ (Zbi s n) t18.toNat).X)) (((at_ (Zbi s n) ((t18 + 1).toNat)).Y) - ((at_ (Zbi s n) t18.toNat).Y)))))] [4, 7, 8, 9, 11, 16, 17, 18] [4, 11, 708] [inR .i64 (t18 + 1), (0 : Int) ≤ (t18 + 1) ∧ (t18 + 1) < (((Zbi s n).length) : Int), inR .i64 (((at_ (Zbi s n) ((t18 + 1).toNat)).X) - ((at_ (Zbi s n) t18.toNat).X)), inR .i64 (t18 + 1), (0 : Int) ≤ (t18 + 1) ∧ (t18 + 1) < (((Zbi s n).length) : Int), inR .i64 (((at_ (Zbi s n) ((t18 + 1).toNat)).Y) - ((at_ (Zbi s n) t18.toNat).Y)), _ ∧ True] hB ⟨(Zac om om), ⟨om, om⟩, (Zac om om), (Zac om om), ⟨om, om⟩, (Zac om om), ⟨(Zrv (((at_ (Zbi s n) ((t18 + 1).toNat)).X) - ((at_ (Zbi s n) t18.toNat).X)) (((at_ (Zbi s n) ((t18 + 1).toNat)).Y) - ((at_ (Zbi s n) t18.toNat).Y)) om), trivial⟩, trivial⟩ ?_
    refine Zaa ?_
    refine aQ [(2, .call [(true, .any), (true, .any)] true (.agg [I ((Zcv (at_ (Zbi s n) t18.toNat) b).X), I ((Zcv (at_ (Zbi s n) t18.toNat) b).Y)])), (3, .new 12)] [4, 7, 8, 9, 12, 16, 17, 18] [4, 12, 708] [_ ∧ True] hB ⟨⟨(Zjt (at_ (Zbi s n) t18.toNat) b hb.1 om), trivial⟩, trivial⟩ ?_
    refine Zbm [(7, .new 66), (8, .new 67)] [4, 7, 8, 9, 16, 17, 18] [4, 67] [(list.length + 1) * 24 ≤ 140737488355328] hB ⟨om, trivial⟩ ?_
    refine Zba 1 ?_
    refine Zaa ?_
    refine Zdg [] [4, 7, 8, 9, 16, 17, 18] [4, 67] [.ref 4 0, Zdy true (Zbi s n), .arr 67, I (Zht (((at_ (Zbi s n) ((t18 + 1).toNat)).X) - ((at_ (Zbi s n) t18.toNat).X)) (((at_ (Zbi s n) ((t18 + 1).toNat)).Y) - ((at_ (Zbi s n) t18.toNat).Y))), Zdy true (Zbi s n), I (((Zbi s n).length) : Int), I (t18 + 1)] [some (Zef b), some (.arr 3 (list.length + 1) (Zgb list.length (Zez list) (Zgm [I ((Zcv (at_ (Zbi s n) t18.toNat) b).X), I ((Zcv (at_ (Zbi s n) t18.toNat) b).Y), I (Zht (((at_ (Zbi s n) ((t18 + 1).toNat)).X) - ((at_ (Zbi s n) t18.toNat).X)) (((at_ (Zbi s n) ((t18 + 1).toNat)).Y) - ((at_ (Zbi s n) t18.toNat).Y)))] 3)))] [inR .i64 (t18 + 1)] hB ⟨(Zac om om), trivial⟩ ?_
    refine Zeq hB [(708, 67)] (T := [(4, .ref 4 0), (7, Zdy true (Zbi s n)), (8, .arr 708), (9, I (Zht (((at_ (Zbi s n) ((t18 + 1).toNat)).X) - ((at_ (Zbi s n) t18.toNat).X)) (((at_ (Zbi s n) ((t18 + 1).toNat)).Y) - ((at_ (Zbi s n) t18.toNat).Y)))), (16, Zdy true (Zbi s n)), (17, I (((Zbi s n).length) : Int)), (18, I (t18 + 1))]) (O := [(4, Zef b), (708, Zfr (list ++ [(Feat.mk ((Zcv (at_ (Zbi s n) t18.toNat) b).X) ((Zcv (at_ (Zbi s n) t18.toNat) b).Y) (Zht (((at_ (Zbi s n) ((t18 + 1).toNat)).X) - ((at_ (Zbi s n) t18.toNat).X)) (((at_ (Zbi s n) ((t18 + 1).toNat)).Y) - ((at_ (Zbi s n) t18.toNat).Y))))]))]) rfl (⟨.inl rfl, .inl rfl, .inl rfl, .inl rfl, .inl rfl, .inl rfl, .inl rfl, trivial⟩) (⟨.inl rfl, .inr ⟨rfl, (by first | rfl | (simp; done) | (simp; omega) | omega), fun i_ hi_ => .inl (Zcm (enc := Zgw) (xs := list) rfl i_ hi_)⟩, trivial⟩) (Zbf _ om ⟨(list ++ [(Feat.mk ((Zcv (at_ (Zbi s n) t18.toNat) b).X) ((Zcv (at_ (Zbi s n) t18.toNat) b).Y) (Zht (((at_ (Zbi s n) ((t18 + 1).toNat)).X) - ((at_ (Zbi s n) t18.toNat).X)) (((at_ (Zbi s n) ((t18 + 1).toNat)).Y) - ((at_ (Zbi s n) t18.toNat).Y))))]), (Zht (((at_ (Zbi s n) ((t18 + 1).toNat)).X) - ((at_ (Zbi s n) t18.toNat).X)) (((at_ (Zbi s n) ((t18 + 1).toNat)).Y) - ((at_ (Zbi s n) t18.toNat).Y))), (t18 + 1), rfl, om, (by simp; omega), (by rw [Zgr om, ← hl0, hdq]), (by have hdb := Zju (Zbi s n) (t18 + 1).toNat; rw [hdq] at hdb; exact ⟨hdq.symm, hdb⟩), rfl⟩)
   have hdq := (Zvp (l := (Zbi s n)) (k := t18) om (fun q => by omega)).trans hd0.1.symm
   refine Zbm [(4, .dec false)] [4, 7, 8, 9, 10, 11, 16, 17, 18, 36] [4, 11, 708] [inR .i64 (t18 + 1), _] hB ⟨(Zac om om), h2, trivial⟩ ?_
   refine Zaa ?_
   refine Zbj ?_
   refine Zas ?_
   refine Zaa ?_
   refine aQ [(2, .call [(true, .any), (true, .any)] true (.agg [I ((Zcv (at_ (Zbi s n) t18.toNat) b).X), I ((Zcv (at_ (Zbi s n) t18.toNat) b).Y)])), (3, .new 12)] [4, 7, 8, 9, 12, 16, 17, 18] [4, 12, 708] [_ ∧ True] hB ⟨⟨(Zjt (at_ (Zbi s n) t18.toNat) b hb.1 om), trivial⟩, trivial⟩ ?_
   refine Zbm [(7, .new 66), (8, .new 67)] [4, 7, 8, 9, 16, 17, 18] [4, 67] [(list.length + 1) * 24 ≤ 140737488355328] hB ⟨om, trivial⟩ ?_
   refine Zba 1 ?_
   refine Zaa ?_
   refine Zdg [] [4, 7, 8, 9, 16, 17, 18] [4, 67] [.ref 4 0, Zdy true (Zbi s n), .arr 67, I d, Zdy true (Zbi s n), I (((Zbi s n).length) : Int), I (t18 + 1)] [some (Zef b), some (.arr 3 (list.length + 1) (Zgb list.length (Zez list) (Zgm [I ((Zcv (at_ (Zbi s n) t18.toNat) b).X), I ((Zcv (at_ (Zbi s n) t18.toNat) b).Y), I d] 3)))] [inR .i64 (t18 + 1)] hB ⟨(Zac om om), trivial⟩ ?_
   refine Zeq hB [(708, 67)] (T := [(4, .ref 4 0), (7, Zdy true (Zbi s n)), (8, .arr 708), (9, I d), (16, Zdy true (Zbi s n)), (17, I (((Zbi s n).length) : Int)), (18, I (t18 + 1))]) (O := [(4, Zef b), (708, Zfr (list ++ [(Feat.mk ((Zcv (at_ (Zbi s n) t18.toNat) b).X) ((Zcv (at_ (Zbi s n) t18.toNat) b).Y) d)]))]) rfl (⟨.inl rfl, .inl rfl, .inl rfl, .inl rfl, .inl rfl, .inl rfl, .inl rfl, trivial⟩) (⟨.inl rfl, .inr ⟨rfl, (by first | rfl | (simp; done) | (simp; omega) | omega), fun i_ hi_ => .inl (Zcm (enc := Zgw) (xs := list) rfl i_ hi_)⟩, trivial⟩) (Zbf _ om ⟨(list ++ [(Feat.mk ((Zcv (at_ (Zbi s n) t18.toNat) b).X) ((Zcv (at_ (Zbi s n) t18.toNat) b).Y) d)]), d, (t18 + 1), rfl, om, (by simp; omega), (by rw [Zgr om, ← hl0, hdq]), (by have hdb := Zju (Zbi s n) (t18 + 1).toNat; rw [hdq] at hdb; exact ⟨hdq.symm, hdb⟩), rfl⟩)
  have hke : t18.toNat = (Zbi s n).length := by omega
  rw [hke] at hl0
  have hl1 : list = Zil s n b := hl0
  clear hl0
  subst hl1
  refine Zbm [(0, .dec false)] [4, 7, 8, 9, 16, 17, 18, 19] [4, 708] [_] hB ⟨h1, trivial⟩ ?_
  refine Zaa ?_
  refine Zah ?_
  refine Zbj ?_
  refine Zcj ?_
  refine Zal ?_
  refine Zal ?_
  refine Zaw ?_
  refine Zaa ?_
  refine aR [] [6] [708] [.arr 708] [some (Zfr (Zil s n b))] [] hB trivial ?_
  refine Zam ?_
  refine Zan hB (.arr 708) (by kernel_rfl) (.inr ⟨(fun _ => rfl), rfl, rfl, fun i _ => .inl rfl⟩) rfl (fun _ => (Zdq true _))
theorem Zru (ik : Ink) (n : Int) : Con Tryz.prog 42 [.agg [Zae false ik.Strokes], I n] true (.tup [Zai true ((feR ik n).1), I ((feR ik n).2)]) := by
  refine Zbu (fn := Tryz.f42) (nt := 40) Tryz.func42 rfl rfl rfl rfl (by simp [Zag, Zaj, Zck]) fun B hB => ?_
  refine Zbt (x := .agg [Zae false ik.Strokes]) 0 rfl (fun len_ik => ?_)
  simp [Zdk, Zgf, Zee, Zft, Zdl, Zbl, Zaq, Zae] at len_ik
  refine aQ [(0, .new 2)] [1, 2] [2] [] hB trivial ?_
  refine Zah ?_
  refine Zau ?_
  refine Zah ?_
  rcases Bool.eq_false_or_eq_true (Zbp ik) with h1 | h1
  ·have hil := Zgp h1
   refine Zbm [(1, .call [(true, .any)] true (Bv true))] [1, 2, 10] [2] [Con Tryz.prog 15 [.agg [Zae false ik.Strokes]] true (Bv true) ∧ True] hB ⟨⟨(Zap h1 (Zmc ik)), trivial⟩, trivial⟩ ?_
   refine Zaa ?_
   refine Zbj ?_
   refine Zah ?_
   rcases Bool.eq_false_or_eq_true (inB n 2 24) with h2 | h2
   ·have hq2 := Zjk.1 h2
    refine Zbm [(1, .call [(true, .any), (true, .any), (true, .any)] true (Bv true))] [1, 2, 14] [2] [Con Tryz.prog 35 [I n, I 2, I 24] true (Bv true) ∧ True] hB ⟨⟨(Zap h2 (Zcy n 2 24)), trivial⟩, trivial⟩ ?_
    refine Zaa ?_
    refine Zbj ?_
    refine Zah ?_
    by_cases h3 : (ik.Strokes.length : Int) = 0
    ·rw [feR_st h1 h2 h3]
     refine Zbm [(3, .dec true)] [1, 2, 18] [2] [_] hB ⟨h3, trivial⟩ ?_
     refine Zaa ?_
     refine Zbq ?_
     refine aR [] [4, 5] [] [Zcr, I 6] [] [] hB trivial ?_
     refine Zam ?_
     refine Zao (Zak ?_)
     refine Zan hB (.tup [Zcr, I 6]) (by kernel_rfl) (.inr ⟨⟨(by first | omega | simp), rfl⟩, ⟨(by first | rfl | (simp [Zen]; done) | (simp [Zen]; omega)), rfl⟩⟩) rfl (fun _ => (by simp [Zaj, Zag, Zdq]))
    rw [Zto h1 h2 h3]
    refine Zbm [(3, .dec false)] [1, 2, 18] [2] [_] hB ⟨h3, trivial⟩ ?_
    refine Zaa ?_
    refine Zbj ?_
    refine Zas ?_
    refine Zba 0 ?_
    refine Zaa ?_
    refine aQ [(1, .call [(true, .any)] true (Zfo (Zhs ik.Strokes ik.Strokes.length))), (2, .new 6)] [1, 2, 6] [2, 6] [_ ∧ True] hB ⟨⟨(Yag ik h1 om), trivial⟩, trivial⟩ ?_
    refine aQ [] [1, 2, 6, 7] [2, 6] [] hB trivial ?_
    refine Zah ?_
    refine aR [] [1, 6, 7, 26, 27, 28] [6] [I n, .ref 6 0, Zcr, Zae false ik.Strokes, I (ik.Strokes.length : Int), I 0] [some (Zef (Zhs ik.Strokes ik.Strokes.length))] [] hB trivial ?_
    refine Zau ?_
    refine Ybg hB 7 707 3 (fun _ => []) (by kernel_rfl) ?_
    refine Zhz hB [] (T := [(1, I n), (6, .ref 6 0), (7, .arr 707), (26, Zae false ik.Strokes), (27, I (ik.Strokes.length : Int)), (28, I 0)]) (O := [(6, Zef (Zhs ik.Strokes ik.Strokes.length)), (707, Zfr ([] : List Feat))]) rfl (⟨.inl rfl, .inl rfl, .inl rfl, .inl rfl, .inl rfl, .inl rfl, trivial⟩) (⟨.inl rfl, .inr ⟨rfl, (by first | rfl | (simp; done) | (simp; omega) | omega), fun i_ hi_ => absurd hi_ (Nat.not_lt_zero _)⟩, trivial⟩) ?_
    refine Zcn (fun gn gσ => ∃ (list : List Feat) (t28 : Int), gn = ((ik.Strokes.length : Int) - t28).toNat ∧ (0 ≤ t28 ∧ t28 ≤ (ik.Strokes.length : Int)) ∧ ((list.length : Int) ≤ 24 * t28) ∧ (list = Zor ik.Strokes n (Zhs ik.Strokes ik.Strokes.length) t28.toNat) ∧ gσ = mkS [(1, I n), (6, .ref 6 0), (7, .arr 707), (26, Zae false ik.Strokes), (27, I (ik.Strokes.length : Int)), (28, I t28)] [(6, Zef (Zhs ik.Strokes ik.Strokes.length)), (707, Zfr list)]) (((ik.Strokes.length : Int) - 0).toNat) ⟨([] : List Feat), 0, rfl, om, (by simp), (by rfl), rfl⟩ (fun gn gσ hI => ?_)
    obtain ⟨list, t28, rfl, hi0, hll, hl0, rfl⟩ := hI
    refine Zah ?_
    by_cases h4 : t28 < (ik.Strokes.length : Int)
    ·have hi : t28.toNat < ik.Strokes.length := by omega
     have hfl := Zqu (at_ ik.Strokes t28.toNat) n (Zhs ik.Strokes ik.Strokes.length)
     have hfb : Zfk (Zhs ik.Strokes ik.Strokes.length) ∧ Zqt (skB (at_ ik.Strokes t28.toNat)) (Zhs ik.Strokes ik.Strokes.length) := ⟨Zvr h1 om _ (Nat.le_refl _), Zpm _ _ _ hi⟩
     refine Zbm [(0, .dec true)] [1, 6, 7, 26, 27, 28, 29] [6, 707] [_] hB ⟨h4, trivial⟩ ?_
     refine Zaa ?_
     refine Zah ?_
     refine Zbq ?_
     refine Zas ?_
     refine Zaa ?_
     refine Zah ?_
     refine Zau ?_
     refine aQ [(2, .new 9)] [1, 6, 7, 9, 26, 27, 28] [6, 9, 707] [(0 : Int) ≤ t28 ∧ t28 < (ik.Strokes.length : Int)] hB ⟨⟨om, om⟩, trivial⟩ ?_
     refine Zbm [(4, .call [(true, .any), (true, .any), (true, .any)] true (Zai true (Zil (at_ ik.Strokes t28.toNat) n (Zhs ik.Strokes ik.Strokes.length)))), (5, .new 37)] [1, 6, 7, 26, 27, 28] [6, 37] [_ ∧ True, (list.length + ((Zil (at_ ik.Strokes t28.toNat) n (Zhs ik.Strokes ik.Strokes.length)).length)) * 24 ≤ 140737488355328] hB ⟨⟨(Zoq (at_ ik.Strokes t28.toNat) (Zhs ik.Strokes ik.Strokes.length) n (Zdc h1 _ hi) om hfb), trivial⟩, om, trivial⟩ ?_
     refine Zba 2 ?_
     refine Zaa ?_
     refine Zdg [] [1, 6, 7, 26, 27, 28] [6, 37] [I n, .ref 6 0, .arr 37, Zae false ik.Strokes, I (ik.Strokes.length : Int), I (t28 + 1)] [some (Zef (Zhs ik.Strokes ik.Strokes.length)), some (.arr 3 (list.length + ((Zil (at_ ik.Strokes t28.toNat) n (Zhs ik.Strokes ik.Strokes.length)).length)) (Zgb list.length (Zez list) (Zez (Zil (at_ ik.Strokes t28.toNat) n (Zhs ik.Strokes ik.Strokes.length)))))] [inR .i64 (t28 + 1)] hB ⟨(Zac om om), trivial⟩ ?_
     refine Zeq hB [(707, 37)] (T := [(1, I n), (6, .ref 6 0), (7, .arr 707), (26, Zae false ik.Strokes), (27, I (ik.Strokes.length : Int)), (28, I (t28 + 1))]) (O := [(6, Zef (Zhs ik.Strokes ik.Strokes.length)), (707, Zfr (list ++ (Zil (at_ ik.Strokes t28.toNat) n (Zhs ik.Strokes ik.Strokes.length))))]) rfl (⟨.inl rfl, .inl rfl, .inl rfl, .inl rfl, .inl rfl, .inl rfl, trivial⟩) (⟨.inl rfl, .inr ⟨rfl, (by first | rfl | (simp; done) | (simp; omega) | omega), fun i_ hi_ => .inl (Yfo (enc := Zgw) (xs := list) i_ hi_)⟩, trivial⟩) (Zbf _ om ⟨(list ++ (Zil (at_ ik.Strokes t28.toNat) n (Zhs ik.Strokes ik.Strokes.length))), (t28 + 1), rfl, om, (by rw [List.length_append, hfl]; omega), (by rw [Zsx om, ← hl0]), rfl⟩)
    have hie : t28.toNat = ik.Strokes.length := by omega
    rw [hie] at hl0
    have hl1 : list = feA ik n := hl0
    clear hl0
    subst hl1
    refine Zbm [(0, .dec false)] [1, 6, 7, 26, 27, 28, 29] [6, 707] [_] hB ⟨h4, trivial⟩ ?_
    refine Zaa ?_
    refine Zah ?_
    refine Zbj ?_
    refine Zcj ?_
    refine Zal ?_
    refine Zal ?_
    refine Zaw ?_
    refine Zaa ?_
    refine aR [] [4, 5] [707] [.arr 707, I 0] [some (Zfr (feA ik n))] [] hB trivial ?_
    refine Zam ?_
    refine Zan hB (.tup [.arr 707, I 0]) (by kernel_rfl) (.inr ⟨⟨(fun _ => rfl), rfl, (by first | rfl | (simp; done) | (simp; omega) | omega), fun i_ hi_ => .inl (by first | rfl | fail)⟩, ⟨(by first | rfl | (simp [Zen]; done) | (simp [Zen]; omega)), rfl⟩⟩) rfl (fun _ => (by simp [Zaj, Zag, Zdq]))
   rw [feR_rng h1 h2]
   refine Zbm [(1, .call [(true, .any), (true, .any), (true, .any)] true (Bv false))] [1, 2, 14] [2] [Con Tryz.prog 35 [I n, I 2, I 24] true (Bv false) ∧ True] hB ⟨⟨(Zap h2 (Zcy n 2 24)), trivial⟩, trivial⟩ ?_
   refine Zaa ?_
   refine Zbq ?_
   refine aR [] [4, 5] [] [Zcr, I 2] [] [] hB trivial ?_
   refine Zam ?_
   refine Zao (Zak ?_)
   refine Zan hB (.tup [Zcr, I 2]) (by kernel_rfl) (.inr ⟨⟨(by first | omega | simp), rfl⟩, ⟨(by first | rfl | (simp [Zen]; done) | (simp [Zen]; omega)), rfl⟩⟩) rfl (fun _ => (by simp [Zaj, Zag, Zdq]))
  rw [feR_inv h1]
  refine Zbm [(1, .call [(true, .any)] true (Bv false))] [1, 2, 10] [2] [Con Tryz.prog 15 [.agg [Zae false ik.Strokes]] true (Bv false) ∧ True] hB ⟨⟨(Zap h1 (Zmc ik)), trivial⟩, trivial⟩ ?_
  refine Zaa ?_
  refine Zbq ?_
  refine aR [] [4, 5] [] [Zcr, I 1] [] [] hB trivial ?_
  refine Zam ?_
  refine Zao (Zak ?_)
  refine Zan hB (.tup [Zcr, I 1]) (by kernel_rfl) (.inr ⟨⟨(by first | omega | simp), rfl⟩, ⟨(by first | rfl | (simp [Zen]; done) | (simp [Zen]; omega)), rfl⟩⟩) rfl (fun _ => (by simp [Zaj, Zag, Zdq]))
theorem Zxl (band : Int) (n : Int) (m : Int) (hn : 0 ≤ n ∧ n ≤ 4611686018427387904) (hm : 0 ≤ m ∧ m ≤ 4611686018427387904) : Con Tryz.prog 76 [I band, I n, I m] true (Bv (inB band 0 72 && decide (((n - m).natAbs : Int) ≤ band))) := by
  refine Zbu (fn := Tryz.f76) (nt := 17) Tryz.func76 rfl rfl rfl rfl (by simp [Zag, Zaj]) fun B hB => ?_
  refine aQ [] [0, 1, 2] [] [] hB trivial ?_
  refine Zah ?_
  rcases Bool.eq_false_or_eq_true (inB band 0 72) with h1 | h1
  ·refine Zdg [(1, .call [(true, .any), (true, .any), (true, .any)] true (Bv true)), (6, .call [(true, .any)] true (I ((n - m).natAbs : Int)))] [6] [] [Bv (decide (((n - m).natAbs : Int) ≤ band))] [] [Con Tryz.prog 35 [I band, I 0, I 72] true (Bv true) ∧ True, inR .i64 (n - m), _ ∧ True] hB ⟨⟨(Zap h1 (Zcy band 0 72)), trivial⟩, (Zac om om), ⟨(Zir (n - m) om), trivial⟩, trivial⟩ ?_
   refine Zaa ?_
   refine Zam ?_
   refine Zan hB (Bv (decide (((n - m).natAbs : Int) ≤ band))) (by kernel_rfl) (.inl (by refine congrArg Bv ?_; first | (simp [*]; done) | (simp [inB] at *; omega))) rfl (fun _ => trivial)
  refine Zdg [(1, .call [(true, .any), (true, .any), (true, .any)] true (Bv false))] [6] [] [Bv false] [] [Con Tryz.prog 35 [I band, I 0, I 72] true (Bv false) ∧ True] hB ⟨⟨(Zap h1 (Zcy band 0 72)), trivial⟩, trivial⟩ ?_
  refine Zaa ?_
  refine Zam ?_
  refine Zan hB (Bv false) (by kernel_rfl) (.inl (by refine congrArg Bv ?_; first | (simp [*]; done) | (simp [inB] at *; omega))) rfl (fun _ => trivial)
theorem Zye : Con Tryz.prog 183 [] true (.agg [I 1, I 1, I 1, I 0, I 0, I 1]) := by
 refine Zbu (fn := Tryz.f183) (nt := 5) Tryz.func183 rfl rfl rfl rfl (by simp [Zag, Zaj]) fun B hB => ?_
 refine aQ [(0, .new 0)] [0] [0] [] hB trivial ?_
 refine aR [] [0] [0] [.ref 0 0] [some (.box [I 1, I 1, I 1, I 0, I 0, I 1])] [] hB trivial ?_
 refine Zam ?_
 refine Zan hB (.agg [I 1, I 1, I 1, I 0, I 0, I 1]) (by kernel_rfl) (.inl rfl) rfl (fun _ => (by simp [Zaj, Zag]))
theorem Zrt (table : List (List Int)) (i : Int) (j : Int) (hi : 0 ≤ i ∧ i < (table.length : Int)) (hj : 0 ≤ j ∧ j ≤ 1000) (h1 : 1 ≤ i → j < ((at_ table (i - 1).toNat).length : Int)) (h2 : 1 ≤ j → j ≤ ((at_ table (i - 0).toNat).length : Int)) : Con Tryz.prog 159 [Zuz false table, I i, I j] true (I (lb3 table i j)) := by
  refine Zbu (fn := Tryz.f159) (nt := 41) Tryz.func159 rfl rfl rfl rfl (by simp [Zag, Zaj, tagLI]) fun B hB => ?_
  refine Zbt (x := Zuz false table) 0 rfl (fun len_table => ?_)
  simp [Zdk, Zgf, cI, cLI, fI, fLI, slI, Zuz] at len_table
  refine aQ [] [0, 1, 2] [] [] hB trivial ?_
  refine aQ [] [0, 1, 2, 7] [] [] hB trivial ?_
  refine Zah ?_
  refine aR [(0, .call [] true (.agg [I 1, I 1, I 1, I 0, I 0, I 1]))] [0, 1, 2, 7, 10, 11] [] [Zuz false table, I i, I j, I 1099511627776, .agg [I 1, I 1, I 1, I 0, I 0, I 1], I 0] [] [_ ∧ True] hB ⟨⟨(Zye), trivial⟩, trivial⟩ ?_
  refine Zau ?_
  refine Zcn (fun gn gσ => ∃ (least : Int) (t11 : Int), gn = ((3 : Int) - t11).toNat ∧ (0 ≤ t11 ∧ t11 ≤ 3) ∧ (least = lbk table i j t11.toNat) ∧ gσ = mkS [(0, Zuz false table), (1, I i), (2, I j), (7, I least), (10, .agg [I 1, I 1, I 1, I 0, I 0, I 1]), (11, I t11)] []) (((3 : Int) - 0).toNat) ⟨1099511627776, 0, rfl, om, (by rfl), rfl⟩ (fun gn gσ hI => ?_)
  obtain ⟨least, t11, rfl, ht0, hl0, rfl⟩ := hI
  refine Zah ?_
  by_cases h1 : t11 < 3
  ·have hcs : t11 = 0 ∨ t11 = 1 ∨ t11 = 2 := by omega
   rcases hcs with rfl | rfl | rfl
   ·refine Zbm [(0, .dec true)] [0, 1, 2, 7, 10, 11, 12] [] [(0 : Int) < 3] hB ⟨(by decide), trivial⟩ ?_
    refine Zaa ?_
    refine Zah ?_
    refine Zbq ?_
    refine Zas ?_
    refine Zaa ?_
    refine Zah ?_
    refine Zau ?_
    refine aQ [(1, .new 9)] [0, 1, 2, 7, 9, 10, 11] [9] [(0 : Int) ≤ 0 ∧ 0 < (3 : Int)] hB ⟨⟨by decide, by decide⟩, trivial⟩ ?_
    refine Zah ?_
    by_cases h2 : 1 ≤ i
    ·by_cases h3 : 1 ≤ j
     ·refine Zbm [(3, .dec true), (8, .dec true)] [0, 1, 2, 7, 9, 10, 11, 23] [9] [(0 : Int) ≤ 0 ∧ 0 < (2 : Int), _, (0 : Int) ≤ 1 ∧ 1 < (2 : Int), _] hB ⟨⟨by decide, by decide⟩, h2, ⟨by decide, by decide⟩, h3, trivial⟩ ?_
      refine Zaa ?_
      refine Zbq ?_
      refine Zbm [] [0, 1, 2, 7, 10, 11] [] [(0 : Int) ≤ 0 ∧ 0 < (2 : Int), inR .i64 (i - 1), (0 : Int) ≤ (i - 1) ∧ (i - 1) < (table.length : Int), (0 : Int) ≤ 1 ∧ 1 < (2 : Int), inR .i64 (j - 1), (0 : Int) ≤ (j - 1) ∧ (j - 1) < (((at_ table ((i - 1).toNat)).length) : Int)] hB ⟨⟨by decide, by decide⟩, (Zac om om), ⟨om, om⟩, ⟨by decide, by decide⟩, (Zac om om), ⟨om, om⟩, trivial⟩ ?_
      refine Zba 1 ?_
      refine Zaa ?_
      refine Zdg [] [0, 1, 2, 7, 10, 11] [] [Zuz false table, I i, I j, I (min least (at_ (at_ table ((i - 1).toNat)) ((j - 1).toNat))), .agg [I 1, I 1, I 1, I 0, I 0, I 1], I (0 + 1)] [] [inR .i64 (0 + 1)] hB ⟨(Zac om om), trivial⟩ ?_
      exact Zbf _ om ⟨(min least (at_ (at_ table ((i - 1).toNat)) ((j - 1).toNat))), (0 + 1), rfl, om, (by rw [hl0]; first | (show _ = lb1 table i j; unfold lb1; first | (rw [if_pos om]; rfl) | (rw [if_neg om]; rfl)) | (show _ = lb2 table i j; unfold lb2; first | (rw [if_pos om]; rfl) | (rw [if_neg om]; rfl)) | (show _ = lb3 table i j; unfold lb3; first | (rw [if_pos om]; rfl) | (rw [if_neg om]; rfl))), rfl⟩
     refine Zbm [(3, .dec true), (8, .dec false)] [0, 1, 2, 7, 9, 10, 11, 23] [9] [(0 : Int) ≤ 0 ∧ 0 < (2 : Int), _, (0 : Int) ≤ 1 ∧ 1 < (2 : Int), _] hB ⟨⟨by decide, by decide⟩, h2, ⟨by decide, by decide⟩, h3, trivial⟩ ?_
     refine Zaa ?_
     refine Zbj ?_
     refine Zas ?_
     refine Zba 1 ?_
     refine Zaa ?_
     refine Zdg [] [0, 1, 2, 7, 10, 11] [] [Zuz false table, I i, I j, I least, .agg [I 1, I 1, I 1, I 0, I 0, I 1], I (0 + 1)] [] [inR .i64 (0 + 1)] hB ⟨(Zac om om), trivial⟩ ?_
     exact Zbf _ om ⟨least, (0 + 1), rfl, om, (by rw [hl0]; first | (show _ = lb1 table i j; unfold lb1; first | (rw [if_pos om]; rfl) | (rw [if_neg om]; rfl)) | (show _ = lb2 table i j; unfold lb2; first | (rw [if_pos om]; rfl) | (rw [if_neg om]; rfl)) | (show _ = lb3 table i j; unfold lb3; first | (rw [if_pos om]; rfl) | (rw [if_neg om]; rfl))), rfl⟩
    refine Zbm [(3, .dec false)] [0, 1, 2, 7, 9, 10, 11, 23] [9] [(0 : Int) ≤ 0 ∧ 0 < (2 : Int), _] hB ⟨⟨by decide, by decide⟩, h2, trivial⟩ ?_
    refine Zaa ?_
    refine Zbj ?_
    refine Zas ?_
    refine Zba 1 ?_
    refine Zaa ?_
    refine Zdg [] [0, 1, 2, 7, 10, 11] [] [Zuz false table, I i, I j, I least, .agg [I 1, I 1, I 1, I 0, I 0, I 1], I (0 + 1)] [] [inR .i64 (0 + 1)] hB ⟨(Zac om om), trivial⟩ ?_
    exact Zbf _ om ⟨least, (0 + 1), rfl, om, (by rw [hl0]; first | (show _ = lb1 table i j; unfold lb1; first | (rw [if_pos om]; rfl) | (rw [if_neg om]; rfl)) | (show _ = lb2 table i j; unfold lb2; first | (rw [if_pos om]; rfl) | (rw [if_neg om]; rfl)) | (show _ = lb3 table i j; unfold lb3; first | (rw [if_pos om]; rfl) | (rw [if_neg om]; rfl))), rfl⟩
   ·refine Zbm [(0, .dec true)] [0, 1, 2, 7, 10, 11, 12] [] [(1 : Int) < 3] hB ⟨(by decide), trivial⟩ ?_
    refine Zaa ?_
    refine Zah ?_
    refine Zbq ?_
    refine Zas ?_
    refine Zaa ?_
    refine Zah ?_
    refine Zau ?_
    refine aQ [(1, .new 9)] [0, 1, 2, 7, 9, 10, 11] [9] [(0 : Int) ≤ 1 ∧ 1 < (3 : Int)] hB ⟨⟨by decide, by decide⟩, trivial⟩ ?_
    refine Zah ?_
    by_cases h4 : 1 ≤ i
    ·refine Zbm [(3, .dec true), (8, .dec true)] [0, 1, 2, 7, 9, 10, 11, 23] [9] [(0 : Int) ≤ 0 ∧ 0 < (2 : Int), _, (0 : Int) ≤ 1 ∧ 1 < (2 : Int), 0 ≤ j] hB ⟨⟨by decide, by decide⟩, h4, ⟨by decide, by decide⟩, om, trivial⟩ ?_
     refine Zaa ?_
     refine Zbq ?_
     refine Zbm [] [0, 1, 2, 7, 10, 11] [] [(0 : Int) ≤ 0 ∧ 0 < (2 : Int), inR .i64 (i - 1), (0 : Int) ≤ (i - 1) ∧ (i - 1) < (table.length : Int), (0 : Int) ≤ 1 ∧ 1 < (2 : Int), inR .i64 (j - 0), (0 : Int) ≤ (j - 0) ∧ (j - 0) < (((at_ table ((i - 1).toNat)).length) : Int)] hB ⟨⟨by decide, by decide⟩, (Zac om om), ⟨om, om⟩, ⟨by decide, by decide⟩, (Zac om om), ⟨om, om⟩, trivial⟩ ?_
     refine Zba 1 ?_
     refine Zaa ?_
     refine Zdg [] [0, 1, 2, 7, 10, 11] [] [Zuz false table, I i, I j, I (min least (at_ (at_ table ((i - 1).toNat)) ((j - 0).toNat))), .agg [I 1, I 1, I 1, I 0, I 0, I 1], I (1 + 1)] [] [inR .i64 (1 + 1)] hB ⟨(Zac om om), trivial⟩ ?_
     exact Zbf _ om ⟨(min least (at_ (at_ table ((i - 1).toNat)) ((j - 0).toNat))), (1 + 1), rfl, om, (by rw [hl0]; first | (show _ = lb1 table i j; unfold lb1; first | (rw [if_pos om]; rfl) | (rw [if_neg om]; rfl)) | (show _ = lb2 table i j; unfold lb2; first | (rw [if_pos om]; rfl) | (rw [if_neg om]; rfl)) | (show _ = lb3 table i j; unfold lb3; first | (rw [if_pos om]; rfl) | (rw [if_neg om]; rfl))), rfl⟩
    refine Zbm [(3, .dec false)] [0, 1, 2, 7, 9, 10, 11, 23] [9] [(0 : Int) ≤ 0 ∧ 0 < (2 : Int), _] hB ⟨⟨by decide, by decide⟩, h4, trivial⟩ ?_
    refine Zaa ?_
    refine Zbj ?_
    refine Zas ?_
    refine Zba 1 ?_
    refine Zaa ?_
    refine Zdg [] [0, 1, 2, 7, 10, 11] [] [Zuz false table, I i, I j, I least, .agg [I 1, I 1, I 1, I 0, I 0, I 1], I (1 + 1)] [] [inR .i64 (1 + 1)] hB ⟨(Zac om om), trivial⟩ ?_
    exact Zbf _ om ⟨least, (1 + 1), rfl, om, (by rw [hl0]; first | (show _ = lb1 table i j; unfold lb1; first | (rw [if_pos om]; rfl) | (rw [if_neg om]; rfl)) | (show _ = lb2 table i j; unfold lb2; first | (rw [if_pos om]; rfl) | (rw [if_neg om]; rfl)) | (show _ = lb3 table i j; unfold lb3; first | (rw [if_pos om]; rfl) | (rw [if_neg om]; rfl))), rfl⟩
   ·refine Zbm [(0, .dec true)] [0, 1, 2, 7, 10, 11, 12] [] [(2 : Int) < 3] hB ⟨(by decide), trivial⟩ ?_
    refine Zaa ?_
    refine Zah ?_
    refine Zbq ?_
    refine Zas ?_
    refine Zaa ?_
    refine Zah ?_
    refine Zau ?_
    refine aQ [(1, .new 9)] [0, 1, 2, 7, 9, 10, 11] [9] [(0 : Int) ≤ 2 ∧ 2 < (3 : Int)] hB ⟨⟨by decide, by decide⟩, trivial⟩ ?_
    refine Zah ?_
    by_cases h5 : 1 ≤ j
    ·refine Zbm [(3, .dec true), (8, .dec true)] [0, 1, 2, 7, 9, 10, 11, 23] [9] [(0 : Int) ≤ 0 ∧ 0 < (2 : Int), 0 ≤ i, (0 : Int) ≤ 1 ∧ 1 < (2 : Int), _] hB ⟨⟨by decide, by decide⟩, om, ⟨by decide, by decide⟩, h5, trivial⟩ ?_
     refine Zaa ?_
     refine Zbq ?_
     refine Zbm [] [0, 1, 2, 7, 10, 11] [] [(0 : Int) ≤ 0 ∧ 0 < (2 : Int), inR .i64 (i - 0), (0 : Int) ≤ (i - 0) ∧ (i - 0) < (table.length : Int), (0 : Int) ≤ 1 ∧ 1 < (2 : Int), inR .i64 (j - 1), (0 : Int) ≤ (j - 1) ∧ (j - 1) < (((at_ table ((i - 0).toNat)).length) : Int)] hB ⟨⟨by decide, by decide⟩, (Zac om om), ⟨om, om⟩, ⟨by decide, by decide⟩, (Zac om om), ⟨om, om⟩, trivial⟩ ?_
     refine Zba 1 ?_
     refine Zaa ?_
     refine Zdg [] [0, 1, 2, 7, 10, 11] [] [Zuz false table, I i, I j, I (min least (at_ (at_ table ((i - 0).toNat)) ((j - 1).toNat))), .agg [I 1, I 1, I 1, I 0, I 0, I 1], I (2 + 1)] [] [inR .i64 (2 + 1)] hB ⟨(Zac om om), trivial⟩ ?_
     exact Zbf _ om ⟨(min least (at_ (at_ table ((i - 0).toNat)) ((j - 1).toNat))), (2 + 1), rfl, om, (by rw [hl0]; first | (show _ = lb1 table i j; unfold lb1; first | (rw [if_pos om]; rfl) | (rw [if_neg om]; rfl)) | (show _ = lb2 table i j; unfold lb2; first | (rw [if_pos om]; rfl) | (rw [if_neg om]; rfl)) | (show _ = lb3 table i j; unfold lb3; first | (rw [if_pos om]; rfl) | (rw [if_neg om]; rfl))), rfl⟩
    refine Zbm [(3, .dec true), (8, .dec false)] [0, 1, 2, 7, 9, 10, 11, 23] [9] [(0 : Int) ≤ 0 ∧ 0 < (2 : Int), 0 ≤ i, (0 : Int) ≤ 1 ∧ 1 < (2 : Int), _] hB ⟨⟨by decide, by decide⟩, om, ⟨by decide, by decide⟩, h5, trivial⟩ ?_
    refine Zaa ?_
    refine Zbj ?_
    refine Zas ?_
    refine Zba 1 ?_
    refine Zaa ?_
    refine Zdg [] [0, 1, 2, 7, 10, 11] [] [Zuz false table, I i, I j, I least, .agg [I 1, I 1, I 1, I 0, I 0, I 1], I (2 + 1)] [] [inR .i64 (2 + 1)] hB ⟨(Zac om om), trivial⟩ ?_
    exact Zbf _ om ⟨least, (2 + 1), rfl, om, (by rw [hl0]; first | (show _ = lb1 table i j; unfold lb1; first | (rw [if_pos om]; rfl) | (rw [if_neg om]; rfl)) | (show _ = lb2 table i j; unfold lb2; first | (rw [if_pos om]; rfl) | (rw [if_neg om]; rfl)) | (show _ = lb3 table i j; unfold lb3; first | (rw [if_pos om]; rfl) | (rw [if_neg om]; rfl))), rfl⟩
  have hte : t11.toNat = 3 := by omega
  refine Zbm [(0, .dec false)] [0, 1, 2, 7, 10, 11, 12] [] [_] hB ⟨h1, trivial⟩ ?_
  refine Zaa ?_
  refine Zah ?_
  refine Zbj ?_
  refine Zcj ?_
  refine Zal ?_
  refine Zal ?_
  refine Zaw ?_
  refine Zaa ?_
  refine aR [] [6] [] [I least] [] [] hB trivial ?_
  refine Zam ?_
  refine Zan hB (I least) (by kernel_rfl) (.inl (by rw [hl0, hte]; rfl)) rfl (fun _ => trivial)
theorem Zlz (a : Feat) (b : Feat) (ha : okF a = true) (hb : okF b = true) : Con Tryz.prog 160 [Zkc a, Zkc b] true (I (Zdr a b)) := by
 have ha' := Znf.1 ha
 have hb' := Znf.1 hb
 refine Zbu (fn := Tryz.f160) (nt := 31) Tryz.func160 rfl rfl rfl rfl (by simp [Zag, Zaj]) fun B hB => ?_
 refine aQ [(0, .new 2), (1, .new 3)] [2, 3] [2, 3] [] hB trivial ?_
 refine aQ [(5, .call [(true, .any)] true (I ((a.D - b.D).natAbs : Int)))] [2, 3, 5] [2, 3] [inR .i64 (a.D - b.D), _ ∧ True] hB ⟨(Zac om om), ⟨(Zir (a.D - b.D) om), trivial⟩, trivial⟩ ?_
 refine aR [(5, .call [(true, .any)] true (I ((a.X - b.X).natAbs : Int))), (11, .call [(true, .any)] true (I ((a.Y - b.Y).natAbs : Int)))] [4] [] [I ((((a.X - b.X).natAbs : Int) + ((a.Y - b.Y).natAbs : Int)) + (16 * (min ((a.D - b.D).natAbs : Int) (8 - ((a.D - b.D).natAbs : Int)))))] [] [inR .i64 (a.X - b.X), _ ∧ True, inR .i64 (a.Y - b.Y), _ ∧ True, inR .i64 (((a.X - b.X).natAbs : Int) + ((a.Y - b.Y).natAbs : Int)), inR .i64 (8 - ((a.D - b.D).natAbs : Int)), inR .i64 (16 * (min ((a.D - b.D).natAbs : Int) (8 - ((a.D - b.D).natAbs : Int)))), inR .i64 ((((a.X - b.X).natAbs : Int) + ((a.Y - b.Y).natAbs : Int)) + (16 * (min ((a.D - b.D).natAbs : Int) (8 - ((a.D - b.D).natAbs : Int)))))] hB ⟨(Zac om om), ⟨(Zir (a.X - b.X) om), trivial⟩, (Zac om om), ⟨(Zir (a.Y - b.Y) om), trivial⟩, (Zac om om), (Zac om om), (Zac om om), (Zac om om), trivial⟩ ?_
 refine Zam ?_
 refine Zan hB (I ((((a.X - b.X).natAbs : Int) + ((a.Y - b.Y).natAbs : Int)) + (16 * (min ((a.D - b.D).natAbs : Int) (8 - ((a.D - b.D).natAbs : Int)))))) (by kernel_rfl) (.inl (by refine congrArg I ?_; first | rfl | (unfold Zdr; omega))) rfl (fun _ => trivial)
def oLIc (F : Nat) (x : List Int) (i : Nat) : List AV := [.row F i]
def oLI (F : Nat) (xs : List (List Int)) (i : Nat) : List AV := oLIc F (at_ xs i) i
def mLI (xs : List (List Int)) (p : Nat) : Nat := (at_ xs p).length
def gLI (xs : List (List Int)) (p : Nat) : Nat → List AV := fI (at_ xs p)
abbrev Zkn (F : Nat) (xs : List (List Int)) : Ob := .oar [F] 1 xs.length (oLI F xs)
abbrev Zmu (xs : List (List Int)) : Ob := .fam xs.length 1 (mLI xs) (gLI xs)
theorem oleLI {ob : Nat → Option Ob} {F : Nat} (fr : Bool) (xs : List (List Int)) (h : ob F = some (.fam xs.length 1 (mLI xs) (gLI xs))) : ∀ i, i < xs.length → AV.idsL (fLI fr xs i) = [] ∧ leL ob true (oLI F xs i) (fLI fr xs i) :=
 fun i hi => And.intro rfl (And.intro (le_row h hi rfl (fun q _ => .inl rfl)) rfl)
theorem Zod (F P : Nat) (xs : List (List Int)) (ys : List Int) (i : Nat) : oLI F xs i = oLI F (xs.set P ys) i := by
 unfold oLI
 by_cases h : P = i
 ·subst h
  by_cases hl : P < xs.length
  ·simp [at_, hl, oLIc]
  ·rw [List.set_eq_of_length_le om]
 ·simp [at_, h]
theorem fnilLI (n : Nat) {g : Nat → Nat → List AV} : n = (List.replicate n ([] : List Int)).length ∧ 1 = 1 ∧ ∀ p, p < (List.replicate n ([] : List Int)).length → (fun _ : Nat => (0 : Nat)) p = mLI (List.replicate n ([] : List Int)) p ∧ ∀ i, i < mLI (List.replicate n ([] : List Int)) p → g p i = gLI (List.replicate n ([] : List Int)) p i ∨ (AV.idsL (gLI (List.replicate n ([] : List Int)) p i) = [] ∧ leL (fun _ => none) false (g p i) (gLI (List.replicate n ([] : List Int)) p i)) := by
 refine ⟨by simp, rfl, fun p hp => ?_⟩
 have e : mLI (List.replicate n ([] : List Int)) p = 0 := by simp only [List.length_replicate] at hp; simp [mLI, at_, hp]
 exact ⟨e.symm, fun i hi => by rw [e] at hi; exact absurd hi (Nat.not_lt_zero _)⟩
theorem fputLI {xs : List (List Int)} {P m1 : Nat} {ys : List Int} {f1 : Nat → List AV} (hP : P < xs.length) (hm : m1 = ys.length) (hf : ∀ i, i < m1 → f1 i = fI ys i) : xs.length = (xs.set P ys).length ∧ 1 = 1 ∧ ∀ p, p < (xs.set P ys).length → Zhi P m1 (mLI xs) p = mLI (xs.set P ys) p ∧ ∀ i, i < mLI (xs.set P ys) p → Zes P f1 (gLI xs) p i = gLI (xs.set P ys) p i ∨ (AV.idsL (gLI (xs.set P ys) p i) = [] ∧ leL (fun _ => none) false (Zes P f1 (gLI xs) p i) (gLI (xs.set P ys) p i)) := by
 refine ⟨by simp, rfl, fun p hp => ?_⟩
 by_cases h : p = P
 ·subst h
  have e : at_ (xs.set p ys) p = ys := Zqv hP
  refine ⟨?_, fun i hi => .inl ?_⟩
  ·simp only [Zhi, Nat.beq_refl, cond_true, mLI, e]; exact hm
  ·simp only [mLI, e] at hi; simp only [Zes, Nat.beq_refl, cond_true, gLI, e]; exact hf i om
 ·have e : at_ (xs.set P ys) p = at_ xs p := Zqw h
  have b := Zgo h
  refine ⟨?_, fun i hi => .inl ?_⟩
  ·simp only [Zhi, b, cond_false, mLI, e]
  ·simp only [Zes, b, cond_false, gLI, e]
theorem Zoe {xs : List (List Int)} {P k : Nat} {c : Int} {g' : Nat → Nat → List AV} (hP : P < xs.length) (hk : k < (at_ xs P).length) (h1 : g' P k = cI c) (h2 : ∀ i, i ≠ k → g' P i = gLI xs P i) (h3 : ∀ p, p ≠ P → g' p = gLI xs p) : xs.length = (xs.set P ((at_ xs P).set k c)).length ∧ 1 = 1 ∧ ∀ p, p < (xs.set P ((at_ xs P).set k c)).length → mLI xs p = mLI (xs.set P ((at_ xs P).set k c)) p ∧ ∀ i, i < mLI (xs.set P ((at_ xs P).set k c)) p → g' p i = gLI (xs.set P ((at_ xs P).set k c)) p i ∨ (AV.idsL (gLI (xs.set P ((at_ xs P).set k c)) p i) = [] ∧ leL (fun _ => none) false (g' p i) (gLI (xs.set P ((at_ xs P).set k c)) p i)) := by
 refine ⟨by simp, rfl, fun p hp => ?_⟩
 by_cases h : p = P
 ·subst h
  have e2 : at_ (xs.set p ((at_ xs p).set k c)) p = ((at_ xs p).set k c) := Zqv hP
  have e3 : ((at_ xs p).set k c) = (at_ xs p).set k c := rfl
  simp only [mLI, gLI, e2, e3]
  refine ⟨by simp, fun i hi => .inl ?_⟩
  by_cases hi2 : i = k
  ·subst hi2
   rw [h1]
   show _ = cI (at_ _ _)
   rw [Zqv hk]
  ·rw [h2 i hi2]
   show cI (at_ _ _) = cI (at_ _ _)
   rw [Zqw hi2]
 ·have e : at_ (xs.set P ((at_ xs P).set k c)) p = at_ xs p := Zqw h
  simp only [mLI, gLI, e]
  refine ⟨trivial, fun i hi => .inl ?_⟩
  rw [h3 p h]; rfl
end Go.Proofs.YtapmeemeciigdaaGreat.Ax
