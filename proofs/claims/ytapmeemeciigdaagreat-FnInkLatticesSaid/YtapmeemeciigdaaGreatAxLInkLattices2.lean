/- Contracts that the statement FnInkLattices reaches, part 2. No conditions. -/
import Derived.Test.YtapmeemeciigdaaGreatAxLInkLattices1
import Derived.Lib.IndexBytes
import Derived.Lib.ItoaNum
import Derived.Lib.ParseIntBCases
import Derived.Lib.SplitLaws
import Derived.Test.YtapmeemeciigdaaGreatAxR
import Derived.Test.YtapmeemeciigdaaGreatAxS
import Derived.Test.YtapmeemeciigdaaGreatAxSF
import Derived.Test.YtapmeemeciigdaaGreatAxY
import Derived.Test.YtapmeemeciigdaaGreatSfEdgShelf
import Derived.Test.YtapmeemeciigdaaGreatSortShelf
namespace Go.Proofs.YtapmeemeciigdaaGreat.Ax
open Go.RowKit Go.ChangeShapes Go.WideShapes
set_option linter.unusedVariables false
set_option linter.unusedSimpArgs false
theorem Zoh (dx : Int) (dy : Int) (hd : (-4095 ≤ dx ∧ dx ≤ 4095) ∧ -4095 ≤ dy ∧ dy ≤ 4095) : Con Tryz.prog 111 [I dx, I dy] true (I (Zht dx dy)) := by
  have hx2 := Yct (x := (dx.natAbs : Int)) om om
  have hy2 := Yct (x := (dy.natAbs : Int)) om om
  have hs2 := Yeh (x := (dx.natAbs : Int) + (dy.natAbs : Int)) (B := 8190) om om
  have hz := @Ycu dx dy
  refine Zbu (fn := Tryz.f111) (nt := 54) Tryz.func111 rfl rfl rfl rfl (by simp [Zag, Zaj]) fun B hB => ?_
  refine aQ [] [0, 1] [] [] hB trivial ?_
  refine aQ [(1, .call [(true, .any)] true (I (dx.natAbs : Int)))] [0, 1, 5] [] [_ ∧ True] hB ⟨⟨(Zsy dx om), trivial⟩, trivial⟩ ?_
  refine aQ [(1, .call [(true, .any)] true (I (dy.natAbs : Int)))] [0, 1, 5, 6] [] [_ ∧ True] hB ⟨⟨(Zsy dy om), trivial⟩, trivial⟩ ?_
  refine aQ [] [0, 1, 5, 6, 7] [] [inR .i64 ((dx.natAbs : Int) + (dy.natAbs : Int)), inR .i64 ((dx.natAbs : Int) + (dy.natAbs : Int)), inR .i64 (((dx.natAbs : Int) + (dy.natAbs : Int)) * ((dx.natAbs : Int) + (dy.natAbs : Int)))] hB ⟨(Zac om om), (Zac om om), (Zac om om), trivial⟩ ?_
  refine Zah ?_
  refine Zau ?_
  refine Zah ?_
  by_cases h1 : (((dx.natAbs : Int) + (dy.natAbs : Int)) * ((dx.natAbs : Int) + (dy.natAbs : Int))) ≤ ((2 * (dx.natAbs : Int)) * (dx.natAbs : Int))
  ·refine Zbm [(5, .dec true)] [0, 1, 6, 7, 19] [] [inR .i64 (2 * (dx.natAbs : Int)), inR .i64 ((2 * (dx.natAbs : Int)) * (dx.natAbs : Int)), _] hB ⟨(Zac om om), (Zac om om), h1, trivial⟩ ?_
   refine Zaa ?_
   refine Zbq ?_
   refine Zah ?_
   refine Zah ?_
   by_cases h2 : 0 < dx
   ·refine Zbm [(1, .dec true)] [27] [] [_] hB ⟨h2, trivial⟩ ?_
    refine Zaa ?_
    refine Zbq ?_
    refine aR [] [4] [] [I 0] [] [] hB trivial ?_
    refine Zam ?_
    refine Zak (Zao (Zak ?_))
    refine Zan hB (I 0) (by kernel_rfl) (.inl (by refine congrArg I ?_; unfold Zht; (repeat' split) <;> first | rfl | omega)) rfl (fun _ => trivial)
   refine Zbm [(1, .dec false)] [27] [] [_] hB ⟨h2, trivial⟩ ?_
   refine Zaa ?_
   refine Zbj ?_
   refine Zas ?_
   refine Zaa ?_
   refine aR [] [4] [] [I 4] [] [] hB trivial ?_
   refine Zam ?_
   refine Zao (Zak ?_)
   refine Zan hB (I 4) (by kernel_rfl) (.inl (by refine congrArg I ?_; unfold Zht; (repeat' split) <;> first | rfl | omega)) rfl (fun _ => trivial)
  refine Zbm [(5, .dec false)] [0, 1, 6, 7, 19] [] [inR .i64 (2 * (dx.natAbs : Int)), inR .i64 ((2 * (dx.natAbs : Int)) * (dx.natAbs : Int)), _] hB ⟨(Zac om om), (Zac om om), h1, trivial⟩ ?_
  refine Zaa ?_
  refine Zbj ?_
  refine Zah ?_
  by_cases h3 : (((dx.natAbs : Int) + (dy.natAbs : Int)) * ((dx.natAbs : Int) + (dy.natAbs : Int))) ≤ ((2 * (dy.natAbs : Int)) * (dy.natAbs : Int))
  ·refine Zbm [(5, .dec true)] [0, 1, 28] [] [inR .i64 (2 * (dy.natAbs : Int)), inR .i64 ((2 * (dy.natAbs : Int)) * (dy.natAbs : Int)), _] hB ⟨(Zac om om), (Zac om om), h3, trivial⟩ ?_
   refine Zaa ?_
   refine Zbq ?_
   refine Zah ?_
   refine Zah ?_
   by_cases h4 : 0 < dy
   ·refine Zbm [(1, .dec true)] [36] [] [_] hB ⟨h4, trivial⟩ ?_
    refine Zaa ?_
    refine Zbq ?_
    refine aR [] [4] [] [I 2] [] [] hB trivial ?_
    refine Zam ?_
    refine Zak (Zao (Zak ?_))
    refine Zan hB (I 2) (by kernel_rfl) (.inl (by refine congrArg I ?_; unfold Zht; (repeat' split) <;> first | rfl | omega)) rfl (fun _ => trivial)
   refine Zbm [(1, .dec false)] [36] [] [_] hB ⟨h4, trivial⟩ ?_
   refine Zaa ?_
   refine Zbj ?_
   refine Zas ?_
   refine Zaa ?_
   refine aR [] [4] [] [I 6] [] [] hB trivial ?_
   refine Zam ?_
   refine Zao (Zak ?_)
   refine Zan hB (I 6) (by kernel_rfl) (.inl (by refine congrArg I ?_; unfold Zht; (repeat' split) <;> first | rfl | omega)) rfl (fun _ => trivial)
  refine Zbm [(5, .dec false)] [0, 1, 28] [] [inR .i64 (2 * (dy.natAbs : Int)), inR .i64 ((2 * (dy.natAbs : Int)) * (dy.natAbs : Int)), _] hB ⟨(Zac om om), (Zac om om), h3, trivial⟩ ?_
  refine Zaa ?_
  refine Zbj ?_
  refine Zah ?_
  by_cases h5 : 0 < dx
  ·by_cases h6 : 0 < dy
   ·refine Zbm [(1, .dec true), (4, .dec true)] [0, 1, 37] [] [_, _] hB ⟨h5, h6, trivial⟩ ?_
    refine Zaa ?_
    refine Zbq ?_
    refine aR [] [4] [] [I 1] [] [] hB trivial ?_
    refine Zam ?_
    refine Zao (Zak ?_)
    refine Zan hB (I 1) (by kernel_rfl) (.inl (by refine congrArg I ?_; unfold Zht; (repeat' split) <;> first | rfl | omega)) rfl (fun _ => trivial)
   refine Zbm [(1, .dec true), (4, .dec false)] [0, 1, 37] [] [_, _] hB ⟨h5, h6, trivial⟩ ?_
   refine Zaa ?_
   refine Zbj ?_
   refine Zah ?_
   by_cases h7 : dx < 0
   ·refine Zbm [(1, .dec true), (4, .dec false)] [0, 44] [] [_, _] hB ⟨h7, h6, trivial⟩ ?_
    refine Zaa ?_
    refine Zbj ?_
    refine aQ [(1, .dec true)] [51] [] [_] hB ⟨h7, trivial⟩ ?_
    refine Zbq ?_
    refine aR [] [4] [] [I 5] [] [] hB trivial ?_
    refine Zam ?_
    refine Zao (Zak ?_)
    refine Zan hB (I 5) (by kernel_rfl) (.inl (by refine congrArg I ?_; unfold Zht; (repeat' split) <;> first | rfl | omega)) rfl (fun _ => trivial)
   refine Zbm [(1, .dec false)] [0, 44] [] [_] hB ⟨h7, trivial⟩ ?_
   refine Zaa ?_
   refine Zbj ?_
   refine aQ [(1, .dec false)] [51] [] [_] hB ⟨h7, trivial⟩ ?_
   refine Zbj ?_
   refine Zas ?_
   refine Zba 0 ?_
   refine Zaa ?_
   refine aR [] [4] [] [I 7] [] [] hB trivial ?_
   refine Zam ?_
   refine Zan hB (I 7) (by kernel_rfl) (.inl (by refine congrArg I ?_; unfold Zht; (repeat' split) <;> first | rfl | omega)) rfl (fun _ => trivial)
  refine Zbm [(1, .dec false)] [0, 1, 37] [] [_] hB ⟨h5, trivial⟩ ?_
  refine Zaa ?_
  refine Zbj ?_
  refine Zah ?_
  by_cases h8 : dx < 0
  ·by_cases h9 : 0 < dy
   ·refine Zbm [(1, .dec true), (4, .dec true)] [0, 44] [] [_, _] hB ⟨h8, h9, trivial⟩ ?_
    refine Zaa ?_
    refine Zbq ?_
    refine aR [] [4] [] [I 3] [] [] hB trivial ?_
    refine Zam ?_
    refine Zao (Zak ?_)
    refine Zan hB (I 3) (by kernel_rfl) (.inl (by refine congrArg I ?_; unfold Zht; (repeat' split) <;> first | rfl | omega)) rfl (fun _ => trivial)
   refine Zbm [(1, .dec true), (4, .dec false)] [0, 44] [] [_, _] hB ⟨h8, h9, trivial⟩ ?_
   refine Zaa ?_
   refine Zbj ?_
   refine aQ [(1, .dec true)] [51] [] [_] hB ⟨h8, trivial⟩ ?_
   refine Zbq ?_
   refine aR [] [4] [] [I 5] [] [] hB trivial ?_
   refine Zam ?_
   refine Zao (Zak ?_)
   refine Zan hB (I 5) (by kernel_rfl) (.inl (by refine congrArg I ?_; unfold Zht; (repeat' split) <;> first | rfl | omega)) rfl (fun _ => trivial)
  refine Zbm [(1, .dec false)] [0, 44] [] [_] hB ⟨h8, trivial⟩ ?_
  refine Zaa ?_
  refine Zbj ?_
  refine aQ [(1, .dec false)] [51] [] [_] hB ⟨h8, trivial⟩ ?_
  refine Zbj ?_
  refine Zas ?_
  refine Zba 0 ?_
  refine Zaa ?_
  refine aR [] [4] [] [I 7] [] [] hB trivial ?_
  refine Zam ?_
  refine Zan hB (I 7) (by kernel_rfl) (.inl (by refine congrArg I ?_; unfold Zht; (repeat' split) <;> first | rfl | omega)) rfl (fun _ => trivial)
theorem Yej (b : Box) (hb : Zfk b) : Con Tryz.prog 149 [Zfo b] true (I (Zcq b)) := by
 unfold Zfk at hb
 refine Zbu (fn := Tryz.f149) (nt := 15) Tryz.func149 rfl rfl rfl rfl (by simp [Zag, Zaj]) fun B hB => ?_
 refine aQ [(0, .new 1)] [1] [1] [] hB trivial ?_
 refine aR [(10, .call [(true, .any), (true, .any)] true (I (max (b.X2 - b.X1) (b.Y2 - b.Y1)))), (11, .call [(true, .any), (true, .any)] true (I (max 1 (max (b.X2 - b.X1) (b.Y2 - b.Y1)))))] [2] [] [I (max 1 (max (b.X2 - b.X1) (b.Y2 - b.Y1)))] [] [inR .i64 (b.X2 - b.X1), inR .i64 (b.Y2 - b.Y1), _ ∧ True, _ ∧ True] hB ⟨(Zac om om), (Zac om om), ⟨(Zhx (b.X2 - b.X1) (b.Y2 - b.Y1)), trivial⟩, ⟨(Zhx 1 (max (b.X2 - b.X1) (b.Y2 - b.Y1))), trivial⟩, trivial⟩ ?_
 refine Zam ?_
 refine Zan hB (I (max 1 (max (b.X2 - b.X1) (b.Y2 - b.Y1)))) (by kernel_rfl) (.inl (by refine congrArg I ?_; unfold Zcq; omega)) rfl (fun _ => trivial)
theorem Zis (p : Spot) (b : Box) (hb : Zfk b) (hp : (b.X1 ≤ p.X ∧ p.X ≤ b.X2) ∧ b.Y1 ≤ p.Y ∧ p.Y ≤ b.Y2) : Con Tryz.prog 112 [.agg [I p.X, I p.Y], Zfo b] true (.agg [I ((Zcv p b).X), I ((Zcv p b).Y)]) := by
 have hb0 := hb
 have hs := Yam hb
 unfold Zfk at hb
 have hqx := Zyd (w := b.X2 - b.X1) (d := Zcq b) om om om
 have hqy := Zyd (w := b.Y2 - b.Y1) (d := Zcq b) om om om
 have hnx := Yei (x := p.X - b.X1) (w := b.X2 - b.X1) (d := Zcq b) om om om
 have hny := Yei (x := p.Y - b.Y1) (w := b.Y2 - b.Y1) (d := Zcq b) om om om
 refine Zbu (fn := Tryz.f112) (nt := 51) Tryz.func112 rfl rfl rfl rfl (by simp [Zag, Zaj]) fun B hB => ?_
 refine aQ [(0, .new 2), (1, .new 3), (2, .new 4)] [2, 3, 4] [2, 3, 4] [] hB trivial ?_
 refine aQ [(1, .call [(true, .any)] true (I (Zcq b)))] [2, 3, 4, 5] [2, 3, 4] [_ ∧ True] hB ⟨⟨(Yej b hb0), trivial⟩, trivial⟩ ?_
 refine aQ [(7, .nn), (9, .nn)] [2, 3, 4, 5, 6] [2, 3, 4] [inR .i64 (b.X2 - b.X1), inR .i64 ((b.X2 - b.X1) * 255), (0 : Int) ≤ ((b.X2 - b.X1) * 255) ∧ (0 : Int) < (Zcq b) ∧ inR .i64 ((b.X2 - b.X1) * 255), inR .i64 (255 - (((b.X2 - b.X1) * 255) / (Zcq b))), (0 : Int) ≤ (255 - (((b.X2 - b.X1) * 255) / (Zcq b))) ∧ (0 : Int) < 2 ∧ inR .i64 (255 - (((b.X2 - b.X1) * 255) / (Zcq b)))] hB ⟨(Zac om om), (Zac om om), ⟨om, om, (Zac om om)⟩, (Zac om om), ⟨om, om, (Zac om om)⟩, trivial⟩ ?_
 refine aQ [(7, .nn), (9, .nn)] [2, 3, 4, 5, 6, 7] [2, 3, 4] [inR .i64 (b.Y2 - b.Y1), inR .i64 ((b.Y2 - b.Y1) * 255), (0 : Int) ≤ ((b.Y2 - b.Y1) * 255) ∧ (0 : Int) < (Zcq b) ∧ inR .i64 ((b.Y2 - b.Y1) * 255), inR .i64 (255 - (((b.Y2 - b.Y1) * 255) / (Zcq b))), (0 : Int) ≤ (255 - (((b.Y2 - b.Y1) * 255) / (Zcq b))) ∧ (0 : Int) < 2 ∧ inR .i64 (255 - (((b.Y2 - b.Y1) * 255) / (Zcq b)))] hB ⟨(Zac om om), (Zac om om), ⟨om, om, (Zac om om)⟩, (Zac om om), ⟨om, om, (Zac om om)⟩, trivial⟩ ?_
 refine aR [(8, .call [(true, .any), (true, .any)] true (I (Zed ((p.X - b.X1) * 255) (Zcq b)))), (18, .call [(true, .any), (true, .any)] true (I (Zed ((p.Y - b.Y1) * 255) (Zcq b))))] [4] [4] [.ref 4 0] [some (.box [I (((255 - (((b.X2 - b.X1) * 255) / (Zcq b))) / 2) + (Zed ((p.X - b.X1) * 255) (Zcq b))), I (((255 - (((b.Y2 - b.Y1) * 255) / (Zcq b))) / 2) + (Zed ((p.Y - b.Y1) * 255) (Zcq b)))])] [inR .i64 (p.X - b.X1), inR .i64 ((p.X - b.X1) * 255), _ ∧ True, inR .i64 (((255 - (((b.X2 - b.X1) * 255) / (Zcq b))) / 2) + (Zed ((p.X - b.X1) * 255) (Zcq b))), inR .i64 (p.Y - b.Y1), inR .i64 ((p.Y - b.Y1) * 255), _ ∧ True, inR .i64 (((255 - (((b.Y2 - b.Y1) * 255) / (Zcq b))) / 2) + (Zed ((p.Y - b.Y1) * 255) (Zcq b)))] hB ⟨(Zac om om), (Zac om om), ⟨(Zla ((p.X - b.X1) * 255) (Zcq b) om), trivial⟩, (Zac om om), (Zac om om), (Zac om om), ⟨(Zla ((p.Y - b.Y1) * 255) (Zcq b) om), trivial⟩, (Zac om om), trivial⟩ ?_
 refine Zam ?_
 refine Zan hB (.agg [I (((255 - (((b.X2 - b.X1) * 255) / (Zcq b))) / 2) + (Zed ((p.X - b.X1) * 255) (Zcq b))), I (((255 - (((b.Y2 - b.Y1) * 255) / (Zcq b))) / 2) + (Zed ((p.Y - b.Y1) * 255) (Zcq b)))]) (by kernel_rfl) (.inl (by rfl)) rfl (fun _ => (by simp [Zaj, Zag]))
theorem Zyf (s : Stroke) (n : Int) (b : Box) (ok : Zar s = true) (hn : 2 ≤ n ∧ n ≤ 24) (hb : Zfk b ∧ Zqt (skB s) b) : Con Tryz.prog 69 [.ptr false [Zaq false s.Points], I n, Zfo b] true (Zai true (Zil s n b)) := by
  have hrl := Zpl s n
  have hbb := hb.1
  unfold Zfk at hbb
  refine Zbu (fn := Tryz.f69) (nt := 78) Tryz.func69 rfl rfl rfl rfl (by simp [Zag, Zaj, Zec]) fun B hB => ?_
  refine Zbt (x := .ptr false [Zaq false s.Points]) 0 rfl (fun len_s => ?_)
  simp [Zdk, Zgf, Zee, Zdl, Zaq] at len_s
  refine aQ [(0, .new 5)] [0, 1, 5] [5] [] hB trivial ?_
  refine aQ [(2, .call [(true, .any), (true, .any)] true (Zdy true (Zbi s n)))] [5, 7] [5] [_ ∧ True] hB ⟨⟨(Zrx s n ok om), trivial⟩, trivial⟩ ?_
  refine aQ [(0, .new 17)] [5, 7, 8] [5, 17] [] hB trivial ?_
  refine aQ [] [5, 7, 8, 9] [5, 17] [] hB trivial ?_
  refine Zah ?_
  refine aR [] [5, 7, 8, 9, 10] [5, 17] [.ref 5 0, Zdy true (Zbi s n), .arr 17, I 0, I 0] [some (Zef b), some (.arr 3 0 (Zgm [] 3))] [] hB trivial ?_
  refine Zau ?_
  refine Zhz hB [] (T := [(5, .ref 5 0), (7, Zdy true (Zbi s n)), (8, .arr 17), (9, I 0), (10, I 0)]) (O := [(5, Zef b), (17, Zfr ([] : List Feat))]) rfl (⟨.inl rfl, .inl rfl, .inl rfl, .inl rfl, .inl rfl, trivial⟩) (⟨.inl rfl, .inr ⟨rfl, (by first | rfl | (simp; done) | (simp; omega) | omega), fun i_ hi_ => absurd hi_ (Nat.not_lt_zero _)⟩, trivial⟩) ?_
  refine Zcn (fun gn gσ => ∃ (out : List Feat) (d : Int) (k : Int), gn = (((Zbi s n).length : Int) - k).toNat ∧ (0 ≤ k ∧ k ≤ ((Zbi s n).length : Int)) ∧ ((out.length : Int) = k) ∧ (out = Zrw (Zbi s n) b k.toNat) ∧ (d = Ycv (Zbi s n) k.toNat ∧ 0 ≤ d ∧ d ≤ 7) ∧ gσ = mkS [(5, .ref 5 0), (7, Zdy true (Zbi s n)), (8, .arr 17), (9, I d), (10, I k)] [(5, Zef b), (17, Zfr out)]) ((((Zbi s n).length : Int) - 0).toNat) ⟨([] : List Feat), 0, 0, rfl, om, (by rfl), (by rfl), (by exact ⟨rfl, by omega⟩), rfl⟩ (fun gn gσ hI => ?_)
  obtain ⟨out, d, k, rfl, hk0, hll, hl0, hd0, rfl⟩ := hI
  refine Zah ?_
  refine Zah ?_
  by_cases h1 : k < (((Zbi s n).length) : Int)
  ·have hk : k.toNat < (Zbi s n).length := by omega
   have hbk := Zmz ok hn.1 hb.2 hk
   refine Zbm [(3, .dec true)] [5, 7, 8, 9, 10, 21] [5, 17] [_] hB ⟨h1, trivial⟩ ?_
   refine Zaa ?_
   refine Zbq ?_
   refine Zas ?_
   refine Zaa ?_
   refine Zah ?_
   refine Zau ?_
   refine Zah ?_
   refine Zah ?_
   by_cases h2 : (k + 1) < (((Zbi s n).length) : Int)
   ·have hbk1 := Zmz ok hn.1 hb.2 (j := (k + 1).toNat) om
    refine Zbm [(4, .dec true)] [5, 7, 8, 9, 10, 28] [5, 17] [inR .i64 (k + 1), _] hB ⟨(Zac om om), h2, trivial⟩ ?_
    refine Zaa ?_
    refine Zbq ?_
    refine aQ [] [5, 7, 8, 9, 10, 11] [5, 17] [inR .i64 (k + 1), (0 : Int) ≤ (k + 1) ∧ (k + 1) < (((Zbi s n).length) : Int), (0 : Int) ≤ k ∧ k < (((Zbi s n).length) : Int), inR .i64 (((at_ (Zbi s n) ((k + 1).toNat)).X) - ((at_ (Zbi s n) k.toNat).X))] hB ⟨(Zac om om), ⟨om, om⟩, ⟨om, om⟩, (Zac om om), trivial⟩ ?_
    refine aQ [] [5, 7, 8, 9, 10, 11, 12] [5, 17] [inR .i64 (k + 1), (0 : Int) ≤ (k + 1) ∧ (k + 1) < (((Zbi s n).length) : Int), (0 : Int) ≤ k ∧ k < (((Zbi s n).length) : Int), inR .i64 (((at_ (Zbi s n) ((k + 1).toNat)).Y) - ((at_ (Zbi s n) k.toNat).Y))] hB ⟨(Zac om om), ⟨om, om⟩, ⟨om, om⟩, (Zac om om), trivial⟩ ?_
    refine Zah ?_
    by_cases h3 : (((at_ (Zbi s n) ((k + 1).toNat)).X) - ((at_ (Zbi s n) k.toNat).X)) = 0
    ·by_cases h4 : (((at_ (Zbi s n) ((k + 1).toNat)).Y) - ((at_ (Zbi s n) k.toNat).Y)) = 0
     ·have hdq := (Zvp (l := (Zbi s n)) (k := k) om (fun q => q.2 ⟨h3, h4⟩)).trans hd0.1.symm
      refine Zbm [(1, .dec false), (4, .dec false)] [5, 7, 8, 9, 10, 11, 12, 58] [5, 17] [¬ ((((at_ (Zbi s n) ((k + 1).toNat)).X) - ((at_ (Zbi s n) k.toNat).X)) ≠ 0), ¬ ((((at_ (Zbi s n) ((k + 1).toNat)).Y) - ((at_ (Zbi s n) k.toNat).Y)) ≠ 0)] hB ⟨(fun hq => hq h3), (fun hq => hq h4), trivial⟩ ?_
      refine Zaa ?_
      refine Zbj ?_
      refine Zas ?_
      refine Zaa ?_
      refine aQ [(5, .call [(true, .any), (true, .any)] true (.agg [I ((Zcv (at_ (Zbi s n) k.toNat) b).X), I ((Zcv (at_ (Zbi s n) k.toNat) b).Y)])), (6, .new 13)] [5, 7, 8, 9, 10, 13] [5, 13, 17] [(0 : Int) ≤ k ∧ k < (((Zbi s n).length) : Int), _ ∧ True] hB ⟨⟨om, om⟩, ⟨(Zis (at_ (Zbi s n) k.toNat) b hb.1 om), trivial⟩, trivial⟩ ?_
      refine Zbm [(7, .new 75), (8, .new 76)] [5, 7, 8, 9, 10] [5, 76] [(out.length + 1) * 24 ≤ 140737488355328] hB ⟨om, trivial⟩ ?_
      refine Zba 1 ?_
      refine Zaa ?_
      refine Zdg [] [5, 7, 8, 9, 10] [5, 76] [.ref 5 0, Zdy true (Zbi s n), .arr 76, I d, I (k + 1)] [some (Zef b), some (.arr 3 (out.length + 1) (Zgb out.length (Zez out) (Zgm [I ((Zcv (at_ (Zbi s n) k.toNat) b).X), I ((Zcv (at_ (Zbi s n) k.toNat) b).Y), I d] 3)))] [inR .i64 (k + 1)] hB ⟨(Zac om om), trivial⟩ ?_
      refine Zeq hB [(17, 76)] (T := [(5, .ref 5 0), (7, Zdy true (Zbi s n)), (8, .arr 17), (9, I d), (10, I (k + 1))]) (O := [(5, Zef b), (17, Zfr (out ++ [(Feat.mk ((Zcv (at_ (Zbi s n) k.toNat) b).X) ((Zcv (at_ (Zbi s n) k.toNat) b).Y) d)]))]) rfl (⟨.inl rfl, .inl rfl, .inl rfl, .inl rfl, .inl rfl, trivial⟩) (⟨.inl rfl, .inr ⟨rfl, (by first | rfl | (simp; done) | (simp; omega) | omega), fun i_ hi_ => .inl (Zcm (enc := Zgw) (xs := out) rfl i_ hi_)⟩, trivial⟩) (Zbf _ om ⟨(out ++ [(Feat.mk ((Zcv (at_ (Zbi s n) k.toNat) b).X) ((Zcv (at_ (Zbi s n) k.toNat) b).Y) d)]), d, (k + 1), rfl, om, (by simp; omega), (by rw [Zgr om, ← hl0, hdq]), (by have hdb := Zju (Zbi s n) (k + 1).toNat; rw [hdq] at hdb; exact ⟨hdq.symm, hdb⟩), rfl⟩)
     have hdq := Zvq (l := (Zbi s n)) (k := k) om om (fun q => h4 q.2)
     refine Zbm [(1, .dec false), (4, .dec true)] [5, 7, 8, 9, 10, 11, 12, 58] [5, 17] [¬ ((((at_ (Zbi s n) ((k + 1).toNat)).X) - ((at_ (Zbi s n) k.toNat).X)) ≠ 0), _] hB ⟨(fun hq => hq h3), h4, trivial⟩ ?_
     refine Zaa ?_
     refine Zbq ?_
     refine Zbm [(2, .call [(true, .any), (true, .any)] true (I (Zht (((at_ (Zbi s n) ((k + 1).toNat)).X) - ((at_ (Zbi s n) k.toNat).X)) (((at_ (Zbi s n) ((k + 1).toNat)).Y) - ((at_ (Zbi s n) k.toNat).Y)))))] [5, 7, 8, 9, 10] [5, 17] [_ ∧ True] hB ⟨⟨(Zoh (((at_ (Zbi s n) ((k + 1).toNat)).X) - ((at_ (Zbi s n) k.toNat).X)) (((at_ (Zbi s n) ((k + 1).toNat)).Y) - ((at_ (Zbi s n) k.toNat).Y)) om), trivial⟩, trivial⟩ ?_
     refine Zaa ?_
     refine aQ [(5, .call [(true, .any), (true, .any)] true (.agg [I ((Zcv (at_ (Zbi s n) k.toNat) b).X), I ((Zcv (at_ (Zbi s n) k.toNat) b).Y)])), (6, .new 13)] [5, 7, 8, 9, 10, 13] [5, 13, 17] [(0 : Int) ≤ k ∧ k < (((Zbi s n).length) : Int), _ ∧ True] hB ⟨⟨om, om⟩, ⟨(Zis (at_ (Zbi s n) k.toNat) b hb.1 om), trivial⟩, trivial⟩ ?_
     refine Zbm [(7, .new 75), (8, .new 76)] [5, 7, 8, 9, 10] [5, 76] [(out.length + 1) * 24 ≤ 140737488355328] hB ⟨om, trivial⟩ ?_
     refine Zba 1 ?_
     refine Zaa ?_
     refine Zdg [] [5, 7, 8, 9, 10] [5, 76] [.ref 5 0, Zdy true (Zbi s n), .arr 76, I (Zht (((at_ (Zbi s n) ((k + 1).toNat)).X) - ((at_ (Zbi s n) k.toNat).X)) (((at_ (Zbi s n) ((k + 1).toNat)).Y) - ((at_ (Zbi s n) k.toNat).Y))), I (k + 1)] [some (Zef b), some (.arr 3 (out.length + 1) (Zgb out.length (Zez out) (Zgm [I ((Zcv (at_ (Zbi s n) k.toNat) b).X), I ((Zcv (at_ (Zbi s n) k.toNat) b).Y), I (Zht (((at_ (Zbi s n) ((k + 1).toNat)).X) - ((at_ (Zbi s n) k.toNat).X)) (((at_ (Zbi s n) ((k + 1).toNat)).Y) - ((at_ (Zbi s n) k.toNat).Y)))] 3)))] [inR .i64 (k + 1)] hB ⟨(Zac om om), trivial⟩ ?_
     refine Zeq hB [(17, 76)] (T := [(5, .ref 5 0), (7, Zdy true (Zbi s n)), (8, .arr 17), (9, I (Zht (((at_ (Zbi s n) ((k + 1).toNat)).X) - ((at_ (Zbi s n) k.toNat).X)) (((at_ (Zbi s n) ((k + 1).toNat)).Y) - ((at_ (Zbi s n) k.toNat).Y)))), (10, I (k + 1))]) (O := [(5, Zef b), (17, Zfr (out ++ [(Feat.mk ((Zcv (at_ (Zbi s n) k.toNat) b).X) ((Zcv (at_ (Zbi s n) k.toNat) b).Y) (Zht (((at_ (Zbi s n) ((k + 1).toNat)).X) - ((at_ (Zbi s n) k.toNat).X)) (((at_ (Zbi s n) ((k + 1).toNat)).Y) - ((at_ (Zbi s n) k.toNat).Y))))]))]) rfl (⟨.inl rfl, .inl rfl, .inl rfl, .inl rfl, .inl rfl, trivial⟩) (⟨.inl rfl, .inr ⟨rfl, (by first | rfl | (simp; done) | (simp; omega) | omega), fun i_ hi_ => .inl (Zcm (enc := Zgw) (xs := out) rfl i_ hi_)⟩, trivial⟩) (Zbf _ om ⟨(out ++ [(Feat.mk ((Zcv (at_ (Zbi s n) k.toNat) b).X) ((Zcv (at_ (Zbi s n) k.toNat) b).Y) (Zht (((at_ (Zbi s n) ((k + 1).toNat)).X) - ((at_ (Zbi s n) k.toNat).X)) (((at_ (Zbi s n) ((k + 1).toNat)).Y) - ((at_ (Zbi s n) k.toNat).Y))))]), (Zht (((at_ (Zbi s n) ((k + 1).toNat)).X) - ((at_ (Zbi s n) k.toNat).X)) (((at_ (Zbi s n) ((k + 1).toNat)).Y) - ((at_ (Zbi s n) k.toNat).Y))), (k + 1), rfl, om, (by simp; omega), (by rw [Zgr om, ← hl0, hdq]), (by have hdb := Zju (Zbi s n) (k + 1).toNat; rw [hdq] at hdb; exact ⟨hdq.symm, hdb⟩), rfl⟩)
    have hdq := Zvq (l := (Zbi s n)) (k := k) om om (fun q => h3 q.1)
    refine Zbm [(1, .dec true)] [5, 7, 8, 9, 10, 11, 12, 58] [5, 17] [_] hB ⟨h3, trivial⟩ ?_
    refine Zaa ?_
    refine Zbq ?_
    refine Zbm [(2, .call [(true, .any), (true, .any)] true (I (Zht (((at_ (Zbi s n) ((k + 1).toNat)).X) - ((at_ (Zbi s n) k.toNat).X)) (((at_ (Zbi s n) ((k + 1).toNat)).Y) - ((at_ (Zbi s n) k.toNat).Y)))))] [5, 7, 8, 9, 10] [5, 17] [_ ∧ True] hB ⟨⟨(Zoh (((at_ (Zbi s n) ((k + 1).toNat)).X) - ((at_ (Zbi s n) k.toNat).X)) (((at_ (Zbi s n) ((k + 1).toNat)).Y) - ((at_ (Zbi s n) k.toNat).Y)) om), trivial⟩, trivial⟩ ?_
    refine Zaa ?_
    refine aQ [(5, .call [(true, .any), (true, .any)] true (.agg [I ((Zcv (at_ (Zbi s n) k.toNat) b).X), I ((Zcv (at_ (Zbi s n) k.toNat) b).Y)])), (6, .new 13)] [5, 7, 8, 9, 10, 13] [5, 13, 17] [(0 : Int) ≤ k ∧ k < (((Zbi s n).length) : Int), _ ∧ True] hB ⟨⟨om, om⟩, ⟨(Zis (at_ (Zbi s n) k.toNat) b hb.1 om), trivial⟩, trivial⟩ ?_
    refine Zbm [(7, .new 75), (8, .new 76)] [5, 7, 8, 9, 10] [5, 76] [(out.length + 1) * 24 ≤ 140737488355328] hB ⟨om, trivial⟩ ?_
    refine Zba 1 ?_
    refine Zaa ?_
    refine Zdg [] [5, 7, 8, 9, 10] [5, 76] [.ref 5 0, Zdy true (Zbi s n), .arr 76, I (Zht (((at_ (Zbi s n) ((k + 1).toNat)).X) - ((at_ (Zbi s n) k.toNat).X)) (((at_ (Zbi s n) ((k + 1).toNat)).Y) - ((at_ (Zbi s n) k.toNat).Y))), I (k + 1)] [some (Zef b), some (.arr 3 (out.length + 1) (Zgb out.length (Zez out) (Zgm [I ((Zcv (at_ (Zbi s n) k.toNat) b).X), I ((Zcv (at_ (Zbi s n) k.toNat) b).Y), I (Zht (((at_ (Zbi s n) ((k + 1).toNat)).X) - ((at_ (Zbi s n) k.toNat).X)) (((at_ (Zbi s n) ((k + 1).toNat)).Y) - ((at_ (Zbi s n) k.toNat).Y)))] 3)))] [inR .i64 (k + 1)] hB ⟨(Zac om om), trivial⟩ ?_
    refine Zeq hB [(17, 76)] (T := [(5, .ref 5 0), (7, Zdy true (Zbi s n)), (8, .arr 17), (9, I (Zht (((at_ (Zbi s n) ((k + 1).toNat)).X) - ((at_ (Zbi s n) k.toNat).X)) (((at_ (Zbi s n) ((k + 1).toNat)).Y) - ((at_ (Zbi s n) k.toNat).Y)))), (10, I (k + 1))]) (O := [(5, Zef b), (17, Zfr (out ++ [(Feat.mk ((Zcv (at_ (Zbi s n) k.toNat) b).X) ((Zcv (at_ (Zbi s n) k.toNat) b).Y) (Zht (((at_ (Zbi s n) ((k + 1).toNat)).X) - ((at_ (Zbi s n) k.toNat).X)) (((at_ (Zbi s n) ((k + 1).toNat)).Y) - ((at_ (Zbi s n) k.toNat).Y))))]))]) rfl (⟨.inl rfl, .inl rfl, .inl rfl, .inl rfl, .inl rfl, trivial⟩) (⟨.inl rfl, .inr ⟨rfl, (by first | rfl | (simp; done) | (simp; omega) | omega), fun i_ hi_ => .inl (Zcm (enc := Zgw) (xs := out) rfl i_ hi_)⟩, trivial⟩) (Zbf _ om ⟨(out ++ [(Feat.mk ((Zcv (at_ (Zbi s n) k.toNat) b).X) ((Zcv (at_ (Zbi s n) k.toNat) b).Y) (Zht (((at_ (Zbi s n) ((k + 1).toNat)).X) - ((at_ (Zbi s n) k.toNat).X)) (((at_ (Zbi s n) ((k + 1).toNat)).Y) - ((at_ (Zbi s n) k.toNat).Y))))]), (Zht (((at_ (Zbi s n) ((k + 1).toNat)).X) - ((at_ (Zbi s n) k.toNat).X)) (((at_ (Zbi s n) ((k + 1).toNat)).Y) - ((at_ (Zbi s n) k.toNat).Y))), (k + 1), rfl, om, (by simp; omega), (by rw [Zgr om, ← hl0, hdq]), (by have hdb := Zju (Zbi s n) (k + 1).toNat; rw [hdq] at hdb; exact ⟨hdq.symm, hdb⟩), rfl⟩)
   have hdq := (Zvp (l := (Zbi s n)) (k := k) om (fun q => by omega)).trans hd0.1.symm
   refine Zbm [(4, .dec false)] [5, 7, 8, 9, 10, 28] [5, 17] [inR .i64 (k + 1), _] hB ⟨(Zac om om), h2, trivial⟩ ?_
   refine Zaa ?_
   refine Zbj ?_
   refine Zas ?_
   refine Zaa ?_
   refine aQ [(5, .call [(true, .any), (true, .any)] true (.agg [I ((Zcv (at_ (Zbi s n) k.toNat) b).X), I ((Zcv (at_ (Zbi s n) k.toNat) b).Y)])), (6, .new 13)] [5, 7, 8, 9, 10, 13] [5, 13, 17] [(0 : Int) ≤ k ∧ k < (((Zbi s n).length) : Int), _ ∧ True] hB ⟨⟨om, om⟩, ⟨(Zis (at_ (Zbi s n) k.toNat) b hb.1 om), trivial⟩, trivial⟩ ?_
   refine Zbm [(7, .new 75), (8, .new 76)] [5, 7, 8, 9, 10] [5, 76] [(out.length + 1) * 24 ≤ 140737488355328] hB ⟨om, trivial⟩ ?_
   refine Zba 1 ?_
   refine Zaa ?_
   refine Zdg [] [5, 7, 8, 9, 10] [5, 76] [.ref 5 0, Zdy true (Zbi s n), .arr 76, I d, I (k + 1)] [some (Zef b), some (.arr 3 (out.length + 1) (Zgb out.length (Zez out) (Zgm [I ((Zcv (at_ (Zbi s n) k.toNat) b).X), I ((Zcv (at_ (Zbi s n) k.toNat) b).Y), I d] 3)))] [inR .i64 (k + 1)] hB ⟨(Zac om om), trivial⟩ ?_
   refine Zeq hB [(17, 76)] (T := [(5, .ref 5 0), (7, Zdy true (Zbi s n)), (8, .arr 17), (9, I d), (10, I (k + 1))]) (O := [(5, Zef b), (17, Zfr (out ++ [(Feat.mk ((Zcv (at_ (Zbi s n) k.toNat) b).X) ((Zcv (at_ (Zbi s n) k.toNat) b).Y) d)]))]) rfl (⟨.inl rfl, .inl rfl, .inl rfl, .inl rfl, .inl rfl, trivial⟩) (⟨.inl rfl, .inr ⟨rfl, (by first | rfl | (simp; done) | (simp; omega) | omega), fun i_ hi_ => .inl (Zcm (enc := Zgw) (xs := out) rfl i_ hi_)⟩, trivial⟩) (Zbf _ om ⟨(out ++ [(Feat.mk ((Zcv (at_ (Zbi s n) k.toNat) b).X) ((Zcv (at_ (Zbi s n) k.toNat) b).Y) d)]), d, (k + 1), rfl, om, (by simp; omega), (by rw [Zgr om, ← hl0, hdq]), (by have hdb := Zju (Zbi s n) (k + 1).toNat; rw [hdq] at hdb; exact ⟨hdq.symm, hdb⟩), rfl⟩)
  have hke : k.toNat = (Zbi s n).length := by omega
  rw [hke] at hl0
  have hl1 : out = Zil s n b := hl0
  clear hl0
  subst hl1
  refine Zbm [(3, .dec false)] [5, 7, 8, 9, 10, 21] [5, 17] [_] hB ⟨h1, trivial⟩ ?_
  refine Zaa ?_
  refine Zbj ?_
  refine Zcj ?_
  refine Zal ?_
  refine Zal ?_
  refine Zaw ?_
  refine Zaa ?_
  refine aR [] [6] [17] [.arr 17] [some (Zfr (Zil s n b))] [] hB trivial ?_
  refine Zam ?_
  refine Zan hB (.arr 17) (by kernel_rfl) (.inr ⟨(fun _ => rfl), rfl, rfl, fun i _ => .inl rfl⟩) rfl (fun _ => (Zdq true _))
theorem Ztp (ik : Ink) (n : Int) (ok : Zbp ik = true) (hn : 2 ≤ n ∧ n ≤ 24) (h0 : 1 ≤ ik.Strokes.length) : Con Tryz.prog 34 [.ptr false [Zae false ik.Strokes], I n] true (Zai true (feA ik n)) := by
  have hil := Zgp ok
  refine Zbu (fn := Tryz.f34) (nt := 32) Tryz.func34 rfl rfl rfl rfl (by simp [Zag, Zaj, Zck]) fun B hB => ?_
  refine Zbt (x := .ptr false [Zae false ik.Strokes]) 0 rfl (fun len_ik => ?_)
  simp [Zdk, Zgf, Zee, Zft, Zdl, Zbl, Zaq, Zae] at len_ik
  refine aQ [] [0, 1] [] [] hB trivial ?_
  refine aQ [(1, .call [(true, .any)] true (Zfo (Zhs ik.Strokes ik.Strokes.length))), (2, .new 5)] [0, 1, 5] [5] [_ ∧ True] hB ⟨⟨(Yij ik ok om), trivial⟩, trivial⟩ ?_
  refine aQ [(0, .new 10)] [0, 1, 5, 6] [5, 10] [] hB trivial ?_
  refine Zah ?_
  refine aR [] [0, 1, 5, 6, 7] [5, 10] [.ptr false [Zae false ik.Strokes], I n, .ref 5 0, .arr 10, I 0] [some (Zef (Zhs ik.Strokes ik.Strokes.length)), some (.arr 3 0 (Zgm [] 3))] [] hB trivial ?_
  refine Zau ?_
  refine Zhz hB [] (T := [(0, .ptr false [Zae false ik.Strokes]), (1, I n), (5, .ref 5 0), (6, .arr 10), (7, I 0)]) (O := [(5, Zef (Zhs ik.Strokes ik.Strokes.length)), (10, Zfr ([] : List Feat))]) rfl (⟨.inl rfl, .inl rfl, .inl rfl, .inl rfl, .inl rfl, trivial⟩) (⟨.inl rfl, .inr ⟨rfl, (by first | rfl | (simp; done) | (simp; omega) | omega), fun i_ hi_ => absurd hi_ (Nat.not_lt_zero _)⟩, trivial⟩) ?_
  refine Zcn (fun gn gσ => ∃ (out : List Feat) (i : Int), gn = ((ik.Strokes.length : Int) - i).toNat ∧ (0 ≤ i ∧ i ≤ (ik.Strokes.length : Int)) ∧ ((out.length : Int) ≤ 24 * i) ∧ (out = Zor ik.Strokes n (Zhs ik.Strokes ik.Strokes.length) i.toNat) ∧ gσ = mkS [(0, .ptr false [Zae false ik.Strokes]), (1, I n), (5, .ref 5 0), (6, .arr 10), (7, I i)] [(5, Zef (Zhs ik.Strokes ik.Strokes.length)), (10, Zfr out)]) (((ik.Strokes.length : Int) - 0).toNat) ⟨([] : List Feat), 0, rfl, om, (by simp), (by rfl), rfl⟩ (fun gn gσ hI => ?_)
  obtain ⟨out, i, rfl, hi0, hll, hl0, rfl⟩ := hI
  refine Zah ?_
  refine Zah ?_
  by_cases h1 : i < (ik.Strokes.length : Int)
  ·have hi : i.toNat < ik.Strokes.length := by omega
   have hfl := Zqu (at_ ik.Strokes i.toNat) n (Zhs ik.Strokes ik.Strokes.length)
   have hfb : Zfk (Zhs ik.Strokes ik.Strokes.length) ∧ Zqt (skB (at_ ik.Strokes i.toNat)) (Zhs ik.Strokes ik.Strokes.length) := ⟨Zvr ok om _ (Nat.le_refl _), Zpm _ _ _ hi⟩
   refine Zbm [(6, .dec true)] [0, 1, 5, 6, 7, 17] [5, 10] [_] hB ⟨h1, trivial⟩ ?_
   refine Zaa ?_
   refine Zbq ?_
   refine Zas ?_
   refine Zaa ?_
   refine Zah ?_
   refine Zau ?_
   refine Zbm [(9, .call [(true, .any), (true, .any), (true, .any)] true (Zai true (Zil (at_ ik.Strokes i.toNat) n (Zhs ik.Strokes ik.Strokes.length)))), (10, .new 30)] [0, 1, 5, 6, 7] [5, 30] [(0 : Int) ≤ i ∧ i < (ik.Strokes.length : Int), _ ∧ True, (out.length + ((Zil (at_ ik.Strokes i.toNat) n (Zhs ik.Strokes ik.Strokes.length)).length)) * 24 ≤ 140737488355328] hB ⟨⟨om, om⟩, ⟨(Zyf (at_ ik.Strokes i.toNat) n (Zhs ik.Strokes ik.Strokes.length) (Zdc ok _ hi) om hfb), trivial⟩, om, trivial⟩ ?_
   refine Zba 1 ?_
   refine Zaa ?_
   refine Zdg [] [0, 1, 5, 6, 7] [5, 30] [.ptr false [Zae false ik.Strokes], I n, .ref 5 0, .arr 30, I (i + 1)] [some (Zef (Zhs ik.Strokes ik.Strokes.length)), some (.arr 3 (out.length + ((Zil (at_ ik.Strokes i.toNat) n (Zhs ik.Strokes ik.Strokes.length)).length)) (Zgb out.length (Zez out) (Zez (Zil (at_ ik.Strokes i.toNat) n (Zhs ik.Strokes ik.Strokes.length)))))] [inR .i64 (i + 1)] hB ⟨(Zac om om), trivial⟩ ?_
   refine Zeq hB [(10, 30)] (T := [(0, .ptr false [Zae false ik.Strokes]), (1, I n), (5, .ref 5 0), (6, .arr 10), (7, I (i + 1))]) (O := [(5, Zef (Zhs ik.Strokes ik.Strokes.length)), (10, Zfr (out ++ (Zil (at_ ik.Strokes i.toNat) n (Zhs ik.Strokes ik.Strokes.length))))]) rfl (⟨.inl rfl, .inl rfl, .inl rfl, .inl rfl, .inl rfl, trivial⟩) (⟨.inl rfl, .inr ⟨rfl, (by first | rfl | (simp; done) | (simp; omega) | omega), fun i_ hi_ => .inl (Yfo (enc := Zgw) (xs := out) i_ hi_)⟩, trivial⟩) (Zbf _ om ⟨(out ++ (Zil (at_ ik.Strokes i.toNat) n (Zhs ik.Strokes ik.Strokes.length))), (i + 1), rfl, om, (by rw [List.length_append, hfl]; omega), (by rw [Zsx om, ← hl0]), rfl⟩)
  have hie : i.toNat = ik.Strokes.length := by omega
  rw [hie] at hl0
  have hl1 : out = feA ik n := hl0
  clear hl0
  subst hl1
  refine Zbm [(6, .dec false)] [0, 1, 5, 6, 7, 17] [5, 10] [_] hB ⟨h1, trivial⟩ ?_
  refine Zaa ?_
  refine Zbj ?_
  refine Zcj ?_
  refine Zal ?_
  refine Zal ?_
  refine Zaw ?_
  refine Zaa ?_
  refine aR [] [4] [10] [.arr 10] [some (Zfr (feA ik n))] [] hB trivial ?_
  refine Zam ?_
  refine Zan hB (.arr 10) (by kernel_rfl) (.inr ⟨(fun _ => rfl), rfl, rfl, fun i _ => .inl rfl⟩) rfl (fun _ => (Zdq true _))
theorem Zfx {α : Type} [Inhabited α] {xs : List α} {i : Nat} {x : α} (h : i < xs.length) : at_ (xs.set i x) i = x := by simp [at_, h]
theorem Zhu {α : Type} [Inhabited α] {xs : List α} {i j : Nat} {x : α} (h : i ≠ j) : at_ (xs.set j x) i = at_ xs i := by
 have h' : ¬ j = i := fun e => h e.symm
 simp [at_, List.getElem?_set, h']
def Zgl (n : Int) : Bool := decide ((97 ≤ n ∧ n ≤ 122) ∨ (48 ≤ n ∧ n ≤ 57) ∨ n = 43 ∨ n = 45 ∨ n = 42 ∨ n = 47 ∨ n = 61 ∨ n = 40 ∨ n = 41 ∨ n = 46 ∨ n = 44)
def Zco (s : ByteArray) : Bool := decide (s.size = 1) && Zgl (bAt s 0)
def Zfn (t : Template) : Bool := Zco t.Label && Zbr t.Feats 72
def Zbw (s : Store) : Bool := inB s.Band 0 72 && (decide ((s.Templates.length : Int) ≤ 40) && Znc s.Templates.length (fun j => Zfn (at_ s.Templates j)))
theorem Zea {s : Store} : Zbw s = true ↔ (0 ≤ s.Band ∧ s.Band ≤ 72) ∧ s.Templates.length ≤ 40 ∧ ∀ j, j < s.Templates.length → Zfn (at_ s.Templates j) = true := by
 simp only [Zbw, Bool.and_eq_true, decide_eq_true_eq, inB, Zna]
 constructor
 ·rintro ⟨a, b, c⟩; exact ⟨a, by omega, c⟩
 ·rintro ⟨a, b, c⟩; exact ⟨a, by omega, c⟩
theorem Znx {l : ByteArray} {fs : List Feat} (h1 : Zco l = true) (h2 : Zbr fs 72 = true) : Zfn (Template.mk l fs) = true := by simp [Zfn, h1, h2]
def Ziv (a b : ByteArray) : Int := if Zgc a b = true then -1 else if Zgc a b = false ∧ a ≠ b then 1 else 0
def orL : List Int → Int
 | [] => 0
 | x :: r => if x = 0 then orL r else x
theorem Zxo [Inhabited Int] {xs : List Int} : ∀ {k : Nat}, k < xs.length → (∀ j, j < k → at_ xs j = 0) → at_ xs k ≠ 0 → orL xs = at_ xs k := by
 induction xs with
 | nil => intro k h; simp at h
 | cons x r ih =>
  intro k h h0 hk
  cases k with
  | zero => have e : at_ (x :: r) 0 = x := rfl; rw [e] at hk ⊢; exact if_neg hk
  | succ k =>
   have e : at_ (x :: r) (k + 1) = at_ r k := by simp [at_]
   have e0 : x = 0 := h0 0 om
   rw [e] at hk ⊢
   unfold orL; rw [if_pos e0]
   refine ih (by simpa using h) (fun j hj => ?_) hk
   have := h0 (j + 1) om
   simpa [at_] using this
theorem Zva [Inhabited Int] {xs : List Int} : (∀ j, j < xs.length → at_ xs j = 0) → orL xs = 0 := by
 induction xs with
 | nil => intro _; rfl
 | cons x r ih =>
  intro h
  have e0 : x = 0 := h 0 (by simp)
  unfold orL; rw [if_pos e0]
  refine ih fun j hj => ?_
  have := h (j + 1) (by simp; omega)
  simpa [at_] using this
def Zfu (a b : Int) : Int := if a < b then -1 else if b < a then 1 else 0
theorem Zpi {a b : Int} : Zfu a b < 0 ↔ a < b := by unfold Zfu; split <;> (try split) <;> omega
theorem Zfg {a b : Int} : Zfu a b = 0 ↔ a = b := by unfold Zfu; split <;> (try split) <;> omega
def Zoo {α : Type} (p : List α) (x : α) (j : Nat) : List α := p.take j ++ x :: p.drop j
theorem Zns {α : Type} {p : List α} {x : α} {j : Nat} (h : j ≤ p.length) : (Zoo p x j).length = p.length + 1 := by
 simp [Zoo]; omega
theorem shf_end {α : Type} (p : List α) (x : α) : Zoo p x p.length = p ++ [x] := by simp [Zoo]
theorem shf_at {α : Type} [Inhabited α] {p r : List α} {x : α} {j : Nat} (h : j ≤ p.length) : at_ (Zoo p x j ++ r) j = x := by
 have hl : (p.take j).length = j := by simp; omega
 rw [Zoo, List.append_assoc, Zhj om, hl, Nat.sub_self]; simp [at_]
theorem Zqp {α : Type} [Inhabited α] {p r : List α} {x : α} {j k : Nat} (h : j ≤ p.length) (hk : k < j) : at_ (Zoo p x j ++ r) k = at_ p k := by
 have hl : (p.take j).length = j := by simp; omega
 rw [Zoo, List.append_assoc, Zjn om, Zej om, Zej om, List.getElem_take]
theorem at_cons {α : Type} [Inhabited α] (x : α) (l : List α) (k : Nat) : at_ (x :: l) (k + 1) = at_ l k := by simp [at_]
theorem at_drop {α : Type} [Inhabited α] (l : List α) (j k : Nat) : at_ (l.drop j) k = at_ l (j + k) := by simp [at_, List.getElem?_drop]
theorem Zqx {α : Type} [Inhabited α] {p r : List α} {x : α} {j k : Nat} (h : j ≤ p.length) (hk : j < k) : at_ (Zoo p x j ++ r) k = at_ (p ++ r) (k - 1) := by
 have hl : (p.take j).length = j := by simp; omega
 have e : k - j = (k - 1 - j) + 1 := by omega
 rw [Zoo, List.append_assoc, Zhj om, hl, e, List.cons_append, at_cons]
 by_cases c : k - 1 < p.length
 ·rw [Zjn (by simp; omega), Zjn c, at_drop]; congr 1; omega
 ·rw [Zhj (by simp; omega), Zhj om]; congr 1; simp; omega
theorem shf_step {α : Type} [Inhabited α] {p r : List α} {x : α} {j : Nat} (h : j + 1 ≤ p.length) : ((Zoo p x (j + 1) ++ r).set (j + 1) (at_ p j)).set j x = Zoo p x j ++ r := by
 refine ext_at (by simp [Zns h, Zns (show j ≤ p.length by omega)]) fun k hk => ?_
 have hl : (Zoo p x (j + 1) ++ r).length = p.length + 1 + r.length := by rw [List.length_append, Zns h]
 rw [List.length_set, List.length_set, hl] at hk
 by_cases e1 : k = j
 ·rw [e1, Zfx (by rw [List.length_set, hl]; omega), shf_at om]
 ·rw [Zhu e1]
  by_cases e2 : k = j + 1
  ·rw [e2, Zfx (by rw [hl]; omega), Zqx om om, Zjn om]; rfl
  ·rw [Zhu e2]
   by_cases c : k < j
   ·rw [Zqp h om, Zqp om c]
   ·rw [Zqx h om, Zqx om om]
def Yey {α : Type} [Inhabited α] (c : α → α → Int) (x : α) (p : List α) : Nat → Nat
 | 0 => 0
 | j + 1 => if c x (at_ p j) < 0 then Yey c x p j else j + 1
theorem Yan {α : Type} [Inhabited α] (c : α → α → Int) (x : α) (p : List α) : ∀ j : Nat, Yey c x p j ≤ j
 | 0 => Nat.le_refl _
 | j + 1 => by unfold Yey; split; exact Nat.le_succ_of_le (Yan c x p j); exact Nat.le_refl _
def insL {α : Type} [Inhabited α] (c : α → α → Int) (p : List α) (x : α) : List α := Zoo p x (Yey c x p p.length)
def Zfv {α : Type} [Inhabited α] (c : α → α → Int) (xs : List α) : Nat → List α
 | 0 => []
 | k + 1 => insL c (Zfv c xs k) (at_ xs k)
theorem Zhm {α : Type} [Inhabited α] (c : α → α → Int) (xs : List α) : ∀ k : Nat, (Zfv c xs k).length = k
 | 0 => rfl
 | k + 1 => by unfold Zfv insL; rw [Zns (Yan _ _ _ _), Zhm c xs k]
theorem isoL_one {α : Type} [Inhabited α] (c : α → α → Int) (xs : List α) : Zfv c xs 1 = [at_ xs 0] := rfl
theorem pos_hit {α : Type} [Inhabited α] {c : α → α → Int} {x : α} {p : List α} {j : Nat} (h : ∀ k : Nat, j ≤ k → k < p.length → c x (at_ p k) < 0) (hj : j ≤ p.length) (h2 : j = 0 ∨ ¬ c x (at_ p (j - 1)) < 0) : Yey c x p p.length = j := by
 have : ∀ m : Nat, m + j ≤ p.length → Yey c x p (j + m) = j := fun m => by
  induction m with
  | zero =>
   intro _
   rcases h2 with e | e
   ·subst e; rfl
   ·cases j with
    | zero => rfl
    | succ j => exact if_neg e
  | succ m ih => intro hm; exact (if_pos (h (j + m) om om)).trans (ih om)
 have := this (p.length - j) om
 rwa [show j + (p.length - j) = p.length from by omega] at this
theorem shf_perm {α : Type} (p : List α) (x : α) (j : Nat) : List.Perm (Zoo p x j) (p ++ [x]) := by
 unfold Zoo
 refine List.perm_middle.trans ?_
 rw [List.take_append_drop]
 exact (List.perm_append_singleton x p).symm
theorem Zqy {α : Type} [Inhabited α] (c : α → α → Int) (xs : List α) : ∀ k : Nat, k ≤ xs.length → List.Perm (Zfv c xs k) (xs.take k)
 | 0, _ => by simp [Zfv]
 | k + 1, h => by
  rw [List.take_succ_eq_append_getElem om, ← Zej om]
  exact (shf_perm _ _ _).trans ((Zqy c xs k om).append_right _)
def ordR {α : Type} (c : α → α → Int) (B : α → α → Prop) (x y : α) : Prop := c x y < 0 ∨ c x y = 0 ∧ B x y
structure CmpW {α : Type} (c : α → α → Int) : Prop where
 anti : ∀ x y, c x y < 0 ↔ 0 < c y x
 trans : ∀ x y z, c x y ≤ 0 → c y z < 0 → c x z < 0
theorem CmpW.refl {α : Type} {c : α → α → Int} (h : CmpW c) (x : α) : c x x = 0 := by have := h.anti x x; omega
theorem CmpW.zero {α : Type} {c : α → α → Int} (h : CmpW c) {x y : α} (e : c x y = 0) : c y x = 0 := by have h1 := h.anti x y; have h2 := h.anti y x; omega
theorem CmpW.le {α : Type} {c : α → α → Int} (h : CmpW c) {x y z : α} (h1 : c x y ≤ 0) (h2 : c y z ≤ 0) : c x z ≤ 0 := by
 rcases Int.lt_or_le 0 (c x z) with g | g
 ·have q := (h.anti z x).2 g
  have q2 : c y x < 0 := h.trans y z x h2 q
  have := (h.anti y x).1 q2; omega
 ·exact g
theorem pos_lo {α : Type} [Inhabited α] {c : α → α → Int} {x : α} {p : List α} : ∀ (n k : Nat), Yey c x p n ≤ k → k < n → c x (at_ p k) < 0
 | 0, k, _, h => absurd h (Nat.not_lt_zero _)
 | n + 1, k, h1, h2 => by
  unfold Yey at h1
  split at h1
  ·rename_i g
   by_cases e : k = n
   ·subst e; exact g
   ·exact pos_lo n k h1 om
  ·omega
theorem pos_at {α : Type} [Inhabited α] {c : α → α → Int} {x : α} {p : List α} : ∀ n : Nat, Yey c x p n = 0 ∨ ¬ c x (at_ p (Yey c x p n - 1)) < 0
 | 0 => .inl rfl
 | n + 1 => by
  unfold Yey
  split
  ·exact pos_at n
  ·right; assumption
theorem Yci {α : Type} [Inhabited α] {c : α → α → Int} (hc : CmpW c) {B : α → α → Prop} {xs : List α} (hB : xs.Pairwise B) : ∀ k : Nat, k ≤ xs.length → (Zfv c xs k).Pairwise (ordR c B)
 | 0, _ => by simp [Zfv]
 | k + 1, h => by
  have ih := Yci hc hB k om
  have hp := Zqy c xs k om
  have hl := Zhm c xs k
  obtain ⟨p, hpe⟩ : ∃ p, p = Zfv c xs k := ⟨_, rfl⟩
  obtain ⟨x, hx⟩ : ∃ x, x = at_ xs k := ⟨_, rfl⟩
  rw [Zfv, ← hpe, ← hx]
  rw [← hpe] at ih hp hl
  have hbx : ∀ y ∈ p, B y x := fun y hy => by
   have hm := hp.mem_iff.1 hy
   obtain ⟨i, hi, e⟩ := List.getElem_of_mem hm
   rw [List.length_take] at hi
   rw [List.getElem_take] at e
   rw [← e, hx, Zej om]
   exact (List.pairwise_iff_getElem.1 hB) i k om om om
  unfold insL Zoo
  have hj := Yan c x p p.length
  have lo := fun k hk hk2 => pos_lo (c := c) (x := x) (p := p) p.length k hk hk2
  have hi := pos_at (c := c) (x := x) (p := p) p.length
  generalize Yey c x p p.length = j at hj lo hi ⊢
  have hle : ∀ y ∈ p.take j, c y x ≤ 0 := fun y hy => by
   obtain ⟨i, hi2, e⟩ := List.getElem_of_mem hy
   rw [List.length_take] at hi2
   rw [List.getElem_take] at e
   rcases hi with e0 | e0
   ·omega
   ·have h3 : c (at_ p (j - 1)) x ≤ 0 := by
     rcases Int.lt_or_le 0 (c (at_ p (j - 1)) x) with g | g
     ·exact absurd ((hc.anti _ _).2 g) e0
     ·exact g
    rw [← e]
    by_cases ei : i = j - 1
    ·have : p[i] = at_ p (j - 1) := by rw [Zej om]; congr 1
     rw [this]; exact h3
    ·have q := (List.pairwise_iff_getElem.1 ih) i (j - 1) om om om
     rw [← Zej (show j - 1 < p.length by omega)] at q
     refine hc.le ?_ h3
     rcases q with q | q
     ·omega
     ·omega
  have hgt : ∀ y ∈ p.drop j, c x y < 0 := fun y hy => by
   obtain ⟨i, hi2, e⟩ := List.getElem_of_mem hy
   rw [List.length_drop] at hi2
   rw [List.getElem_drop] at e
   rw [← e, ← Zej om]
   exact lo _ om om
  rw [List.pairwise_append]
  refine ⟨ih.sublist (List.take_sublist _ _), List.pairwise_cons.2 ⟨fun y hy => .inl (hgt y hy), ih.sublist (List.drop_sublist _ _)⟩, fun a ha b hb => ?_⟩
  rcases List.mem_cons.1 hb with e | e
  ·subst e
   have := hle a ha
   by_cases z : c a b = 0
   ·exact .inr ⟨z, hbx a (List.mem_of_mem_take ha)⟩
   ·exact .inl om
  ·exact .inl (hc.trans a x b (hle a ha) (hgt b e))
theorem Zvf {α : Type} [Inhabited α] {c : α → α → Int} {xs : List α} {x : α} : x ∈ Zfv c xs xs.length ↔ x ∈ xs := by
 have := (Zqy c xs xs.length (Nat.le_refl _)).mem_iff (a := x)
 rwa [List.take_of_length_le (Nat.le_refl _)] at this
theorem Zxp {α : Type} [Inhabited α] (c : α → α → Int) (xs : List α) : xs = Zfv c xs (min 1 xs.length) ++ xs.drop 1 := by
 cases xs with
 | nil => rfl
 | cons x r => show x :: r = Zfv c (x :: r) (min 1 (r.length + 1)) ++ r; rw [show min 1 (r.length + 1) = 1 from by omega, isoL_one]; rfl
theorem iso_in {α : Type} [Inhabited α] {c : α → α → Int} {xs : List α} {i : Nat} (hi : i < xs.length) : Zfv c xs i ++ xs.drop i = Zoo (Zfv c xs i) (at_ xs i) i ++ xs.drop (i + 1) := by
 have hl := Zhm c xs i
 have e : Zoo (Zfv c xs i) (at_ xs i) i = Zfv c xs i ++ [at_ xs i] := by
  have := shf_end (Zfv c xs i) (at_ xs i); rwa [hl] at this
 rw [e, List.append_assoc, Zej hi, List.singleton_append, ← List.drop_eq_getElem_cons hi]
theorem Yhn {α : Type} [Inhabited α] {c : α → α → Int} {xs : List α} {i j : Nat} (hj : j ≤ i) (h : ∀ k : Nat, j ≤ k → k < i → c (at_ xs i) (at_ (Zfv c xs i) k) < 0) (h2 : j = 0 ∨ ¬ c (at_ xs i) (at_ (Zfv c xs i) (j - 1)) < 0) :
  Zoo (Zfv c xs i) (at_ xs i) j = Zfv c xs (i + 1) := by
 have hl := Zhm c xs i
 have := pos_hit (c := c) (x := at_ xs i) (p := Zfv c xs i) (j := j) (fun k h3 h4 => h k h3 om) om h2
 show _ = insL c (Zfv c xs i) (at_ xs i)
 unfold insL; rw [this]
theorem bl_irr : ∀ x : List UInt8, Op.bytesLess x x = false
 | [] => rfl
 | a :: x => by
  have h : ¬ a < a := fun q => by have := UInt8.lt_iff_toNat_lt.1 q; omega
  simp [Op.bytesLess, bl_irr x, h]
theorem Yik : ∀ x y : List UInt8, Op.bytesLess x y = true → Op.bytesLess y x = false
 | [], [], h => by simp [Op.bytesLess] at h
 | [], _ :: _, _ => by simp [Op.bytesLess]
 | _ :: _, [], h => by simp [Op.bytesLess] at h
 | a :: x, b :: y, h => by
  simp only [Op.bytesLess, Bool.or_eq_true, Bool.and_eq_true, decide_eq_true_eq, beq_iff_eq] at h
  rcases h with h | ⟨h, h2⟩
  ·have q := UInt8.lt_iff_toNat_lt.1 h
   have n1 : ¬ b < a := fun z => by have := UInt8.lt_iff_toNat_lt.1 z; omega
   have n2 : ¬ b = a := fun z => by subst z; omega
   simp [Op.bytesLess, n1, n2]
  ·subst h
   have n1 : ¬ a < a := fun z => by have := UInt8.lt_iff_toNat_lt.1 z; omega
   simp [Op.bytesLess, n1, Yik x y h2]
theorem Ycw : ∀ x y z : List UInt8, Op.bytesLess x y = true → Op.bytesLess y z = true → Op.bytesLess x z = true
 | _, _, [], _, h => by simp [Op.bytesLess] at h
 | _, [], _ :: _, h, _ => by simp [Op.bytesLess] at h
 | [], _ :: _, _ :: _, _, _ => by simp [Op.bytesLess]
 | a :: x, b :: y, c :: z, h1, h2 => by
  simp only [Op.bytesLess, Bool.or_eq_true, Bool.and_eq_true, decide_eq_true_eq, beq_iff_eq] at h1 h2 ⊢
  rcases h1 with h1 | ⟨h1, g1⟩ <;> rcases h2 with h2 | ⟨h2, g2⟩
  ·left; have := UInt8.lt_iff_toNat_lt.1 h1; have := UInt8.lt_iff_toNat_lt.1 h2; exact UInt8.lt_iff_toNat_lt.2 om
  ·left; rw [← h2]; exact h1
  ·left; rw [h1]; exact h2
  ·right; exact ⟨h1.trans h2, Ycw x y z g1 g2⟩
theorem bl_tri : ∀ x y : List UInt8, Op.bytesLess x y = false → x ≠ y → Op.bytesLess y x = true
 | [], [], _, h => absurd rfl h
 | [], _ :: _, h, _ => by simp [Op.bytesLess] at h
 | _ :: _, [], _, _ => by simp [Op.bytesLess]
 | a :: x, b :: y, h, hn => by
  simp only [Op.bytesLess, Bool.or_eq_false_iff, decide_eq_false_iff_not] at h
  simp only [Op.bytesLess, Bool.or_eq_true, Bool.and_eq_true, decide_eq_true_eq, beq_iff_eq]
  by_cases e : a = b
  ·subst e
   right
   refine ⟨rfl, bl_tri x y ?_ fun q => hn (by rw [q])⟩
   have := h.2
   simpa using this
  ·left
   have q : ¬ a.toNat < b.toNat := fun z => h.1 (UInt8.lt_iff_toNat_lt.2 z)
   have q2 : a.toNat ≠ b.toNat := fun z => e (UInt8.toNat_inj.1 z)
   exact UInt8.lt_iff_toNat_lt.2 om
theorem sl_tri {a b : ByteArray} (h : Zgc a b = false) (hn : a ≠ b) : Zgc b a = true := by
 unfold Zgc at *
 refine bl_tri _ _ h fun q => hn ?_
 rw [Lib.toList_data, Lib.toList_data] at q
 cases a; cases b
 simp only [ByteArray.mk.injEq]
 exact Array.toList_inj.1 q
theorem sl_asym {a b : ByteArray} (h : Zgc a b = true) : Zgc b a = false := Yik _ _ h
theorem sl_irr (a : ByteArray) : Zgc a a = false := bl_irr _
theorem sl_trans {a b c : ByteArray} (h1 : Zgc a b = true) (h2 : Zgc b c = true) : Zgc a c = true := Ycw _ _ _ h1 h2
theorem sl_ne {a b : ByteArray} (h : Zgc a b = true) : a ≠ b := fun e => by subst e; rw [sl_irr] at h; cases h
theorem Zkx {a b : ByteArray} : Ziv a b < 0 ↔ Zgc a b = true := by
 unfold Ziv
 by_cases h : Zgc a b = true
 ·rw [if_pos h]; simp [h]
 ·rw [if_neg h]; split <;> simp [h]
theorem Zfh {a b : ByteArray} : Ziv a b = 0 ↔ a = b := by
 unfold Ziv
 by_cases h : Zgc a b = true
 ·rw [if_pos h]; have := sl_ne h; simp [this]
 ·rw [if_neg h]
  have h' : Zgc a b = false := by simpa using h
  by_cases e : a = b
  ·subst e; simp
  ·rw [if_pos ⟨h', e⟩]; simp [e]
theorem cmpS_pos {a b : ByteArray} : 0 < Ziv a b ↔ Zgc b a = true := by
 constructor
 ·intro h
  have n1 : ¬ Ziv a b < 0 := by omega
  have n2 : ¬ Ziv a b = 0 := by omega
  rw [Zkx] at n1; rw [Zfh] at n2
  exact sl_tri (by simpa using n1) n2
 ·intro h
  have n1 : ¬ Ziv a b < 0 := fun q => by rw [Zkx] at q; have := sl_asym q; rw [h] at this; cases this
  have n2 : ¬ Ziv a b = 0 := fun q => by rw [Zfh] at q; exact sl_ne h q.symm
  omega
theorem cmpS_w : CmpW Ziv := ⟨fun x y => by rw [Zkx, cmpS_pos], fun x y z h1 h2 => by
 rw [Zkx] at *
 by_cases e : Ziv x y = 0
 ·rw [Zfh] at e; subst e; exact h2
 ·exact sl_trans (Zkx.1 om) h2⟩
theorem Yil : CmpW Zfu := ⟨fun x y => by unfold Zfu; split <;> (try split) <;> (try split) <;> omega, fun x y z h1 h2 => by
 rw [Zpi] at *
 have := @Zpi y x
 have := @Zfg x y
 have := @Zpi x y
 omega⟩
theorem CmpW.lex {α β : Type} {f : β → α} {c : α → α → Int} {d : β → β → Int} (hc : CmpW c) (hd : CmpW d) : CmpW fun x y : β => if c (f x) (f y) = 0 then d x y else c (f x) (f y) := ⟨fun x y => by
  have a1 := hc.anti (f x) (f y)
  have a2 := hc.anti (f y) (f x)
  have b1 := hd.anti x y
  show (if c (f x) (f y) = 0 then d x y else c (f x) (f y)) < 0 ↔ 0 < (if c (f y) (f x) = 0 then d y x else c (f y) (f x))
  by_cases e : c (f x) (f y) = 0
  ·rw [if_pos e, if_pos (hc.zero e)]; exact b1
  ·rw [if_neg e, if_neg (fun q => e (hc.zero q))]; exact a1, fun x y z h1 h2 => by
  replace h1 : (if c (f x) (f y) = 0 then d x y else c (f x) (f y)) ≤ 0 := h1
  replace h2 : (if c (f y) (f z) = 0 then d y z else c (f y) (f z)) < 0 := h2
  show (if c (f x) (f z) = 0 then d x z else c (f x) (f z)) < 0
  by_cases e1 : c (f x) (f y) = 0
  ·rw [if_pos e1] at h1
   by_cases e2 : c (f y) (f z) = 0
   ·rw [if_pos e2] at h2
    have l1 := hc.le (x := f x) (y := f y) (z := f z) om om
    have l2 := hc.le (x := f z) (y := f y) (z := f x) (by have := hc.zero e2; omega) (by have := hc.zero e1; omega)
    have a := hc.anti (f x) (f z)
    have a2 := hc.anti (f z) (f x)
    rw [if_pos om]
    exact hd.trans x y z h1 h2
   ·rw [if_neg e2] at h2
    have := hc.trans (f x) (f y) (f z) om h2
    rw [if_neg om]; exact this
  ·rw [if_neg e1] at h1
   have h1' : c (f x) (f y) < 0 := by omega
   have hz : c (f y) (f z) ≤ 0 := by
    by_cases e2 : c (f y) (f z) = 0
    ·omega
    ·rw [if_neg e2] at h2; omega
   have l := hc.le (x := f x) (y := f y) (z := f z) om hz
   have n : c (f x) (f z) ≠ 0 := fun q => by
    have q2 := hc.zero q
    have := hc.trans (f z) (f x) (f y) om h1'
    have a := hc.anti (f z) (f y)
    omega
   rw [if_neg n]; omega⟩
theorem CmpW.map {α β : Type} {c : α → α → Int} (hc : CmpW c) (f : β → α) : CmpW fun x y : β => c (f x) (f y) := ⟨fun x y => hc.anti _ _, fun x y z => hc.trans _ _ _⟩
theorem Zsd {α : Type} [Inhabited α] {R : α → α → Prop} {xs : List α} (h : xs.Pairwise R) {i j : Nat} (hij : i < j) (hj : j < xs.length) : R (at_ xs i) (at_ xs j) := by
 rw [Zej om, Zej hj]
 exact (List.pairwise_iff_getElem.1 h) i j om hj hij
theorem ins_ok {α : Type} [Inhabited α] {c : α → α → Int} (hw : CmpW c) {xs : List α} (hp : xs.Pairwise fun x y => c x y < 0) {e : α} {k : Nat} (hk : k ≤ xs.length) (hlo : k = 0 ∨ ¬ 0 < c (at_ xs (k - 1)) e) (hhi : ∀ j : Nat, k ≤ j → j < xs.length → 0 < c (at_ xs j) e) (hne : ∀ x ∈ xs, c x e ≠ 0) :
  (xs.take k ++ [e] ++ xs.drop k).Pairwise fun x y => c x y < 0 := by
 have hle : ∀ x ∈ xs.take k, c x e < 0 := fun x hx => by
  obtain ⟨i, hi, q⟩ := List.getElem_of_mem hx
  rw [List.length_take] at hi
  rw [List.getElem_take] at q
  rcases hlo with e0 | e0
  ·omega
  ·have hm := hne _ (Zdf (show k - 1 < xs.length by omega))
   have h1 : c (at_ xs (k - 1)) e < 0 := by omega
   rw [← q, ← Zej om]
   by_cases ei : i = k - 1
   ·rw [ei]; exact h1
   ·exact hw.trans _ _ _ (by have := Zsd hp (show i < k - 1 by omega) om; omega) h1
 have hgt : ∀ y ∈ xs.drop k, c e y < 0 := fun y hy => by
  obtain ⟨i, hi, q⟩ := List.getElem_of_mem hy
  rw [List.length_drop] at hi
  rw [List.getElem_drop] at q
  rw [← q, ← Zej om]
  exact (hw.anti _ _).2 (hhi _ om om)
 rw [List.append_assoc, List.pairwise_append]
 refine ⟨hp.sublist (List.take_sublist _ _), ?_, fun a ha b hb => ?_⟩
 ·rw [List.singleton_append]
  exact List.pairwise_cons.2 ⟨hgt, hp.sublist (List.drop_sublist _ _)⟩
 ·rw [List.singleton_append] at hb
  rcases List.mem_cons.1 hb with q | q
  ·subst q; exact hle a ha
  ·have h1 := hle a ha
   exact hw.trans a e b om (hgt b q)
theorem Yhu {α : Type} {xs : List α} {e x : α} {k : Nat} : x ∈ xs.take k ++ [e] ++ xs.drop k ↔ x = e ∨ x ∈ xs := by
 constructor
 ·intro h
  rw [List.append_assoc, List.mem_append, List.singleton_append, List.mem_cons] at h
  rcases h with h | h | h
  ·exact .inr (List.mem_of_mem_take h)
  ·exact .inl h
  ·exact .inr (List.mem_of_mem_drop h)
 ·intro h
  rw [List.append_assoc, List.mem_append, List.singleton_append, List.mem_cons]
  rcases h with h | h
  ·exact .inr (.inl h)
  ·rw [← List.take_append_drop k xs, List.mem_append] at h
   rcases h with h | h
   ·exact .inl h
   ·exact .inr (.inr h)
def Zxs (a b : Edge) : Int := orL [Zfu a.From b.From, Zfu a.To b.To, Ziv a.Label b.Label]
theorem Zmb (a b : Edge) : Zxs a b = if Zfu a.From b.From = 0 then (if Zfu a.To b.To = 0 then Ziv a.Label b.Label else Zfu a.To b.To) else Zfu a.From b.From := by
 unfold Zxs orL orL orL orL
 by_cases h1 : Zfu a.From b.From = 0
 ·rw [if_pos h1, if_pos h1]
  by_cases h2 : Zfu a.To b.To = 0
  ·rw [if_pos h2, if_pos h2]; split
   ·rename_i h3; exact h3.symm
   ·rfl
  ·rw [if_neg h2, if_neg h2]
 ·rw [if_neg h1, if_neg h1]
theorem cmpE_w : CmpW Zxs := by
 have h : Zxs = fun x y => if Zfu x.From y.From = 0 then (fun x y : Edge => if Zfu x.To y.To = 0 then (fun x y : Edge => Ziv x.Label y.Label) x y else Zfu x.To y.To) x y else Zfu x.From y.From := funext fun a => funext fun b => Zmb a b
 rw [h]
 exact CmpW.lex (f := Edge.From) Yil (CmpW.lex (f := Edge.To) Yil (cmpS_w.map Edge.Label))
def okEd (l : Lattice) (e : Edge) : Prop := (0 ≤ e.From ∧ e.From < e.To ∧ e.To < l.Nodes) ∧ (0 ≤ e.Cost ∧ e.Cost ≤ 1000000) ∧ Zco e.Label = true
def Zzy (l : Lattice) : Prop := (1 ≤ l.Nodes ∧ l.Nodes ≤ 20) ∧ l.Edges.length ≤ 200 ∧ (∀ i : Nat, i < l.Edges.length → okEd l (at_ l.Edges i)) ∧ l.Edges.Pairwise fun x y => Zxs x y < 0
theorem Ycn {s : ByteArray} (h : Zco s = true) : s.size = 1 := by simp only [Zco, Bool.and_eq_true, decide_eq_true_eq] at h; exact h.1
def Zdr (a b : Feat) : Int := ((a.X - b.X).natAbs : Int) + ((a.Y - b.Y).natAbs : Int) + 16 * min ((a.D - b.D).natAbs : Int) (8 - ((a.D - b.D).natAbs : Int))
theorem Zgs {a b : Feat} (ha : okF a = true) (hb : okF b = true) : 0 ≤ Zdr a b ∧ Zdr a b ≤ 600 := by
 have h1 := Znf.1 ha
 have h2 := Znf.1 hb
 unfold Zdr
 omega
def stp (far band : Int) (i j : Nat) (before c : Int) : Int := if band < (((i : Int) - (j : Int)).natAbs : Int) ∨ far ≤ before then far else before + c
def cv (far : Int) (a b : List Feat) (band : Int) : Nat → Nat → Int
 | 0, 0 => stp far band 0 0 0 (Zdr (at_ a 0) (at_ b 0))
 | 0, j + 1 => stp far band 0 (j + 1) (min far (cv far a b band 0 j)) (Zdr (at_ a 0) (at_ b (j + 1)))
 | i + 1, 0 => stp far band (i + 1) 0 (min far (cv far a b band i 0)) (Zdr (at_ a (i + 1)) (at_ b 0))
 | i + 1, j + 1 => stp far band (i + 1) (j + 1) (min (min (min far (cv far a b band i j)) (cv far a b band i (j + 1))) (cv far a b band (i + 1) j)) (Zdr (at_ a (i + 1)) (at_ b (j + 1)))
termination_by i j => (i, j)
def Yeu (a b : List Feat) : Prop := (∀ i, i < a.length → okF (at_ a i) = true) ∧ (∀ j, j < b.length → okF (at_ b j) = true) ∧ a.length ≤ 72 ∧ b.length ≤ 72
theorem Zjr {far band : Int} {i j : Nat} {before c : Int} (h : band < (((i : Int) - (j : Int)).natAbs : Int) ∨ far ≤ before) : stp far band i j before c = far := if_pos h
theorem Zfm {far band : Int} {i j : Nat} {before c : Int} (h1 : ¬ band < (((i : Int) - (j : Int)).natAbs : Int)) (h2 : ¬ far ≤ before) : stp far band i j before c = before + c := if_neg om
theorem Zqz {far band : Int} {a b : List Feat} {i j : Nat} (h : band < (((i : Int) - (j : Int)).natAbs : Int)) : cv far a b band i j = far := by
 rcases i with _ | i <;> rcases j with _ | j <;> rw [cv] <;> exact Zjr (.inl h)
theorem Yao {band : Int} {a b : List Feat} (hab : Yeu a b) {f1 f2 : Int} (h1 : 1000000000 ≤ f1) (h2 : 1000000000 ≤ f2) : ∀ (s i j : Nat), i + j = s → i < a.length → j < b.length → (((i : Int) - (j : Int)).natAbs : Int) ≤ band → cv f1 a b band i j = cv f2 a b band i j ∧ 0 ≤ cv f1 a b band i j ∧ cv f1 a b band i j ≤ 600 * ((i : Int) + j + 1)
 | s, 0, 0, hs, hi, hj, hb => by
  have hc := Zgs (hab.1 0 hi) (hab.2.1 0 hj)
  rw [cv, cv, Zfm om om, Zfm om om]
  omega
 | s, 0, j + 1, hs, hi, hj, hb => by
  have hc := Zgs (hab.1 0 hi) (hab.2.1 (j + 1) hj)
  obtain ⟨e, p0, p1⟩ := Yao (band := band) hab h1 h2 (0 + j) 0 j rfl hi om om
  have hl := hab.2.2
  rw [cv, cv, ← e, Zfm om om, Zfm om om]
  omega
 | s, i + 1, 0, hs, hi, hj, hb => by
  have hc := Zgs (hab.1 (i + 1) hi) (hab.2.1 0 hj)
  obtain ⟨e, p0, p1⟩ := Yao (band := band) hab h1 h2 (i + 0) i 0 rfl om hj om
  have hl := hab.2.2
  rw [cv, cv, ← e, Zfm om om, Zfm om om]
  omega
 | s, i + 1, j + 1, hs, hi, hj, hb => by
  have hc := Zgs (hab.1 (i + 1) hi) (hab.2.1 (j + 1) hj)
  have hl := hab.2.2
  obtain ⟨e, p0, p1⟩ := Yao (band := band) hab h1 h2 (i + j) i j rfl om om om
  have q1 : (cv f1 a b band i (j + 1) = f1 ∧ cv f2 a b band i (j + 1) = f2) ∨ (cv f1 a b band i (j + 1) = cv f2 a b band i (j + 1) ∧ 0 ≤ cv f1 a b band i (j + 1) ∧ cv f1 a b band i (j + 1) ≤ 600 * ((i : Int) + (j + 1 : Nat) + 1)) := by
   by_cases q : band < (((i : Int) - ((j + 1 : Nat) : Int)).natAbs : Int)
   ·exact .inl ⟨Zqz q, Zqz q⟩
   ·exact .inr (Yao (band := band) hab h1 h2 (i + (j + 1)) i (j + 1) rfl om hj om)
  have q2 : (cv f1 a b band (i + 1) j = f1 ∧ cv f2 a b band (i + 1) j = f2) ∨ (cv f1 a b band (i + 1) j = cv f2 a b band (i + 1) j ∧ 0 ≤ cv f1 a b band (i + 1) j ∧ cv f1 a b band (i + 1) j ≤ 600 * (((i + 1 : Nat) : Int) + j + 1)) := by
   by_cases q : band < ((((i + 1 : Nat) : Int) - (j : Int)).natAbs : Int)
   ·exact .inl ⟨Zqz q, Zqz q⟩
   ·exact .inr (Yao (band := band) hab h1 h2 ((i + 1) + j) (i + 1) j rfl hi om om)
  rw [cv, cv, ← e, Zfm om om, Zfm om om]
  omega
termination_by s i j => i + j
def lb1 (tb : List (List Int)) (i j : Int) : Int := if 1 ≤ i ∧ 1 ≤ j then min 1099511627776 (at_ (at_ tb (i - 1).toNat) (j - 1).toNat) else 1099511627776
def lb2 (tb : List (List Int)) (i j : Int) : Int := if 1 ≤ i then min (lb1 tb i j) (at_ (at_ tb (i - 1).toNat) (j - 0).toNat) else lb1 tb i j
def lb3 (tb : List (List Int)) (i j : Int) : Int := if 1 ≤ j then min (lb2 tb i j) (at_ (at_ tb (i - 0).toNat) (j - 1).toNat) else lb2 tb i j
def lbk (tb : List (List Int)) (i j : Int) : Nat → Int
 | 0 => 1099511627776
 | 1 => lb1 tb i j
 | 2 => lb2 tb i j
 | _ => lb3 tb i j
theorem set_next {xs : List Int} {i : Int} {f : Nat → Int} {y : Int} (h0 : 0 ≤ i) (hi : i.toNat < xs.length) (h : ∀ j : Nat, (j : Int) < i → at_ xs j = f j) (hy : y = f i.toNat) : ∀ j : Nat, (j : Int) < i + 1 → at_ (xs.set i.toNat y) j = f j := fun j hj => by
 by_cases e : j = i.toNat
 ·subst e; simp [at_, hi, hy]
 ·have h' : ¬ i.toNat = j := fun q => e q.symm
  have : at_ (xs.set i.toNat y) j = at_ xs j := by simp [at_, List.getElem?_set, h']
  rw [this]; exact h j om
abbrev Znr : Int := 1099511627776
def Zko (a b : List Feat) (band : Int) (r : List Int) (p n : Nat) : Prop := r.length = b.length ∧ ∀ q, q < n → at_ r q = cv Znr a b band p q
def Znb (a b : List Feat) (band : Int) (tb : List (List Int)) (i : Nat) : Prop := tb.length = a.length ∧ ∀ p, p < i → Zko a b band (at_ tb p) p b.length
theorem Zry {far : Int} (hf : 0 ≤ far) {a b : List Feat} (band : Int) (hab : Yeu a b) : ∀ (i j : Nat), i < a.length → j < b.length → 0 ≤ cv far a b band i j
 | 0, 0, hi, hj => by
  have hc := Zgs (hab.1 0 hi) (hab.2.1 0 hj)
  rw [cv]; unfold stp; split <;> omega
 | 0, j + 1, hi, hj => by
  have hc := Zgs (hab.1 0 hi) (hab.2.1 (j + 1) hj)
  have := Zry hf band hab 0 j hi om
  rw [cv]; unfold stp; split <;> omega
 | i + 1, 0, hi, hj => by
  have hc := Zgs (hab.1 (i + 1) hi) (hab.2.1 0 hj)
  have := Zry hf band hab i 0 om hj
  rw [cv]; unfold stp; split <;> omega
 | i + 1, j + 1, hi, hj => by
  have hc := Zgs (hab.1 (i + 1) hi) (hab.2.1 (j + 1) hj)
  have := Zry hf band hab i j om om
  have := Zry hf band hab i (j + 1) om om
  have := Zry hf band hab (i + 1) j om om
  rw [cv]; unfold stp; split <;> omega
termination_by i j => i + j
theorem lb_at {a b : List Feat} {band : Int} {tb : List (List Int)} {i j : Nat} (hab : Yeu a b) (h : Znb a b band tb i) (hr : Zko a b band (at_ tb i) i j) (hi : i < a.length) (hj : j < b.length) :
  (0 ≤ lb3 tb i j ∧ lb3 tb i j ≤ Znr) ∧ cv Znr a b band i j = stp Znr band i j (if i = 0 ∧ j = 0 then 0 else lb3 tb i j) (Zdr (at_ a i) (at_ b j)) := by
 have hF : Znr = 1099511627776 := rfl
 have e1 : ∀ p q : Nat, p < i → q < b.length → at_ (at_ tb p) q = cv Znr a b band p q ∧ 0 ≤ cv Znr a b band p q := fun p q hp hq => ⟨(h.2 p hp).2 q hq, Zry (by decide) band hab p q om hq⟩
 have e2 : ∀ q : Nat, q < j → at_ (at_ tb i) q = cv Znr a b band i q ∧ 0 ≤ cv Znr a b band i q := fun q hq => ⟨hr.2 q hq, Zry (by decide) band hab i q hi om⟩
 rcases i with _ | i <;> rcases j with _ | j
 ·refine ⟨?_, by rw [cv]; simp⟩
  simp [lb3, lb2, lb1]
 ·have q := e2 j om
  have e : lb3 tb (0 : Nat) ((j + 1 : Nat) : Int) = min Znr (cv Znr a b band 0 j) := by
   unfold lb3 lb2 lb1
   rw [if_pos om, if_neg om, if_neg om, show (((j + 1 : Nat) : Int) - 1).toNat = j from by omega, show (((0 : Nat) : Int) - 0).toNat = 0 from rfl, q.1]
  rw [e]
  refine ⟨by omega, ?_⟩
  rw [cv, if_neg om]
 ·have q := e1 i 0 om hj
  have e : lb3 tb ((i + 1 : Nat) : Int) (0 : Nat) = min Znr (cv Znr a b band i 0) := by
   unfold lb3 lb2 lb1
   rw [if_neg om, if_pos om, if_neg om, show (((i + 1 : Nat) : Int) - 1).toNat = i from by omega, show (((0 : Nat) : Int) - 0).toNat = 0 from rfl, q.1]
  rw [e]
  refine ⟨by omega, ?_⟩
  rw [cv, if_neg om]
 ·have q1 := e1 i j om om
  have q2 := e1 i (j + 1) om hj
  have q3 := e2 j om
  have e : lb3 tb ((i + 1 : Nat) : Int) ((j + 1 : Nat) : Int) = min (min (min Znr (cv Znr a b band i j)) (cv Znr a b band i (j + 1))) (cv Znr a b band (i + 1) j) := by
   unfold lb3 lb2 lb1
   rw [if_pos om, if_pos om, if_pos om, show (((i + 1 : Nat) : Int) - 1).toNat = i from by omega, show (((j + 1 : Nat) : Int) - 1).toNat = j from by omega, show (((j + 1 : Nat) : Int) - 0).toNat = j + 1 from by omega, show (((i + 1 : Nat) : Int) - 0).toNat = i + 1 from by omega, q1.1, q2.1, q3.1]
  rw [e]
  refine ⟨by omega, ?_⟩
  rw [cv, if_neg om]
theorem tb_row {a b : List Feat} {band : Int} {tb : List (List Int)} {i m : Nat} (h : Znb a b band tb i) (hi : i < a.length) (hm : m = b.length) : Znb a b band (tb.set i (List.replicate m 0)) i ∧ Zko a b band (at_ (tb.set i (List.replicate m 0)) i) i 0 := by
 refine ⟨⟨by rw [List.length_set]; exact h.1, fun p hp => ?_⟩, ?_, fun q hq => by omega⟩
 ·rw [Zhu om]; exact h.2 p hp
 ·rw [Zfx (by rw [h.1]; exact hi)]; simp [hm]
theorem Zkp {a b : List Feat} {band v : Int} {tb : List (List Int)} {i j : Nat} (h : Znb a b band tb i) (hr : Zko a b band (at_ tb i) i j) (hi : i < a.length) (hj : j < b.length) (hv : v = cv Znr a b band i j) : Znb a b band (tb.set i ((at_ tb i).set j v)) i ∧ Zko a b band (at_ (tb.set i ((at_ tb i).set j v)) i) i (j + 1) := by
 refine ⟨⟨by rw [List.length_set]; exact h.1, fun p hp => ?_⟩, ?_, fun q hq => ?_⟩
 ·rw [Zhu om]; exact h.2 p hp
 ·rw [Zfx (by rw [h.1]; exact hi), List.length_set]; exact hr.1
 ·rw [Zfx (by rw [h.1]; exact hi)]
  by_cases e : q = j
  ·subst e; rw [Zfx (by rw [hr.1]; exact hj)]; exact hv
  ·rw [Zhu e]; exact hr.2 q om
theorem tb_done {a b : List Feat} {band : Int} {tb : List (List Int)} {i n : Nat} (h : Znb a b band tb i) (hr : Zko a b band (at_ tb i) i n) (hn : n = b.length) : Znb a b band tb (i + 1) := by
 subst hn
 refine ⟨h.1, fun p hp => ?_⟩
 by_cases e : p = i
 ·subst e; exact hr
 ·exact h.2 p om
theorem tb_nil (a b : List Feat) (band : Int) {n : Nat} (hn : n = a.length) : Znb a b band (List.replicate n []) 0 := ⟨by simp [hn], fun p hp => by omega⟩
abbrev Zji : Int := 1000000000
def Zri (a b : List Feat) (band : Int) (out : List Int) (k : Nat) : Prop := out.length = a.length * b.length ∧ ∀ p q, p < a.length → q < b.length → p * b.length + q < k → at_ out (p * b.length + q) = cv Zji a b band p q
def sb0 (i j : Int) : Int := if i = 0 ∧ j = 0 then 0 else 1000000000
def sb1 (out : List Int) (m i j : Int) : Int := if 0 < i ∧ 0 < j then min (sb0 i j) (at_ out ((i - 1) * m + j - 1).toNat) else sb0 i j
def sb2 (out : List Int) (m i j : Int) : Int := if 0 < i then min (sb1 out m i j) (at_ out ((i - 1) * m + j).toNat) else sb1 out m i j
def sb3 (out : List Int) (m i j : Int) : Int := if 0 < j then min (sb2 out m i j) (at_ out (i * m + j - 1).toNat) else sb2 out m i j
theorem Yfd {p q i j m : Nat} (h : p < i) (hq : q < m) : p * m + q < i * m + j := by
 have : (p + 1) * m ≤ i * m := Nat.mul_le_mul_right _ h
 rw [Nat.succ_mul] at this
 omega
theorem ix_up {i j : Nat} {m : Nat} : (((i + 1 : Nat) : Int) - 1) * (m : Int) = ((i * m : Nat) : Int) := by
 rw [show ((i + 1 : Nat) : Int) - 1 = (i : Int) from by omega, Int.natCast_mul]
theorem cv_le {far : Int} (hf : 1000000000 ≤ far) {a b : List Feat} (band : Int) (hab : Yeu a b) {i j : Nat} (hi : i < a.length) (hj : j < b.length) : cv far a b band i j = far ∨ cv far a b band i j ≤ 87000 := by
 by_cases h : band < (((i : Int) - (j : Int)).natAbs : Int)
 ·exact .inl (Zqz h)
 ·have := (Yao (band := band) hab hf hf (i + j) i j rfl hi hj om).2.2
  have hl := hab.2.2
  right; omega
theorem sb_at {a b : List Feat} {band : Int} {out : List Int} {i j : Nat} (hab : Yeu a b) (h : Zri a b band out (i * b.length + j)) (hi : i < a.length) (hj : j < b.length) :
  (0 ≤ sb3 out b.length i j ∧ (sb3 out b.length i j ≤ 87000 ∨ sb3 out b.length i j = 1000000000)) ∧ cv Zji a b band i j = (if sb3 out b.length i j = 1000000000 ∨ band < (((i : Int) - (j : Int)).natAbs : Int) then 1000000000 else sb3 out b.length i j + Zdr (at_ a i) (at_ b j)) := by
 have hF : Zji = 1000000000 := rfl
 have e1 : ∀ p q : Nat, p < i → q < b.length → at_ out (p * b.length + q) = cv Zji a b band p q ∧ 0 ≤ cv Zji a b band p q ∧ (cv Zji a b band p q = Zji ∨ cv Zji a b band p q ≤ 87000) := fun p q hp hq => ⟨h.2 p q om hq (Yfd hp hq), Zry (by decide) band hab p q om hq, cv_le (by decide) band hab om hq⟩
 have e2 : ∀ q : Nat, q < j → at_ out (i * b.length + q) = cv Zji a b band i q ∧ 0 ≤ cv Zji a b band i q ∧ (cv Zji a b band i q = Zji ∨ cv Zji a b band i q ≤ 87000) := fun q hq => ⟨h.2 i q hi om om, Zry (by decide) band hab i q hi om, cv_le (by decide) band hab hi om⟩
 have hst : ∀ x c : Int, x ≤ Zji → stp Zji band i j x c = (if x = 1000000000 ∨ band < (((i : Int) - (j : Int)).natAbs : Int) then 1000000000 else x + c) := fun x c hx => by
  unfold stp; split <;> split <;> omega
 rcases i with _ | i <;> rcases j with _ | j
 ·have e : sb3 out b.length (0 : Nat) (0 : Nat) = 0 := by simp [sb3, sb2, sb1, sb0]
  rw [e]
  refine ⟨by omega, ?_⟩
  rw [cv, hst _ _ om]
 ·have q := e2 j om
  have e : sb3 out b.length (0 : Nat) ((j + 1 : Nat) : Int) = min Zji (cv Zji a b band 0 j) := by
   unfold sb3 sb2 sb1 sb0
   rw [if_pos om, if_neg om, if_neg om, if_neg om, show (((0 : Nat) : Int) * (b.length : Int) + ((j + 1 : Nat) : Int) - 1).toNat = 0 * b.length + j from by rw [show ((0 : Nat) : Int) * (b.length : Int) = 0 from Int.zero_mul _, Nat.zero_mul]; omega, q.1]
  rw [e]
  refine ⟨by omega, ?_⟩
  rw [cv, hst _ _ om]
 ·have q := e1 i 0 om hj
  have e : sb3 out b.length ((i + 1 : Nat) : Int) (0 : Nat) = min Zji (cv Zji a b band i 0) := by
   unfold sb3 sb2 sb1 sb0
   rw [if_neg om, if_pos om, if_neg om, if_neg om, ix_up (j := 0), show (((i * b.length : Nat) : Int) + ((0 : Nat) : Int)).toNat = i * b.length + 0 from by omega, q.1]
  rw [e]
  refine ⟨by omega, ?_⟩
  rw [cv, hst _ _ om]
 ·have q1 := e1 i j om om
  have q2 := e1 i (j + 1) om hj
  have q3 := e2 j om
  have e : sb3 out b.length ((i + 1 : Nat) : Int) ((j + 1 : Nat) : Int) = min (min (min Zji (cv Zji a b band i j)) (cv Zji a b band i (j + 1))) (cv Zji a b band (i + 1) j) := by
   unfold sb3 sb2 sb1 sb0
   rw [if_pos om, if_pos om, if_pos om, if_neg om, ix_up (j := 0), show (((i * b.length : Nat) : Int) + ((j + 1 : Nat) : Int) - 1).toNat = i * b.length + j from by omega, show (((i * b.length : Nat) : Int) + ((j + 1 : Nat) : Int)).toNat = i * b.length + (j + 1) from by omega, show (((i + 1 : Nat) : Int) * (b.length : Int) + ((j + 1 : Nat) : Int) - 1).toNat = (i + 1) * b.length + j from by rw [← Int.natCast_mul]; omega, q1.1, q2.1, q3.1]
  rw [e]
  refine ⟨by omega, ?_⟩
  rw [cv, hst _ _ om]
theorem fl_nn {a b : List Feat} {band : Int} {out : List Int} {k0 k : Nat} (hab : Yeu a b) (h : Zri a b band out k0) (hM : 0 < b.length) (hk : k < k0) (hk2 : k < a.length * b.length) : 0 ≤ at_ out k := by
 have h1 := Nat.div_add_mod k b.length
 have h2 := Nat.mod_lt k hM
 have h3 : k / b.length < a.length := (Nat.div_lt_iff_lt_mul hM).2 hk2
 rw [Nat.mul_comm] at h1
 rw [← h1, h.2 _ _ h3 h2 om]
 exact Zry (by decide) band hab _ _ h3 h2
theorem fl_uniq {p q i j m : Nat} (hq : q < m) (hj : j < m) (h : p * m + q = i * m + j) : p = i ∧ q = j := by
 have hp : p = i := by
  rcases Nat.lt_trichotomy p i with e | e | e
  ·have := Yfd (j := j) e hq; omega
  ·exact e
  ·have := Yfd (j := q) e hj; omega
 subst hp
 exact ⟨rfl, by omega⟩
theorem Zys {a b : List Feat} {band v : Int} {out : List Int} {i j : Nat} {k : Nat} (h : Zri a b band out (i * b.length + j)) (hi : i < a.length) (hj : j < b.length) (hk : k = i * b.length + j) (hv : v = cv Zji a b band i j) : Zri a b band (out.set k v) (i * b.length + (j + 1)) := by
 subst hk
 refine ⟨by rw [List.length_set]; exact h.1, fun p q hp hq hk => ?_⟩
 by_cases e : p * b.length + q = i * b.length + j
 ·obtain ⟨rfl, rfl⟩ := fl_uniq hq hj e
  have : p * b.length + q < a.length * b.length + 0 := Yfd hi hj
  rw [Zfx (by rw [h.1]; omega)]; exact hv
 ·rw [Zhu e]; exact h.2 p q hp hq om
theorem fl_done {a b : List Feat} {band : Int} {out : List Int} {i n : Nat} (h : Zri a b band out (i * b.length + n)) (hn : n = b.length) : Zri a b band out ((i + 1) * b.length) := by
 subst hn; rw [Nat.succ_mul]; exact h
def nx (a b : List Feat) (band : Int) (i j : Nat) : Nat × Nat :=
 if (0 < i ∧ 0 < j) ∧ cv Zji a b band (i - 1) (j - 1) = cv Zji a b band i j - Zdr (at_ a i) (at_ b j) then (i - 1, j - 1)
 else if 0 < i ∧ cv Zji a b band (i - 1) j = cv Zji a b band i j - Zdr (at_ a i) (at_ b j) then (i - 1, j) else (i, j - 1)
def inBd (band : Int) (i j : Nat) : Prop := (((i : Int) - (j : Int)).natAbs : Int) ≤ band
theorem cv_fin {a b : List Feat} {band : Int} {i j : Nat} (hab : Yeu a b) (hi : i < a.length) (hj : j < b.length) : (inBd band i j ∧ cv Znr a b band i j = cv Zji a b band i j ∧ 0 ≤ cv Zji a b band i j ∧ cv Zji a b band i j ≤ 87000) ∨ (¬ inBd band i j ∧ cv Znr a b band i j = 1099511627776 ∧ cv Zji a b band i j = 1000000000) := by
 have hl := hab.2.2
 by_cases h : inBd band i j
 ·have q := Yao (band := band) hab (f1 := Zji) (f2 := Znr) (by decide) (by decide) (i + j) i j rfl hi hj h
  exact .inl ⟨h, q.1.symm, q.2.1, by omega⟩
 ·unfold inBd at h
  exact .inr ⟨h, Zqz om, Zqz om⟩
theorem Zyu {a b : List Feat} (ha : Zbr a 72 = true) (hb : Zbr b 72 = true) : Yeu a b := ⟨fun i hi => Zsz ha hi, fun j hj => Zsz hb hj, by have := Zgx ha; omega, by have := Zgx hb; omega⟩
theorem inBd_end {band : Int} {n m : Nat} (h : inBd band n m) (hn : 1 ≤ n) (hm : 1 ≤ m) : inBd band (n - 1) (m - 1) := by unfold inBd at *; omega
def Ycx (a b : List Feat) (band : Int) : Int := if Zbr a 72 = true ∧ Zbr b 72 = true then (if (inB band 0 72 && decide ((((a.length : Int) - (b.length : Int)).natAbs : Int) ≤ band)) = true then 0 else 2) else 1
def elR (a b : List Feat) (band : Int) : Int × Int := if Ycx a b band = 0 then (cv Zji a b band (a.length - 1) (b.length - 1), 0) else (0, Ycx a b band)
theorem fl_last {a b : List Feat} {band : Int} {out : List Int} (h : Zri a b band out (a.length * b.length)) (ha : 1 ≤ a.length) (hb : 1 ≤ b.length) : at_ out (out.length - 1) = cv Zji a b band (a.length - 1) (b.length - 1) ∧ 1 ≤ out.length := by
 have e : a.length * b.length = (a.length - 1) * b.length + b.length := by
  obtain ⟨n, hn⟩ : ∃ n, a.length = n + 1 := ⟨a.length - 1, by omega⟩
  rw [hn, Nat.add_sub_cancel, Nat.succ_mul]
 have q := h.2 (a.length - 1) (b.length - 1) om om om
 have l := h.1
 rw [← q]
 refine ⟨?_, by omega⟩
 congr 1; omega
def inS (s : Store) (fs : List Feat) (j : Nat) : Bool := inB s.Band 0 72 && decide ((((fs.length : Int) - ((at_ s.Templates j).Feats.length : Int)).natAbs : Int) ≤ s.Band)
def mtM (s : Store) (fs : List Feat) (j : Nat) : Match := ⟨(j : Int), cv Zji fs (at_ s.Templates j).Feats s.Band (fs.length - 1) ((at_ s.Templates j).Feats.length - 1)⟩
def mtS (s : Store) (fs : List Feat) : Nat → List Match
 | 0 => []
 | k + 1 => if inS s fs k = true then mtS s fs k ++ [mtM s fs k] else mtS s fs k
theorem mt_y {s : Store} {fs : List Feat} {k : Nat} (h : inS s fs k = true) : mtS s fs (k + 1) = mtS s fs k ++ [mtM s fs k] := if_pos h
theorem mt_n {s : Store} {fs : List Feat} {k : Nat} (h : ¬ inS s fs k = true) : mtS s fs (k + 1) = mtS s fs k := if_neg h
theorem Zng (s : Store) (fs : List Feat) : ∀ k : Nat, (mtS s fs k).length ≤ k
 | 0 => Nat.le_refl _
 | k + 1 => by
  have := Zng s fs k
  unfold mtS; split
  ·rw [List.length_append]; simp; omega
  ·omega
theorem Zpt {s : Store} {fs : List Feat} {x : Match} : ∀ {k : Nat}, x ∈ mtS s fs k → ∃ j, j < k ∧ inS s fs j = true ∧ x = mtM s fs j
 | 0, h => by simp [mtS] at h
 | k + 1, h => by
  unfold mtS at h
  split at h
  ·rename_i g
   rcases List.mem_append.1 h with e | e
   ·obtain ⟨j, h1, h2, h3⟩ := Zpt e; exact ⟨j, by omega, h2, h3⟩
   ·simp only [List.mem_singleton] at e; exact ⟨k, by omega, g, e⟩
  ·obtain ⟨j, h1, h2, h3⟩ := Zpt h; exact ⟨j, by omega, h2, h3⟩
theorem Yfe {s : Store} {fs : List Feat} {j : Nat} (hf : Zbr fs 72 = true) (ht : Zfn (at_ s.Templates j) = true) (h : inS s fs j = true) : (0 ≤ s.Band ∧ s.Band ≤ 72) ∧ elR fs (at_ s.Templates j).Feats s.Band = ((mtM s fs j).Cost, 0) ∧ cv Znr fs (at_ s.Templates j).Feats s.Band (fs.length - 1) ((at_ s.Templates j).Feats.length - 1) = (mtM s fs j).Cost ∧ 0 ≤ (mtM s fs j).Cost ∧ (mtM s fs j).Cost ≤ 87000 := by
 have hg : Zbr (at_ s.Templates j).Feats 72 = true := by simp only [Zfn, Bool.and_eq_true] at ht; exact ht.2
 have h1 := Zgx hf
 have h2 := Zgx hg
 have hq := h
 simp only [inS, Bool.and_eq_true, decide_eq_true_eq, inB] at h
 have hb : inBd s.Band fs.length (at_ s.Templates j).Feats.length := by unfold inBd; exact h.2
 have he := inBd_end hb h1.1 h2.1
 refine ⟨h.1, ?_, ?_⟩
 ·unfold elR
  rw [if_pos (show Ycx fs (at_ s.Templates j).Feats s.Band = 0 by unfold Ycx; rw [if_pos ⟨hf, hg⟩]; unfold inS at hq; rw [if_pos hq])]; rfl
 ·rcases cv_fin (band := s.Band) (i := fs.length - 1) (j := (at_ s.Templates j).Feats.length - 1) (Zyu hf hg) om om with g | g
  ·exact ⟨g.2.1, g.2.2.1, g.2.2.2⟩
  ·exact absurd he g.1
def Zet (a b : Hyp) : Int := orL [Zfu a.Cost b.Cost, Ziv a.Label b.Label]
theorem Zqq (a b : Hyp) : Zet a b = if Zfu a.Cost b.Cost = 0 then Ziv a.Label b.Label else Zfu a.Cost b.Cost := by
 unfold Zet orL orL orL
 by_cases h1 : Zfu a.Cost b.Cost = 0
 ·rw [if_pos h1, if_pos h1]; split
  ·rename_i h3; exact h3.symm
  ·rfl
 ·rw [if_neg h1, if_neg h1]
theorem cmpH_w : CmpW Zet := by
 have h : Zet = fun x y => if Zfu x.Cost y.Cost = 0 then (fun x y : Hyp => Ziv x.Label y.Label) x y else Zfu x.Cost y.Cost := funext fun a => funext fun b => Zqq a b
 rw [h]
 exact CmpW.lex (f := Hyp.Cost) Yil (cmpS_w.map Hyp.Label)
theorem cmpH_tot (a b : Hyp) (h : Zet a b = 0) : a = b := by
 rw [Zqq] at h
 by_cases e : Zfu a.Cost b.Cost = 0
 ·rw [if_pos e] at h
  cases a; cases b
  rw [Zfg] at e
  rw [Zfh] at h
  simp_all
 ·rw [if_neg e] at h; exact absurd h e
def Zop (xs : List Hyp) (l : ByteArray) : Bool := Zvc xs.length fun j => decide ((at_ xs j).Label = l)
def Zda (most : Int) (xs : List Hyp) : Nat → List Hyp
 | 0 => []
 | k + 1 => if ((Zda most xs k).length : Int) < most ∧ Zop (Zda most xs k) (at_ xs k).Label = false then Zda most xs k ++ [at_ xs k] else Zda most xs k
theorem Zmv (most : Int) (xs : List Hyp) : ∀ k, (Zda most xs k).length ≤ k
 | 0 => Nat.le_refl _
 | k + 1 => by
  have := Zmv most xs k
  unfold Zda
  split
  ·simp; omega
  ·omega
theorem pick_y {most : Int} {xs : List Hyp} {k : Int} (h0 : 0 ≤ k) (h1 : ((Zda most xs k.toNat).length : Int) < most) (h2 : Zop (Zda most xs k.toNat) (at_ xs k.toNat).Label = false) : Zda most xs (k + 1).toNat = Zda most xs k.toNat ++ [at_ xs k.toNat] := by
 rw [show (k + 1).toNat = k.toNat + 1 from by omega]; exact if_pos ⟨h1, h2⟩
theorem pick_n {most : Int} {xs : List Hyp} {k : Int} (h0 : 0 ≤ k) (h : ¬ (((Zda most xs k.toNat).length : Int) < most ∧ Zop (Zda most xs k.toNat) (at_ xs k.toNat).Label = false)) : Zda most xs (k + 1).toNat = Zda most xs k.toNat := by
 rw [show (k + 1).toNat = k.toNat + 1 from by omega]; exact if_neg h
def Zph (most : Int) (xs : List Hyp) : List Hyp := Zda most (Zfv Zet xs xs.length) xs.length
def Zfa (t : Setting) : Bool := inB t.Points 2 24 && (inB t.Most 1 8 && inB t.Pen 0 1000)
def Yev (s : Store) (p : Int) (m : Match) : Hyp := ⟨(at_ s.Templates m.Index.toNat).Label, m.Cost + p⟩
def Zyy (ik : Ink) (t : Setting) : Int := t.Pen * ((ik.Strokes.length : Int) - 1)
def Ybb (s : Store) (ik : Ink) (t : Setting) : List Hyp := (mtS s (feR ik t.Points).1 s.Templates.length).map (Yev s (Zyy ik t))
def Zlh (s : Store) (ik : Ink) (t : Setting) : List Hyp := Zph t.Most (Ybb s ik t)
theorem Zhy {t : Setting} : Zfa t = true ↔ (2 ≤ t.Points ∧ t.Points ≤ 24) ∧ (1 ≤ t.Most ∧ t.Most ≤ 8) ∧ (0 ≤ t.Pen ∧ t.Pen ≤ 1000) := by simp [Zfa, inB]
theorem Zyx {ik : Ink} {t : Setting} (ht : 0 ≤ t.Pen ∧ t.Pen ≤ 1000) (h : 1 ≤ ik.Strokes.length ∧ ik.Strokes.length ≤ 16) : 0 ≤ t.Pen * ((ik.Strokes.length : Int) - 1) ∧ t.Pen * ((ik.Strokes.length : Int) - 1) ≤ 15000 := by
 constructor
 ·exact Int.mul_nonneg ht.1 om
 ·have h1 : t.Pen * ((ik.Strokes.length : Int) - 1) ≤ 1000 * ((ik.Strokes.length : Int) - 1) := Int.mul_le_mul_of_nonneg_right ht.2 om
  omega
theorem fe_72 {x : Ink} {n : Int} (ok : Zbp x = true) (hn : 2 ≤ n ∧ n ≤ 24) (h1 : 1 ≤ x.Strokes.length) (h : (x.Strokes.length : Int) * n ≤ 72) : (feR x n).2 = 0 ∧ Zbr (feR x n).1 72 = true := by
 have e : (feR x n).2 = 0 := by rw [Zto ok (Zjk.2 hn) om]
 have q := fe_valid e
 refine ⟨e, ?_⟩
 have q1 := q.1
 have q2 : ((feR x n).1.length : Int) ≤ 72 := by rw [q.2, Int.mul_comm]; exact h
 simp only [Zbr, Bool.and_eq_true, decide_eq_true_eq] at q1 ⊢
 exact ⟨⟨q1.1.1, q2⟩, q1.2⟩
theorem feA_72 {x : Ink} {n : Int} (ok : Zbp x = true) (hn : 2 ≤ n ∧ n ≤ 24) (h1 : 1 ≤ x.Strokes.length) (h : (x.Strokes.length : Int) * n ≤ 72) : Zbr (feA x n) 72 = true := by
 have q := (fe_72 ok hn h1 h).2
 rwa [Zto ok (Zjk.2 hn) om] at q
theorem mul36 {a : Nat} {p : Int} (ha : a ≤ 3) (hp : 2 ≤ p ∧ p ≤ 6) : 0 ≤ (a : Int) * p ∧ (a : Int) * p ≤ 18 := by
 have h1 : (a : Int) * p ≤ 3 * p := Int.mul_le_mul_of_nonneg_right om om
 have h2 : 0 ≤ (a : Int) * p := Int.mul_nonneg om om
 omega
theorem Yim (s : l00Src) (points : Int) (hs : Zcc s) (ha : s.atx ≤ 3999999999999930000) (hp : 2 ≤ points ∧ points ≤ 6) : ∃ (v : Store) (ik : Ink) (s' : l00Src), (Zcc s') ∧ (s'.code = s.code) ∧ (s.atx + 0 ≤ s'.atx ∧ s'.atx ≤ s.atx + 60000) ∧ (6 ≤ v.Band ∧ v.Band ≤ 15) ∧ (v.Templates.length ≤ 5) ∧ (∀ t ∈ v.Templates, Zfn t = true) ∧ (Zbp ik = true) ∧ (ik.Strokes.length ≤ 3) ∧ Zbb Tryz.prog 13 [.ref 7001 0, I points] (Zaf [(7001, Zab s)]) true (.tup [Zgt v, .agg [Zae true ik.Strokes]]) (Zaf [(7001, Zab s')]) := by
  have hh : ∃ r : Store × Ink × l00Src, ((Zcc r.2.2) ∧ (r.2.2.code = s.code) ∧ (s.atx + 0 ≤ r.2.2.atx ∧ r.2.2.atx ≤ s.atx + 60000) ∧ (6 ≤ r.1.Band ∧ r.1.Band ≤ 15) ∧ (r.1.Templates.length ≤ 5) ∧ (∀ t ∈ r.1.Templates, Zfn t = true) ∧ (Zbp r.2.1 = true) ∧ (r.2.1.Strokes.length ≤ 3) ∧ (True)) ∧ Zbb Tryz.prog 13 [.ref 7001 0, I points] (Zaf [(7001, Zab s)]) true (.tup [Zgt r.1, .agg [Zae true r.2.1.Strokes]]) (Zaf [(7001, Zab r.2.2)]) := by
    refine Zdv (Φ := fun r : Store × Ink × l00Src => (Zcc r.2.2) ∧ (r.2.2.code = s.code) ∧ (s.atx + 0 ≤ r.2.2.atx ∧ r.2.2.atx ≤ s.atx + 60000) ∧ (6 ≤ r.1.Band ∧ r.1.Band ≤ 15) ∧ (r.1.Templates.length ≤ 5) ∧ (∀ t ∈ r.1.Templates, Zfn t = true) ∧ (Zbp r.2.1 = true) ∧ (r.2.1.Strokes.length ≤ 3) ∧ (True)) [(7001, Zab s)] (fun r => [(7001, Zab r.2.2)]) (fn := Tryz.f13) (nt := 53) Tryz.func13 rfl rfl (args := [.ref 7001 0, I points]) rfl (Zbd (.inr trivial) (Zbd (.inl ⟨rfl, trivial⟩) Zdp)) (res := fun r => .tup [Zgt r.1, .agg [Zae true r.2.1.Strokes]]) ?_
    refine xQ [(0, .new 4), (1, .new 5)] [0, 1, 4, 5] [4, 5, 7001] [] trivial ?_
    refine Zat ?_
    obtain ⟨v_1, s'_1, hx1_0, hx1_1, hx1_2, hx1_3, hc1⟩ := Zel s 10 (by first | assumption | (simp only [Zcc] at *; simp_all; done)) om
    refine x_q [(1, .lend [(7001, Zab s, Zab s'_1)] [] [(true, .any), (true, .any)] true (I v_1)), (4, .new 6)] [0, 1, 4, 5, 6] [4, 5, 6, 7001] [Zbb Tryz.prog 12 [.ref 7001 0, I 10] (Zaf [(7001, Zab s)]) true (I v_1) (Zaf [(7001, Zab s'_1)]) ∧ (((Zab s : Ob) = Zab s ∨ Zhk Zgd true (Zab s) (Zab s)) ∧ Zbc false (Zab s)) ∧ True, inR .i64 (6 + v_1)] ⟨⟨hc1, ⟨.inl rfl, (by simp [Zbc, Zag, Zaj, Zfc])⟩, trivial⟩, (Zac om om), trivial⟩ ?_
    refine Zad ?_
    refine Zat ?_
    obtain ⟨s'_2, ss_2, hx2_0, hx2_1, hx2_2, hx2_3, hx2_4, hx2_5, hc2⟩ := Zta s'_1 3 (by first | assumption | (simp only [Zcc] at *; simp_all; done)) om om
    have hok1 : Zbp (Ink.mk ss_2) = true := hx2_5
    have hkl1 := hx2_3
    have hkt1 := hx2_4
    refine x_r [(1, .lend [(7001, Zab s'_1, Zab s'_2)] [(8011, Zbk 8012 ss_2), (8012, Zbg ss_2)] [(true, .any), (true, .any)] false (.agg [.arr 8011])), (2, .new 7)] [0, 1, 4, 5, 6, 7] [4, 5, 6, 7, 7001, 8011, 8012] [.ref 7001 0, I points, .ref 4 0, .ref 5 0, .ref 6 0, .ref 7 0] [some (.box [I 0, Zcr]), some (.box [Zcr]), some (.box [I (6 + v_1), Zcr]), some (.box [.arr 8011]), some (Zab s'_2), some (Zbk 8012 ss_2), some (Zbg ss_2)] [Zbb Tryz.prog 30 [.ref 7001 0, I 3] (Zaf [(7001, Zab s'_1)]) false (.agg [.arr 8011]) (Zaf [(7001, Zab s'_2), (8011, Zbk 8012 ss_2), (8012, Zbg ss_2)]) ∧ (((Zab s'_1 : Ob) = Zab s'_1 ∨ Zhk Zgd true (Zab s'_1) (Zab s'_1)) ∧ Zbc false (Zab s'_1)) ∧ True] ⟨⟨hc2, ⟨.inl rfl, (by simp [Zbc, Zag, Zaj, Zfc])⟩, trivial⟩, trivial⟩ ?_
    refine Zad ?_
    refine Zat ?_
    refine Zat ?_
    refine Zcw [] (T := [(0, .ref 7001 0), (1, I points), (4, .ref 4 0), (5, .ref 5 0), (6, .ref 6 0), (7, .ref 7 0)]) (O := [(4, .box [I 0, Zcr]), (5, .box [Zcr]), (6, .box [I (6 + v_1), Zcr]), (7, .box [Zae true ss_2]), (7001, Zab s'_2)]) rfl (⟨.inl rfl, .inl rfl, .inl rfl, .inl rfl, .inl rfl, .inl rfl, trivial⟩) (⟨.inl rfl, .inl rfl, .inl rfl, .inr ⟨⟨(fun _ => rfl), rfl, rfl, Zkb _ _ rfl⟩, rfl⟩, .inl rfl, trivial⟩) ?_
    obtain ⟨v_3, s'_3, hx3_0, hx3_1, hx3_2, hx3_3, hc3⟩ := Zel s'_2 5 (by first | assumption | (simp only [Zcc] at *; simp_all; done)) om
    refine x_r [(1, .lend [(7001, Zab s'_2, Zab s'_3)] [] [(true, .any), (true, .any)] true (I v_3))] [0, 1, 4, 5, 6, 7, 8] [4, 5, 6, 7, 7001] [.ref 7001 0, I points, .ref 4 0, .ref 5 0, .ref 6 0, .ref 7 0, I (1 + v_3)] [some (.box [I 0, Zcr]), some (.box [Zcr]), some (.box [I (6 + v_1), Zcr]), some (.box [Zae true ss_2]), some (Zab s'_3)] [Zbb Tryz.prog 12 [.ref 7001 0, I 5] (Zaf [(7001, Zab s'_2)]) true (I v_3) (Zaf [(7001, Zab s'_3)]) ∧ (((Zab s'_2 : Ob) = Zab s'_2 ∨ Zhk Zgd true (Zab s'_2) (Zab s'_2)) ∧ Zbc false (Zab s'_2)) ∧ True, inR .i64 (1 + v_3)] ⟨⟨hc3, ⟨.inl rfl, (by simp [Zbc, Zag, Zaj, Zfc])⟩, trivial⟩, (Zac om om), trivial⟩ ?_
    refine Zad ?_
    refine Zbn ?_
    refine Zmk 6 1 761 2 (fun _ => []) rfl (by kernel_rfl) ?_
    refine Zcw [] (T := [(0, .ref 7001 0), (1, I points), (4, .ref 4 0), (5, .ref 5 0), (6, .ref 6 0), (7, .ptr true [Zae true ss_2]), (8, I (1 + v_3))]) (O := [(4, .box [I 0, Zcr]), (5, .box [Zcr]), (6, .box [I (6 + v_1), .arr 761]), (761, Zdu true ([] : List Template)), (7001, Zab s'_3)]) rfl (⟨.inl rfl, .inl rfl, .inl rfl, .inl rfl, .inl rfl, .inr ⟨(fun _ => rfl), rfl, ⟨⟨(fun _ => rfl), rfl, rfl, fun i _ => .inl rfl⟩, rfl⟩⟩, .inl rfl, trivial⟩) (⟨.inl rfl, .inl rfl, .inl rfl, .inr ⟨rfl, (by first | rfl | (simp; done) | (simp; omega) | omega), fun i_ hi_ => absurd hi_ (Nat.not_lt_zero _)⟩, .inl rfl, trivial⟩) ?_
    refine Zeb (X := Int × l00Src × (List Template)) (fun x => mkS [(0, .ref 7001 0), (1, I points), (4, .ref 4 0), (5, .ref 5 0), (6, .ref 6 0), (7, .ptr true [Zae true ss_2]), (8, I x.1)] [(4, .box [I 0, Zcr]), (5, .box [Zcr]), (6, .box [I (6 + v_1), .arr 761]), (761, Zdu true x.2.2), (7001, Zab x.2.1)]) (fun x => (Zcc x.2.1 ∧ x.2.1.code = s.code ∧ s.atx ≤ x.2.1.atx ∧ x.2.1.atx ≤ s.atx + 4000 + 8000 * (5 - x.1)) ∧ (0 ≤ x.1 ∧ x.1 ≤ 5) ∧ ((x.2.2.length : Int) + x.1 ≤ 5) ∧ (∀ t ∈ x.2.2, Zfn t = true) ∧ True) (fun x => x.1.toNat) ((1 + v_3), s'_3, ([] : List Template)) rfl (show (Zcc s'_3 ∧ s'_3.code = s.code ∧ s.atx ≤ s'_3.atx ∧ s'_3.atx ≤ s.atx + 4000 + 8000 * (5 - (1 + v_3))) ∧ (0 ≤ (1 + v_3) ∧ (1 + v_3) ≤ 5) ∧ ((([] : List Template).length : Int) + (1 + v_3) ≤ 5) ∧ (∀ t ∈ ([] : List Template), Zfn t = true) ∧ True from ⟨(by exact ⟨by assumption, by first | assumption | rfl | (simp only [*]; done), by omega, by omega⟩), om, (by simp; omega), (by simp), trivial⟩) (fun x hI => ?_)
    obtain ⟨k, src, ts⟩ := x
    obtain ⟨hs0, hk0, hl0, hz0, _⟩ : (Zcc src ∧ src.code = s.code ∧ s.atx ≤ src.atx ∧ src.atx ≤ s.atx + 4000 + 8000 * (5 - k)) ∧ (0 ≤ k ∧ k ≤ 5) ∧ ((ts.length : Int) + k ≤ 5) ∧ (∀ t ∈ ts, Zfn t = true) ∧ True := hI
    show XW _ _ _ _ (mkS [(0, .ref 7001 0), (1, I points), (4, .ref 4 0), (5, .ref 5 0), (6, .ref 6 0), (7, .ptr true [Zae true ss_2]), (8, I k)] [(4, .box [I 0, Zcr]), (5, .box [Zcr]), (6, .box [I (6 + v_1), .arr 761]), (761, Zdu true ts), (7001, Zab src)]) _ _
    refine Zat ?_
    refine Zat ?_
    by_cases h1 : 0 < k
    ·refine x_q [(1, .dec true)] [0, 1, 4, 5, 6, 7, 8, 20] [4, 5, 6, 761, 7001] [_] ⟨h1, trivial⟩ ?_
     refine Zad ?_
     refine Zfl ?_
     refine Zbv ?_
     refine Zad ?_
     refine Zat ?_
     refine Zbn ?_
     refine Zat ?_
     obtain ⟨s'_4, ss_4, hx4_0, hx4_1, hx4_2, hx4_3, hx4_4, hx4_5, hc4⟩ := Zta src 2 (by first | assumption | (simp only [Zcc] at *; simp_all; done)) om om
     have hok2 : Zbp (Ink.mk ss_4) = true := hx4_5
     have hkl2 := hx4_3
     have hkt2 := hx4_4
     refine x_q [(1, .lend [(7001, Zab src, Zab s'_4)] [(8011, Zbk 8012 ss_4), (8012, Zbg ss_4)] [(true, .any), (true, .any)] false (.agg [.arr 8011])), (2, .new 9)] [0, 1, 4, 5, 6, 7, 8, 9] [4, 5, 6, 9, 761, 7001, 8011, 8012] [Zbb Tryz.prog 30 [.ref 7001 0, I 2] (Zaf [(7001, Zab src)]) false (.agg [.arr 8011]) (Zaf [(7001, Zab s'_4), (8011, Zbk 8012 ss_4), (8012, Zbg ss_4)]) ∧ (((Zab src : Ob) = Zab src ∨ Zhk Zgd true (Zab src) (Zab src)) ∧ Zbc false (Zab src)) ∧ True] ⟨⟨hc4, ⟨.inl rfl, (by simp [Zbc, Zag, Zaj, Zfc])⟩, trivial⟩, trivial⟩ ?_
     refine Zad ?_
     refine Zat ?_
     refine Zat ?_
     obtain ⟨v_5, s'_5, hx5_0, hx5_1, hx5_2, hc5⟩ := one_ok s'_4 3 (by first | assumption | (simp only [Zcc] at *; simp_all; done)) om
     rcases Bool.eq_false_or_eq_true v_5 with h2 | h2
     ·subst h2
      refine x_q [(1, .lend [(7001, Zab s'_4, Zab s'_5)] [] [(true, .any), (true, .any)] true (Bv true))] [0, 1, 4, 5, 6, 7, 8, 9, 26] [4, 5, 6, 9, 761, 7001, 8011, 8012] [Zbb Tryz.prog 31 [.ref 7001 0, I 3] (Zaf [(7001, Zab s'_4)]) true (Bv true) (Zaf [(7001, Zab s'_5)]) ∧ (((Zab s'_4 : Ob) = Zab s'_4 ∨ Zhk Zgd true (Zab s'_4) (Zab s'_4)) ∧ Zbc false (Zab s'_4)) ∧ True] ⟨⟨hc5, ⟨.inl rfl, (by simp [Zbc, Zag, Zaj, Zfc])⟩, trivial⟩, trivial⟩ ?_
      refine Zad ?_
      refine Zfl ?_
      obtain ⟨ss_6, hx6_0, hc6⟩ := Yin (Ink.mk ss_2) (fun s_ hs_ => by have := Zeo (Yia hok1 s_ hs_); omega) (by first | omega | (dsimp only; omega))
      have hokO : Zbp (Ink.mk ss_6) = true := by rw [hx6_0]; exact hok1
      have hklO : ss_6.length ≤ 3 := by rw [hx6_0]; show ss_2.length ≤ 3; omega
      refine x_q [(0, .lend [] [(8031, Zbk 8032 ss_6), (8032, Zbg ss_6)] [(false, .ptr false [Zae false ss_2])] false (.agg [.arr 8031]))] [0, 1, 4, 5, 6, 7, 8, 9] [4, 5, 6, 9, 761, 7001, 8031, 8032] [Zbb Tryz.prog 32 [.ptr false [Zae false ss_2]] (Zaf []) false (.agg [.arr 8031]) (Zaf [(8031, Zbk 8032 ss_6), (8032, Zbg ss_6)]) ∧ ((false = true → true = true) ∧ AV.idsL [Zae false ss_2] = [] ∧ ((false = true → true = true) ∧ 1 = 1 ∧ ss_2.length = ss_2.length ∧ ∀ i_, i_ < ss_2.length → (Zbl true ss_2) i_ = (Zbl false ss_2) i_ ∨ (AV.idsL ((Zbl false ss_2) i_) = [] ∧ leL (fun _ => none) false ((Zbl true ss_2) i_) ((Zbl false ss_2) i_))) ∧ ([] : List AV) = []) ∧ True] ⟨⟨hc6, ⟨(fun h => by cases h), rfl, ⟨⟨(fun h => by cases h), rfl, rfl, fun i _ => .inr ⟨Zml _ _, Zoz _ _ _⟩⟩, rfl⟩⟩, trivial⟩, trivial⟩ ?_
      refine Zad ?_
      refine Zat ?_
      refine Zat ?_
      by_cases h3 : (ss_6.length : Int) = 0
      ·refine x_q [(3, .dec true)] [0, 1, 4, 5, 6, 7, 8, 9, 39] [4, 5, 6, 9, 761, 7001, 8031, 8032] [_] ⟨h3, trivial⟩ ?_
       refine Zad ?_
       refine Zfl ?_
       refine Zde ?_
       refine Zax ?_
       refine Zay ?_
       refine Zad ?_
       refine x_r [] [0, 1, 4, 5, 6, 7, 8] [4, 5, 6, 761, 7001] [.ref 7001 0, I points, .ref 4 0, .ref 5 0, .ref 6 0, .ptr true [Zae true ss_2], I (k - 1)] [some (.box [I 0, Zcr]), some (.box [Zcr]), some (.box [I (6 + v_1), .arr 761]), some (Zdu true ts), some (Zab s'_5)] [inR .i64 (k - 1)] ⟨(Zac om om), trivial⟩ ?_
       exact Zbh ((k - 1), s'_5, ts) rfl (show (Zcc s'_5 ∧ s'_5.code = s.code ∧ s.atx ≤ s'_5.atx ∧ s'_5.atx ≤ s.atx + 4000 + 8000 * (5 - (k - 1))) ∧ (0 ≤ (k - 1) ∧ (k - 1) ≤ 5) ∧ ((ts.length : Int) + (k - 1) ≤ 5) ∧ (∀ t ∈ ts, Zfn t = true) ∧ True from ⟨(by exact ⟨by assumption, by first | assumption | rfl | (simp only [*]; done), by omega, by omega⟩), om, (by first | omega | (simp; omega)), (by first | exact hz0 | (intro t ht; rcases List.mem_append.1 ht with ht | ht; (exact hz0 t ht); (simp only [List.mem_singleton] at ht; subst ht; exact Znx hlab (by assumption)))), trivial⟩) (by first | (show ((k - 1).toNat : Nat) < k.toNat; omega) | (dsimp only; omega))
      have hss : 1 ≤ ss_6.length := by omega
      have hpm := mul36 (a := ss_6.length) (p := points) om hp
      have hfa := feA_72 (x := Ink.mk ss_6) (n := points) (by first | exact hokO | assumption) om hss (by show (ss_6.length : Int) * points ≤ 72; omega)
      by_cases h4 : 72 < ((ss_6.length : Int) * points)
      ·refine x_q [(3, .dec false), (10, .dec true)] [0, 1, 4, 5, 6, 7, 8, 9, 39] [4, 5, 6, 9, 761, 7001, 8031, 8032] [_, inR .i64 ((ss_6.length : Int) * points), _] ⟨h3, (Zac om om), h4, trivial⟩ ?_
       refine Zad ?_
       refine Zfl ?_
       refine Zde ?_
       refine Zax ?_
       refine Zay ?_
       refine Zad ?_
       refine x_r [] [0, 1, 4, 5, 6, 7, 8] [4, 5, 6, 761, 7001] [.ref 7001 0, I points, .ref 4 0, .ref 5 0, .ref 6 0, .ptr true [Zae true ss_2], I (k - 1)] [some (.box [I 0, Zcr]), some (.box [Zcr]), some (.box [I (6 + v_1), .arr 761]), some (Zdu true ts), some (Zab s'_5)] [inR .i64 (k - 1)] ⟨(Zac om om), trivial⟩ ?_
       exact Zbh ((k - 1), s'_5, ts) rfl (show (Zcc s'_5 ∧ s'_5.code = s.code ∧ s.atx ≤ s'_5.atx ∧ s'_5.atx ≤ s.atx + 4000 + 8000 * (5 - (k - 1))) ∧ (0 ≤ (k - 1) ∧ (k - 1) ≤ 5) ∧ ((ts.length : Int) + (k - 1) ≤ 5) ∧ (∀ t ∈ ts, Zfn t = true) ∧ True from ⟨(by exact ⟨by assumption, by first | assumption | rfl | (simp only [*]; done), by omega, by omega⟩), om, (by first | omega | (simp; omega)), (by first | exact hz0 | (intro t ht; rcases List.mem_append.1 ht with ht | ht; (exact hz0 t ht); (simp only [List.mem_singleton] at ht; subst ht; exact Znx hlab (by assumption)))), trivial⟩) (by first | (show ((k - 1).toNat : Nat) < k.toNat; omega) | (dsimp only; omega))
      refine x_q [(3, .dec false), (10, .dec false)] [0, 1, 4, 5, 6, 7, 8, 9, 39] [4, 5, 6, 9, 761, 7001, 8031, 8032] [_, inR .i64 ((ss_6.length : Int) * points), _] ⟨h3, (Zac om om), h4, trivial⟩ ?_
      refine Zad ?_
      refine Zkr ?_
      refine Zbv ?_
      refine Zad ?_
      obtain ⟨v_7, s'_7, hx7_0, hx7_1, hx7_2, hx7_3, hx7_4, hc7⟩ := Yio s'_5 ([(⟨#[97]⟩ : ByteArray), (⟨#[98]⟩ : ByteArray), (⟨#[105]⟩ : ByteArray), (⟨#[116]⟩ : ByteArray), (⟨#[110]⟩ : ByteArray)]) (by first | assumption | (simp only [Zcc] at *; simp_all; done)) om (by decide)
      have hlab : Zco v_7 = true := by have q := hx7_4; simp only [List.mem_cons, List.not_mem_nil, or_false] at q; rcases q with q | q | q | q | q <;> rw [q] <;> decide
      refine x_r [(3, .new 43), (4, .lend [(7001, Zab s'_5, Zab s'_7)] [] [(true, .any), (false, slS false ([(⟨#[97]⟩ : ByteArray), (⟨#[98]⟩ : ByteArray), (⟨#[105]⟩ : ByteArray), (⟨#[116]⟩ : ByteArray), (⟨#[110]⟩ : ByteArray)]))] true (Sv v_7)), (6, .call [(false, .ptr false [Zae false ss_6]), (true, .any)] true (Zai true (feA (Ink.mk ss_6) points))), (8, .new 48), (9, .new 49)] [0, 1, 4, 5, 6, 7, 8] [4, 5, 6, 49, 7001] [.ref 7001 0, I points, .ref 4 0, .ref 5 0, .ref 6 0, .ptr true [Zae true ss_2], I k] [some (.box [I 0, Zcr]), some (.box [Zcr]), some (.box [I (6 + v_1), .arr 49]), some (.arr 2 (ts.length + 1) (Zgb ts.length (Zch true ts) (Zgm [Sv v_7, Zai true (feA (Ink.mk ss_6) points)] 2))), some (Zab s'_7)] [Zbb Tryz.prog 33 [.ref 7001 0, slS false ([(⟨#[97]⟩ : ByteArray), (⟨#[98]⟩ : ByteArray), (⟨#[105]⟩ : ByteArray), (⟨#[116]⟩ : ByteArray), (⟨#[110]⟩ : ByteArray)])] (Zaf [(7001, Zab s'_5)]) true (Sv v_7) (Zaf [(7001, Zab s'_7)]) ∧ ((false = true → true = true) ∧ 1 = 1 ∧ 5 = (([(⟨#[97]⟩ : ByteArray), (⟨#[98]⟩ : ByteArray), (⟨#[105]⟩ : ByteArray), (⟨#[116]⟩ : ByteArray), (⟨#[110]⟩ : ByteArray)]).length) ∧ ∀ i_, i_ < (([(⟨#[97]⟩ : ByteArray), (⟨#[98]⟩ : ByteArray), (⟨#[105]⟩ : ByteArray), (⟨#[116]⟩ : ByteArray), (⟨#[110]⟩ : ByteArray)]).length) → (Zgm [Sv (⟨#[97]⟩ : ByteArray), Sv (⟨#[98]⟩ : ByteArray), Sv (⟨#[105]⟩ : ByteArray), Sv (⟨#[116]⟩ : ByteArray), Sv (⟨#[110]⟩ : ByteArray)] 1) i_ = (fS ([(⟨#[97]⟩ : ByteArray), (⟨#[98]⟩ : ByteArray), (⟨#[105]⟩ : ByteArray), (⟨#[116]⟩ : ByteArray), (⟨#[110]⟩ : ByteArray)])) i_ ∨ (AV.idsL ((fS ([(⟨#[97]⟩ : ByteArray), (⟨#[98]⟩ : ByteArray), (⟨#[105]⟩ : ByteArray), (⟨#[116]⟩ : ByteArray), (⟨#[110]⟩ : ByteArray)])) i_) = [] ∧ leL (fun _ => none) false ((Zgm [Sv (⟨#[97]⟩ : ByteArray), Sv (⟨#[98]⟩ : ByteArray), Sv (⟨#[105]⟩ : ByteArray), Sv (⟨#[116]⟩ : ByteArray), Sv (⟨#[110]⟩ : ByteArray)] 1) i_) ((fS ([(⟨#[97]⟩ : ByteArray), (⟨#[98]⟩ : ByteArray), (⟨#[105]⟩ : ByteArray), (⟨#[116]⟩ : ByteArray), (⟨#[110]⟩ : ByteArray)])) i_))) ∧ (((Zab s'_5 : Ob) = Zab s'_5 ∨ Zhk Zgd true (Zab s'_5) (Zab s'_5)) ∧ Zbc false (Zab s'_5)) ∧ True, _ ∧ ((false = true → true = true) ∧ AV.idsL [Zae false ss_6] = [] ∧ ((false = true → true = true) ∧ 1 = 1 ∧ ss_6.length = ss_6.length ∧ ∀ i_, i_ < ss_6.length → AV.idsL ((Zbl false ss_6) i_) = [] ∧ leL (Zaf [(8032, Zbg ss_6)]) true ((Zhc 8032 ss_6) i_) ((Zbl false ss_6) i_)) ∧ ([] : List AV) = []) ∧ True, (ts.length + 1) * 40 ≤ 140737488355328] ⟨⟨hc7, ⟨(fun h => by cases h), rfl, (by first | rfl | (simp; done) | (simp; omega) | omega), fun i_ hi_ => .inl (match i_, hi_ with | 0, _ => rfl | 1, _ => rfl | 2, _ => rfl | 3, _ => rfl | 4, _ => rfl | (i + 5), h => absurd h (by simp))⟩, ⟨.inl rfl, (by simp [Zbc, Zag, Zaj, Zfc])⟩, trivial⟩, ⟨(Ztp (Ink.mk ss_6) points (by first | assumption | (simp only [*]; done)) om om), ⟨(fun h => by cases h), rfl, ⟨⟨(fun h => by cases h), rfl, rfl, Zkb _ _ rfl⟩, rfl⟩⟩, trivial⟩, om, trivial⟩ ?_
      refine Zbo 1 ?_
      refine Zad ?_
      refine Zcw [] (T := [(0, .ref 7001 0), (1, I points), (4, .ref 4 0), (5, .ref 5 0), (6, .ref 6 0), (7, .ptr true [Zae true ss_2]), (8, I k)]) (O := [(4, .box [I 0, Zcr]), (5, .box [Zcr]), (6, .box [I (6 + v_1), .arr 49]), (49, Zdu true (ts ++ [(Template.mk v_7 (feA (Ink.mk ss_6) points))])), (7001, Zab s'_7)]) rfl (⟨.inl rfl, .inl rfl, .inl rfl, .inl rfl, .inl rfl, .inl rfl, .inl rfl, trivial⟩) (⟨.inl rfl, .inl rfl, .inl rfl, .inr ⟨rfl, (by first | rfl | (simp; done) | (simp; omega) | omega), fun i_ hi_ => .inl (Zcm (enc := (Zev true)) (xs := ts) rfl i_ hi_)⟩, .inl rfl, trivial⟩) ?_
      refine x_r [] [0, 1, 4, 5, 6, 7, 8] [4, 5, 6, 49, 7001] [.ref 7001 0, I points, .ref 4 0, .ref 5 0, .ref 6 0, .ptr true [Zae true ss_2], I (k - 1)] [some (.box [I 0, Zcr]), some (.box [Zcr]), some (.box [I (6 + v_1), .arr 49]), some (Zdu true (ts ++ [(Template.mk v_7 (feA (Ink.mk ss_6) points))])), some (Zab s'_7)] [inR .i64 (k - 1)] ⟨(Zac om om), trivial⟩ ?_
      refine Zcl [(761, 49)] (T := [(0, .ref 7001 0), (1, I points), (4, .ref 4 0), (5, .ref 5 0), (6, .ref 6 0), (7, .ptr true [Zae true ss_2]), (8, I (k - 1))]) (O := [(4, .box [I 0, Zcr]), (5, .box [Zcr]), (6, .box [I (6 + v_1), .arr 761]), (761, Zdu true (ts ++ [(Template.mk v_7 (feA (Ink.mk ss_6) points))])), (7001, Zab s'_7)]) rfl (⟨.inl rfl, .inl rfl, .inl rfl, .inl rfl, .inl rfl, .inl rfl, .inl rfl, trivial⟩) (⟨.inl rfl, .inl rfl, .inl rfl, .inl rfl, .inl rfl, trivial⟩) (Zbh ((k - 1), s'_7, (ts ++ [(Template.mk v_7 (feA (Ink.mk ss_6) points))])) rfl (show (Zcc s'_7 ∧ s'_7.code = s.code ∧ s.atx ≤ s'_7.atx ∧ s'_7.atx ≤ s.atx + 4000 + 8000 * (5 - (k - 1))) ∧ (0 ≤ (k - 1) ∧ (k - 1) ≤ 5) ∧ (((ts ++ [(Template.mk v_7 (feA (Ink.mk ss_6) points))]).length : Int) + (k - 1) ≤ 5) ∧ (∀ t ∈ (ts ++ [(Template.mk v_7 (feA (Ink.mk ss_6) points))]), Zfn t = true) ∧ True from ⟨(by exact ⟨by assumption, by first | assumption | rfl | (simp only [*]; done), by omega, by omega⟩), om, (by first | omega | (simp; omega)), (by first | exact hz0 | (intro t ht; rcases List.mem_append.1 ht with ht | ht; (exact hz0 t ht); (simp only [List.mem_singleton] at ht; subst ht; exact Znx hlab (by assumption)))), trivial⟩) (by first | (show ((k - 1).toNat : Nat) < k.toNat; omega) | (dsimp only; omega)))
     subst h2
     refine x_q [(1, .lend [(7001, Zab s'_4, Zab s'_5)] [] [(true, .any), (true, .any)] true (Bv false))] [0, 1, 4, 5, 6, 7, 8, 9, 26] [4, 5, 6, 9, 761, 7001, 8011, 8012] [Zbb Tryz.prog 31 [.ref 7001 0, I 3] (Zaf [(7001, Zab s'_4)]) true (Bv false) (Zaf [(7001, Zab s'_5)]) ∧ (((Zab s'_4 : Ob) = Zab s'_4 ∨ Zhk Zgd true (Zab s'_4) (Zab s'_4)) ∧ Zbc false (Zab s'_4)) ∧ True] ⟨⟨hc5, ⟨.inl rfl, (by simp [Zbc, Zag, Zaj, Zfc])⟩, trivial⟩, trivial⟩ ?_
     refine Zad ?_
     refine Zkr ?_
     refine Zbv ?_
     refine Zad ?_
     refine Zat ?_
     refine Zat ?_
     by_cases h5 : (ss_4.length : Int) = 0
     ·refine x_q [(3, .dec true)] [0, 1, 4, 5, 6, 7, 8, 9, 39] [4, 5, 6, 9, 761, 7001, 8011, 8012] [_] ⟨h5, trivial⟩ ?_
      refine Zad ?_
      refine Zfl ?_
      refine Zde ?_
      refine Zax ?_
      refine Zay ?_
      refine Zad ?_
      refine x_r [] [0, 1, 4, 5, 6, 7, 8] [4, 5, 6, 761, 7001] [.ref 7001 0, I points, .ref 4 0, .ref 5 0, .ref 6 0, .ptr true [Zae true ss_2], I (k - 1)] [some (.box [I 0, Zcr]), some (.box [Zcr]), some (.box [I (6 + v_1), .arr 761]), some (Zdu true ts), some (Zab s'_5)] [inR .i64 (k - 1)] ⟨(Zac om om), trivial⟩ ?_
      exact Zbh ((k - 1), s'_5, ts) rfl (show (Zcc s'_5 ∧ s'_5.code = s.code ∧ s.atx ≤ s'_5.atx ∧ s'_5.atx ≤ s.atx + 4000 + 8000 * (5 - (k - 1))) ∧ (0 ≤ (k - 1) ∧ (k - 1) ≤ 5) ∧ ((ts.length : Int) + (k - 1) ≤ 5) ∧ (∀ t ∈ ts, Zfn t = true) ∧ True from ⟨(by exact ⟨by assumption, by first | assumption | rfl | (simp only [*]; done), by omega, by omega⟩), om, (by first | omega | (simp; omega)), (by first | exact hz0 | (intro t ht; rcases List.mem_append.1 ht with ht | ht; (exact hz0 t ht); (simp only [List.mem_singleton] at ht; subst ht; exact Znx hlab (by assumption)))), trivial⟩) (by first | (show ((k - 1).toNat : Nat) < k.toNat; omega) | (dsimp only; omega))
     have hss : 1 ≤ ss_4.length := by omega
     have hpm := mul36 (a := ss_4.length) (p := points) om hp
     have hfa := feA_72 (x := Ink.mk ss_4) (n := points) (by first | exact hokO | assumption) om hss (by show (ss_4.length : Int) * points ≤ 72; omega)
     by_cases h6 : 72 < ((ss_4.length : Int) * points)
     ·refine x_q [(3, .dec false), (10, .dec true)] [0, 1, 4, 5, 6, 7, 8, 9, 39] [4, 5, 6, 9, 761, 7001, 8011, 8012] [_, inR .i64 ((ss_4.length : Int) * points), _] ⟨h5, (Zac om om), h6, trivial⟩ ?_
      refine Zad ?_
      refine Zfl ?_
      refine Zde ?_
      refine Zax ?_
      refine Zay ?_
      refine Zad ?_
      refine x_r [] [0, 1, 4, 5, 6, 7, 8] [4, 5, 6, 761, 7001] [.ref 7001 0, I points, .ref 4 0, .ref 5 0, .ref 6 0, .ptr true [Zae true ss_2], I (k - 1)] [some (.box [I 0, Zcr]), some (.box [Zcr]), some (.box [I (6 + v_1), .arr 761]), some (Zdu true ts), some (Zab s'_5)] [inR .i64 (k - 1)] ⟨(Zac om om), trivial⟩ ?_
      exact Zbh ((k - 1), s'_5, ts) rfl (show (Zcc s'_5 ∧ s'_5.code = s.code ∧ s.atx ≤ s'_5.atx ∧ s'_5.atx ≤ s.atx + 4000 + 8000 * (5 - (k - 1))) ∧ (0 ≤ (k - 1) ∧ (k - 1) ≤ 5) ∧ ((ts.length : Int) + (k - 1) ≤ 5) ∧ (∀ t ∈ ts, Zfn t = true) ∧ True from ⟨(by exact ⟨by assumption, by first | assumption | rfl | (simp only [*]; done), by omega, by omega⟩), om, (by first | omega | (simp; omega)), (by first | exact hz0 | (intro t ht; rcases List.mem_append.1 ht with ht | ht; (exact hz0 t ht); (simp only [List.mem_singleton] at ht; subst ht; exact Znx hlab (by assumption)))), trivial⟩) (by first | (show ((k - 1).toNat : Nat) < k.toNat; omega) | (dsimp only; omega))
     refine x_q [(3, .dec false), (10, .dec false)] [0, 1, 4, 5, 6, 7, 8, 9, 39] [4, 5, 6, 9, 761, 7001, 8011, 8012] [_, inR .i64 ((ss_4.length : Int) * points), _] ⟨h5, (Zac om om), h6, trivial⟩ ?_
     refine Zad ?_
     refine Zkr ?_
     refine Zbv ?_
     refine Zad ?_
     obtain ⟨v_8, s'_8, hx8_0, hx8_1, hx8_2, hx8_3, hx8_4, hc8⟩ := Yio s'_5 ([(⟨#[97]⟩ : ByteArray), (⟨#[98]⟩ : ByteArray), (⟨#[105]⟩ : ByteArray), (⟨#[116]⟩ : ByteArray), (⟨#[110]⟩ : ByteArray)]) (by first | assumption | (simp only [Zcc] at *; simp_all; done)) om (by decide)
     have hlab : Zco v_8 = true := by have q := hx8_4; simp only [List.mem_cons, List.not_mem_nil, or_false] at q; rcases q with q | q | q | q | q <;> rw [q] <;> decide
     refine x_r [(3, .new 43), (4, .lend [(7001, Zab s'_5, Zab s'_8)] [] [(true, .any), (false, slS false ([(⟨#[97]⟩ : ByteArray), (⟨#[98]⟩ : ByteArray), (⟨#[105]⟩ : ByteArray), (⟨#[116]⟩ : ByteArray), (⟨#[110]⟩ : ByteArray)]))] true (Sv v_8)), (6, .call [(false, .ptr false [Zae false ss_4]), (true, .any)] true (Zai true (feA (Ink.mk ss_4) points))), (8, .new 48), (9, .new 49)] [0, 1, 4, 5, 6, 7, 8] [4, 5, 6, 49, 7001] [.ref 7001 0, I points, .ref 4 0, .ref 5 0, .ref 6 0, .ptr true [Zae true ss_2], I k] [some (.box [I 0, Zcr]), some (.box [Zcr]), some (.box [I (6 + v_1), .arr 49]), some (.arr 2 (ts.length + 1) (Zgb ts.length (Zch true ts) (Zgm [Sv v_8, Zai true (feA (Ink.mk ss_4) points)] 2))), some (Zab s'_8)] [Zbb Tryz.prog 33 [.ref 7001 0, slS false ([(⟨#[97]⟩ : ByteArray), (⟨#[98]⟩ : ByteArray), (⟨#[105]⟩ : ByteArray), (⟨#[116]⟩ : ByteArray), (⟨#[110]⟩ : ByteArray)])] (Zaf [(7001, Zab s'_5)]) true (Sv v_8) (Zaf [(7001, Zab s'_8)]) ∧ ((false = true → true = true) ∧ 1 = 1 ∧ 5 = (([(⟨#[97]⟩ : ByteArray), (⟨#[98]⟩ : ByteArray), (⟨#[105]⟩ : ByteArray), (⟨#[116]⟩ : ByteArray), (⟨#[110]⟩ : ByteArray)]).length) ∧ ∀ i_, i_ < (([(⟨#[97]⟩ : ByteArray), (⟨#[98]⟩ : ByteArray), (⟨#[105]⟩ : ByteArray), (⟨#[116]⟩ : ByteArray), (⟨#[110]⟩ : ByteArray)]).length) → (Zgm [Sv (⟨#[97]⟩ : ByteArray), Sv (⟨#[98]⟩ : ByteArray), Sv (⟨#[105]⟩ : ByteArray), Sv (⟨#[116]⟩ : ByteArray), Sv (⟨#[110]⟩ : ByteArray)] 1) i_ = (fS ([(⟨#[97]⟩ : ByteArray), (⟨#[98]⟩ : ByteArray), (⟨#[105]⟩ : ByteArray), (⟨#[116]⟩ : ByteArray), (⟨#[110]⟩ : ByteArray)])) i_ ∨ (AV.idsL ((fS ([(⟨#[97]⟩ : ByteArray), (⟨#[98]⟩ : ByteArray), (⟨#[105]⟩ : ByteArray), (⟨#[116]⟩ : ByteArray), (⟨#[110]⟩ : ByteArray)])) i_) = [] ∧ leL (fun _ => none) false ((Zgm [Sv (⟨#[97]⟩ : ByteArray), Sv (⟨#[98]⟩ : ByteArray), Sv (⟨#[105]⟩ : ByteArray), Sv (⟨#[116]⟩ : ByteArray), Sv (⟨#[110]⟩ : ByteArray)] 1) i_) ((fS ([(⟨#[97]⟩ : ByteArray), (⟨#[98]⟩ : ByteArray), (⟨#[105]⟩ : ByteArray), (⟨#[116]⟩ : ByteArray), (⟨#[110]⟩ : ByteArray)])) i_))) ∧ (((Zab s'_5 : Ob) = Zab s'_5 ∨ Zhk Zgd true (Zab s'_5) (Zab s'_5)) ∧ Zbc false (Zab s'_5)) ∧ True, _ ∧ ((false = true → true = true) ∧ AV.idsL [Zae false ss_4] = [] ∧ ((false = true → true = true) ∧ 1 = 1 ∧ ss_4.length = ss_4.length ∧ ∀ i_, i_ < ss_4.length → AV.idsL ((Zbl false ss_4) i_) = [] ∧ leL (Zaf [(8012, Zbg ss_4)]) true ((Zhc 8012 ss_4) i_) ((Zbl false ss_4) i_)) ∧ ([] : List AV) = []) ∧ True, (ts.length + 1) * 40 ≤ 140737488355328] ⟨⟨hc8, ⟨(fun h => by cases h), rfl, (by first | rfl | (simp; done) | (simp; omega) | omega), fun i_ hi_ => .inl (match i_, hi_ with | 0, _ => rfl | 1, _ => rfl | 2, _ => rfl | 3, _ => rfl | 4, _ => rfl | (i + 5), h => absurd h (by simp))⟩, ⟨.inl rfl, (by simp [Zbc, Zag, Zaj, Zfc])⟩, trivial⟩, ⟨(Ztp (Ink.mk ss_4) points (by first | assumption | (simp only [*]; done)) om om), ⟨(fun h => by cases h), rfl, ⟨⟨(fun h => by cases h), rfl, rfl, Zkb _ _ rfl⟩, rfl⟩⟩, trivial⟩, om, trivial⟩ ?_
     refine Zbo 1 ?_
     refine Zad ?_
     refine Zcw [] (T := [(0, .ref 7001 0), (1, I points), (4, .ref 4 0), (5, .ref 5 0), (6, .ref 6 0), (7, .ptr true [Zae true ss_2]), (8, I k)]) (O := [(4, .box [I 0, Zcr]), (5, .box [Zcr]), (6, .box [I (6 + v_1), .arr 49]), (49, Zdu true (ts ++ [(Template.mk v_8 (feA (Ink.mk ss_4) points))])), (7001, Zab s'_8)]) rfl (⟨.inl rfl, .inl rfl, .inl rfl, .inl rfl, .inl rfl, .inl rfl, .inl rfl, trivial⟩) (⟨.inl rfl, .inl rfl, .inl rfl, .inr ⟨rfl, (by first | rfl | (simp; done) | (simp; omega) | omega), fun i_ hi_ => .inl (Zcm (enc := (Zev true)) (xs := ts) rfl i_ hi_)⟩, .inl rfl, trivial⟩) ?_
     refine x_r [] [0, 1, 4, 5, 6, 7, 8] [4, 5, 6, 49, 7001] [.ref 7001 0, I points, .ref 4 0, .ref 5 0, .ref 6 0, .ptr true [Zae true ss_2], I (k - 1)] [some (.box [I 0, Zcr]), some (.box [Zcr]), some (.box [I (6 + v_1), .arr 49]), some (Zdu true (ts ++ [(Template.mk v_8 (feA (Ink.mk ss_4) points))])), some (Zab s'_8)] [inR .i64 (k - 1)] ⟨(Zac om om), trivial⟩ ?_
     refine Zcl [(761, 49)] (T := [(0, .ref 7001 0), (1, I points), (4, .ref 4 0), (5, .ref 5 0), (6, .ref 6 0), (7, .ptr true [Zae true ss_2]), (8, I (k - 1))]) (O := [(4, .box [I 0, Zcr]), (5, .box [Zcr]), (6, .box [I (6 + v_1), .arr 761]), (761, Zdu true (ts ++ [(Template.mk v_8 (feA (Ink.mk ss_4) points))])), (7001, Zab s'_8)]) rfl (⟨.inl rfl, .inl rfl, .inl rfl, .inl rfl, .inl rfl, .inl rfl, .inl rfl, trivial⟩) (⟨.inl rfl, .inl rfl, .inl rfl, .inl rfl, .inl rfl, trivial⟩) (Zbh ((k - 1), s'_8, (ts ++ [(Template.mk v_8 (feA (Ink.mk ss_4) points))])) rfl (show (Zcc s'_8 ∧ s'_8.code = s.code ∧ s.atx ≤ s'_8.atx ∧ s'_8.atx ≤ s.atx + 4000 + 8000 * (5 - (k - 1))) ∧ (0 ≤ (k - 1) ∧ (k - 1) ≤ 5) ∧ (((ts ++ [(Template.mk v_8 (feA (Ink.mk ss_4) points))]).length : Int) + (k - 1) ≤ 5) ∧ (∀ t ∈ (ts ++ [(Template.mk v_8 (feA (Ink.mk ss_4) points))]), Zfn t = true) ∧ True from ⟨(by exact ⟨by assumption, by first | assumption | rfl | (simp only [*]; done), by omega, by omega⟩), om, (by first | omega | (simp; omega)), (by first | exact hz0 | (intro t ht; rcases List.mem_append.1 ht with ht | ht; (exact hz0 t ht); (simp only [List.mem_singleton] at ht; subst ht; exact Znx hlab (by assumption)))), trivial⟩) (by first | (show ((k - 1).toNat : Nat) < k.toNat; omega) | (dsimp only; omega)))
    refine x_r [(1, .dec false)] [0, 1, 4, 5, 6, 7, 8, 20] [4, 5, 6, 761, 7001] [.ref 7001 0, I points, .ref 4 0, .ref 5 0, .ref 6 0, .ptr true [Zae true ss_2], I k, Bv false] [some (.box [I 0, Zcr]), some (.box [Zcr]), some (.box [I (6 + v_1), .arr 761]), some (Zdu true ts), some (Zab src)] [_] ⟨h1, trivial⟩ ?_
    refine Zad ?_
    refine Zcd rfl ?_
    refine Zde ?_
    refine Zax ?_
    refine Zbe ?_
    refine Zay ?_
    refine Zad ?_
    refine xR [] [4, 5] [4, 5, 761, 7001] [.ref 4 0, .ref 5 0] [some (.box [I (6 + v_1), .arr 761]), some (.box [Zae true ss_2]), some (Zdu true ts), some (Zab src)] [] trivial ?_
    refine Zem ?_
    refine Zcz ((Store.mk (6 + v_1) ts), (Ink.mk ss_2), src) (show (Zcc src) ∧ (src.code = s.code) ∧ (s.atx + 0 ≤ src.atx ∧ src.atx ≤ s.atx + 60000) ∧ (6 ≤ (Store.mk (6 + v_1) ts).Band ∧ (Store.mk (6 + v_1) ts).Band ≤ 15) ∧ ((Store.mk (6 + v_1) ts).Templates.length ≤ 5) ∧ (∀ t ∈ (Store.mk (6 + v_1) ts).Templates, Zfn t = true) ∧ (Zbp (Ink.mk ss_2) = true) ∧ ((Ink.mk ss_2).Strokes.length ≤ 3) ∧ (True) from ⟨(by first | omega | (dsimp only; omega) | assumption | exact hs0.1 | exact hs0.2.1), (by first | omega | (dsimp only; omega) | assumption | exact hs0.1 | exact hs0.2.1), (by first | omega | (dsimp only; omega) | assumption | exact hs0.1 | exact hs0.2.1), (by first | omega | (dsimp only; omega) | assumption | exact hs0.1 | exact hs0.2.1), (by first | omega | (dsimp only; omega) | assumption | exact hs0.1 | exact hs0.2.1), (by first | omega | (dsimp only; omega) | assumption | exact hs0.1 | exact hs0.2.1), (by first | omega | (dsimp only; omega) | assumption | exact hs0.1 | exact hs0.2.1), (by first | omega | (dsimp only; omega) | assumption | exact hs0.1 | exact hs0.2.1), trivial⟩) (⟨.inl rfl, trivial⟩) (.tup [.agg [I (6 + v_1), .arr 761], .agg [Zae true ss_2]]) (by kernel_rfl) (.inr ⟨⟨rfl, ⟨⟨(fun _ => rfl), rfl, rfl, fun i _ => .inl rfl⟩, rfl⟩⟩, ⟨⟨⟨(fun _ => rfl), rfl, rfl, fun i _ => .inl rfl⟩, rfl⟩, rfl⟩⟩) (fun _ => rfl) (fun _ => (by simp [Zaj, Zag, Zck, Zdz]))
  obtain ⟨⟨v, ik, s'⟩, ⟨hh0, hh1, hh2, hh3, hh4, hh5, hh6, hh7, _⟩, hc⟩ := hh
  exact ⟨v, ik, s', hh0, hh1, hh2, hh3, hh4, hh5, hh6, hh7, hc⟩
theorem Ydh (code : List Int) (hc : (∀ j, j < code.length → 0 ≤ at_ code j ∧ at_ code j ≤ 255) ∧ code.length ≤ 4611686018427387904) : ∃ (v : Store) (ik : Ink) (t : Setting), (6 ≤ v.Band ∧ v.Band ≤ 15) ∧ (v.Templates.length ≤ 5) ∧ (∀ x_ ∈ v.Templates, Zfn x_ = true) ∧ (Zbp ik = true) ∧ (ik.Strokes.length ≤ 3) ∧ ((2 ≤ t.Points ∧ t.Points ≤ 6) ∧ (1 ≤ t.Most ∧ t.Most ≤ 4) ∧ (0 ≤ t.Pen ∧ t.Pen ≤ 59)) ∧ Con Tryz.prog 5 [Zlq false code] true (.tup [Zgt v, .agg [Zae true ik.Strokes], Zeg t]) := by
 have hh : ∃ r : Store × Ink × Setting, ((6 ≤ r.1.Band ∧ r.1.Band ≤ 15) ∧ (r.1.Templates.length ≤ 5) ∧ (∀ x_ ∈ r.1.Templates, Zfn x_ = true) ∧ (Zbp r.2.1 = true) ∧ (r.2.1.Strokes.length ≤ 3) ∧ ((2 ≤ r.2.2.Points ∧ r.2.2.Points ≤ 6) ∧ (1 ≤ r.2.2.Most ∧ r.2.2.Most ≤ 4) ∧ (0 ≤ r.2.2.Pen ∧ r.2.2.Pen ≤ 59)) ∧ (True)) ∧ Zbb Tryz.prog 5 [Zlq false code] (Zaf []) true (.tup [Zgt r.1, .agg [Zae true r.2.1.Strokes], Zeg r.2.2]) (Zaf []) := by
  refine Zdv (Φ := fun r : Store × Ink × Setting => (6 ≤ r.1.Band ∧ r.1.Band ≤ 15) ∧ (r.1.Templates.length ≤ 5) ∧ (∀ x_ ∈ r.1.Templates, Zfn x_ = true) ∧ (Zbp r.2.1 = true) ∧ (r.2.1.Strokes.length ≤ 3) ∧ ((2 ≤ r.2.2.Points ∧ r.2.2.Points ≤ 6) ∧ (1 ≤ r.2.2.Most ∧ r.2.2.Most ≤ 4) ∧ (0 ≤ r.2.2.Pen ∧ r.2.2.Pen ≤ 59)) ∧ (True)) [] (fun r => []) (fn := Tryz.f5) (nt := 30) Tryz.func5 rfl rfl (args := [Zlq false code]) rfl (Zbd (.inl ⟨rfl, Zfc false _⟩) Zdp) (res := fun r => .tup [Zgt r.1, .agg [Zae true r.2.1.Strokes], Zeg r.2.2]) ?_
  refine xQ [(0, .new 2), (1, .new 3), (2, .new 4)] [0, 2, 3, 4] [2, 3, 4] [] trivial ?_
  refine Zat ?_
  obtain ⟨s'_1, hx1_0, hc1⟩ := Yek code
  have hsrc : Zcc s'_1 := ⟨by rw [hx1_0.1]; exact hc.1, by rw [hx1_0.2]; decide, by rw [hx1_0.1]; exact hc.2⟩
  have hat0 := hx1_0.2
  refine x_q [(1, .lend [] [(7001, Zab s'_1)] [(true, .any)] false (.ref 7001 0))] [2, 3, 4, 5] [2, 3, 4, 7001] [Zbb Tryz.prog 11 [Zlq false code] (Zaf []) false (.ref 7001 0) (Zaf [(7001, Zab s'_1)]) ∧ True] ⟨⟨hc1, trivial⟩, trivial⟩ ?_
  refine Zad ?_
  refine Zat ?_
  obtain ⟨v_2, s'_2, hx2_0, hx2_1, hx2_2, hx2_3, hc2⟩ := Zel s'_1 5 (by first | assumption | (simp only [Zcc] at *; simp_all; done)) om
  obtain ⟨v_3, s'_3, hx3_0, hx3_1, hx3_2, hx3_3, hc3⟩ := Zel s'_2 4 (by first | assumption | (simp only [Zcc] at *; simp_all; done)) om
  obtain ⟨v_4, s'_4, hx4_0, hx4_1, hx4_2, hx4_3, hc4⟩ := Zel s'_3 60 (by first | assumption | (simp only [Zcc] at *; simp_all; done)) om
  refine x_q [(1, .lend [(7001, Zab s'_1, Zab s'_2)] [] [(true, .any), (true, .any)] true (I v_2)), (4, .lend [(7001, Zab s'_2, Zab s'_3)] [] [(true, .any), (true, .any)] true (I v_3)), (7, .lend [(7001, Zab s'_3, Zab s'_4)] [] [(true, .any), (true, .any)] true (I v_4)), (9, .new 6)] [2, 3, 4, 5, 6] [2, 3, 4, 6, 7001] [Zbb Tryz.prog 12 [.ref 7001 0, I 5] (Zaf [(7001, Zab s'_1)]) true (I v_2) (Zaf [(7001, Zab s'_2)]) ∧ (((Zab s'_1 : Ob) = Zab s'_1 ∨ Zhk Zgd true (Zab s'_1) (Zab s'_1)) ∧ Zbc false (Zab s'_1)) ∧ True, inR .i64 (2 + v_2), Zbb Tryz.prog 12 [.ref 7001 0, I 4] (Zaf [(7001, Zab s'_2)]) true (I v_3) (Zaf [(7001, Zab s'_3)]) ∧ (((Zab s'_2 : Ob) = Zab s'_2 ∨ Zhk Zgd true (Zab s'_2) (Zab s'_2)) ∧ Zbc false (Zab s'_2)) ∧ True, inR .i64 (1 + v_3), Zbb Tryz.prog 12 [.ref 7001 0, I 60] (Zaf [(7001, Zab s'_3)]) true (I v_4) (Zaf [(7001, Zab s'_4)]) ∧ (((Zab s'_3 : Ob) = Zab s'_3 ∨ Zhk Zgd true (Zab s'_3) (Zab s'_3)) ∧ Zbc false (Zab s'_3)) ∧ True] ⟨⟨hc2, ⟨.inl rfl, (by simp [Zbc, Zag, Zaj, Zfc])⟩, trivial⟩, (Zac om om), ⟨hc3, ⟨.inl rfl, (by simp [Zbc, Zag, Zaj, Zfc])⟩, trivial⟩, (Zac om om), ⟨hc4, ⟨.inl rfl, (by simp [Zbc, Zag, Zaj, Zfc])⟩, trivial⟩, trivial⟩ ?_
  refine Zad ?_
  refine Zat ?_
  obtain ⟨v_5, ik_5, s'_5, hx5_0, hx5_1, hx5_2, hx5_3, hx5_4, hx5_5, hx5_6, hx5_7, hc5⟩ := Yim s'_4 (2 + v_2) (by first | assumption | (simp only [Zcc] at *; simp_all; done)) om om
  refine x_q [(3, .lend [(7001, Zab s'_4, Zab s'_5)] [] [(true, .any), (true, .any)] true (.tup [Zgt v_5, .agg [Zae true ik_5.Strokes]])), (7, .new 7), (8, .new 8)] [2, 3, 4, 6, 7, 8] [2, 3, 4, 6, 7, 8] [Zbb Tryz.prog 13 [.ref 7001 0, I (2 + v_2)] (Zaf [(7001, Zab s'_4)]) true (.tup [Zgt v_5, .agg [Zae true ik_5.Strokes]]) (Zaf [(7001, Zab s'_5)]) ∧ (((Zab s'_4 : Ob) = Zab s'_4 ∨ Zhk Zgd true (Zab s'_4) (Zab s'_4)) ∧ Zbc false (Zab s'_4)) ∧ True] ⟨⟨hc5, ⟨.inl rfl, (by simp [Zbc, Zag, Zaj, Zfc])⟩, trivial⟩, trivial⟩ ?_
  refine Zad ?_
  refine xR [] [2, 3, 4] [2, 3, 4] [.ref 2 0, .ref 3 0, .ref 4 0] [some (Zpa v_5), some (.box [Zae true ik_5.Strokes]), some (.box [I (2 + v_2), I (1 + v_3), I v_4])] [] trivial ?_
  refine Zem ?_
  refine Zcz (v_5, ik_5, (Setting.mk (2 + v_2) (1 + v_3) v_4)) (show (6 ≤ v_5.Band ∧ v_5.Band ≤ 15) ∧ (v_5.Templates.length ≤ 5) ∧ (∀ x_ ∈ v_5.Templates, Zfn x_ = true) ∧ (Zbp ik_5 = true) ∧ (ik_5.Strokes.length ≤ 3) ∧ ((2 ≤ (Setting.mk (2 + v_2) (1 + v_3) v_4).Points ∧ (Setting.mk (2 + v_2) (1 + v_3) v_4).Points ≤ 6) ∧ (1 ≤ (Setting.mk (2 + v_2) (1 + v_3) v_4).Most ∧ (Setting.mk (2 + v_2) (1 + v_3) v_4).Most ≤ 4) ∧ (0 ≤ (Setting.mk (2 + v_2) (1 + v_3) v_4).Pen ∧ (Setting.mk (2 + v_2) (1 + v_3) v_4).Pen ≤ 59)) ∧ (True) from ⟨(by first | assumption | omega | (dsimp only; omega)), (by first | assumption | omega | (dsimp only; omega)), (by first | assumption | omega | (dsimp only; omega)), (by first | assumption | omega | (dsimp only; omega)), (by first | assumption | omega | (dsimp only; omega)), (by first | assumption | omega | (dsimp only; omega)), trivial⟩) (trivial) (.tup [Zgt v_5, .agg [Zae true ik_5.Strokes], .agg [I (2 + v_2), I (1 + v_3), I v_4]]) (by kernel_rfl) (.inl rfl) (fun _ => rfl) (fun _ => (by simp [Zaj, Zag, Zck, Zdz]))
 obtain ⟨⟨v, ik, t⟩, ⟨hh0, hh1, hh2, hh3, hh4, hh5, _⟩, hc⟩ := hh
 exact ⟨v, ik, t, hh0, hh1, hh2, hh3, hh4, hh5, hc⟩
theorem Zcy (n : Int) (low : Int) (high : Int) : Con Tryz.prog 35 [I n, I low, I high] true (Bv (inB n low high)) := by
  refine Zbu (fn := Tryz.f35) (nt := 15) Tryz.func35 rfl rfl rfl rfl (by simp [Zag, Zaj]) fun B hB => ?_
  refine aQ [] [0, 1, 2] [] [] hB trivial ?_
  refine Zah ?_
  by_cases h1 : low ≤ n
  ·refine Zdg [(2, .dec true)] [6] [] [Bv (decide (n ≤ high))] [] [_] hB ⟨h1, trivial⟩ ?_
   refine Zaa ?_
   refine Zam ?_
   refine Zan hB (Bv (decide (n ≤ high))) (by kernel_rfl) (.inl (by first | rfl | (refine congrArg Bv ?_; simp [inB, *]; done) | (refine congrArg Bv ?_; simp [inB, *]; omega) | (refine congrArg Bv ?_; simp_all [inB]; done) | (refine congrArg Bv ?_; simp_all [inB]; omega))) rfl (fun _ => trivial)
  refine Zdg [(2, .dec false)] [6] [] [Bv false] [] [_] hB ⟨h1, trivial⟩ ?_
  refine Zaa ?_
  refine Zam ?_
  refine Zan hB (Bv false) (by kernel_rfl) (.inl (by first | rfl | (refine congrArg Bv ?_; simp [inB, *]; done) | (refine congrArg Bv ?_; simp [inB, *]; omega) | (refine congrArg Bv ?_; simp_all [inB]; done) | (refine congrArg Bv ?_; simp_all [inB]; omega))) rfl (fun _ => trivial)
theorem Zra (c : Int) : Con Tryz.prog 113 [.val (.int .u8 c)] true (Bv (inB c 97 122)) := by
  refine Zbu (fn := Tryz.f113) (nt := 9) Tryz.func113 rfl rfl rfl rfl (by simp [Zag, Zaj]) fun B hB => ?_
  refine aQ [] [0] [] [] hB trivial ?_
  refine Zah ?_
  by_cases h1 : 97 ≤ c
  ·refine Zdg [(1, .dec true)] [2] [] [Bv (decide (c ≤ 122))] [] [_] hB ⟨h1, trivial⟩ ?_
   refine Zaa ?_
   refine Zam ?_
   refine Zan hB (Bv (decide (c ≤ 122))) (by kernel_rfl) (.inl (by first | rfl | (refine congrArg Bv ?_; simp [inB, *]; done) | (refine congrArg Bv ?_; simp [inB, *]; omega) | (refine congrArg Bv ?_; simp_all [inB]; done) | (refine congrArg Bv ?_; simp_all [inB]; omega))) rfl (fun _ => trivial)
  refine Zdg [(1, .dec false)] [2] [] [Bv false] [] [_] hB ⟨h1, trivial⟩ ?_
  refine Zaa ?_
  refine Zam ?_
  refine Zan hB (Bv false) (by kernel_rfl) (.inl (by first | rfl | (refine congrArg Bv ?_; simp [inB, *]; done) | (refine congrArg Bv ?_; simp [inB, *]; omega) | (refine congrArg Bv ?_; simp_all [inB]; done) | (refine congrArg Bv ?_; simp_all [inB]; omega))) rfl (fun _ => trivial)
def hasB (s : ByteArray) (n : Int) : Bool := s.data.toList.any fun x => decide ((x.toNat : Int) = n)
theorem one_byte {t : ByteArray} (h : t.size = 1) : ∃ c, t = ⟨#[c]⟩ := by
 obtain ⟨⟨l⟩⟩ := t
 cases l with
 | nil => cases h
 | cons c l =>
  cases l with
  | nil => exact ⟨c, rfl⟩
  | cons d l => simp [ByteArray.size] at h
theorem Yip (l : List UInt8) (c : UInt8) : decide (0 ≤ Lib.indexByte l c) = l.any fun x => decide ((x.toNat : Int) = bAt ⟨#[c]⟩ 0) := by
 rw [← Lib.contains_iff_indexByte, Bool.eq_iff_iff]
 simp [bAt, List.contains_iff_mem]
 constructor
 ·intro h; exact ⟨c, h, rfl⟩
 ·rintro ⟨x, hx, e⟩
  have : x = c := UInt8.toNat_inj.1 om
  exact this ▸ hx
theorem Yap (s t : ByteArray) (h : t.size = 1) : Con Tryz.prog 114 [Sv s, Sv t] true (Bv (hasB s (bAt t 0))) := by
 obtain ⟨c, rfl⟩ := one_byte h
 refine Zke (vals := [.string s, .string ⟨#[c]⟩]) fun w _ => ?_
 refine (Tryz.strings_Contains_one s c w).mono ?_
 rintro e w' ⟨rfl, rfl⟩
 refine ⟨?_, Below.refl _ _⟩
 simp only [Yip, hasB]
theorem Zlk (s : ByteArray) (ok : s.size ≤ 9223372036854775807) : Con Tryz.prog 71 [Sv s] true (Bv (Zco s)) := by
  refine Zbu (fn := Tryz.f71) (nt := 15) Tryz.func71 rfl rfl rfl rfl (by simp [Zag, Zaj]) fun B hB => ?_
  refine aQ [] [0] [] [] hB trivial ?_
  refine Zah ?_
  by_cases h1 : (s.size : Int) = 1
  ·rcases Bool.eq_false_or_eq_true (inB (bAt s 0) 97 122) with h2 | h2
   ·refine Zdg [(2, .dec true), (6, .call [(true, .any)] true (Bv true))] [2] [] [Bv true] [] [_, (0 : Int) ≤ 0 ∧ 0 < (s.size : Int), Con Tryz.prog 113 [.val (.int .u8 (bAt s 0))] true (Bv true) ∧ True] hB ⟨h1, ⟨om, om⟩, ⟨(Zap h2 (Zra (bAt s 0))), trivial⟩, trivial⟩ ?_
    refine Zaa ?_
    refine Zam ?_
    refine Zan hB (Bv true) (by kernel_rfl) (.inl (by first | (refine congrArg Bv ?_; simp_all [Zco, Zgl, inB]; done) | (refine congrArg Bv ?_; have hbd := Yiq s 0; rw [Bool.eq_iff_iff]; simp_all [Zco, hasB, Zgl, inB]; omega))) rfl (fun _ => trivial)
   refine Zdg [(2, .dec true), (6, .call [(true, .any)] true (Bv false)), (9, .call [(true, .any), (true, .any)] true (Bv (hasB (⟨#[48, 49, 50, 51, 52, 53, 54, 55, 56, 57, 43, 45, 42, 47, 61, 40, 41, 46, 44]⟩ : ByteArray) (bAt s 0))))] [2] [] [Bv (hasB (⟨#[48, 49, 50, 51, 52, 53, 54, 55, 56, 57, 43, 45, 42, 47, 61, 40, 41, 46, 44]⟩ : ByteArray) (bAt s 0))] [] [_, (0 : Int) ≤ 0 ∧ 0 < (s.size : Int), Con Tryz.prog 113 [.val (.int .u8 (bAt s 0))] true (Bv false) ∧ True, _ ∧ True] hB ⟨h1, ⟨om, om⟩, ⟨(Zap h2 (Zra (bAt s 0))), trivial⟩, ⟨(Yap (⟨#[48, 49, 50, 51, 52, 53, 54, 55, 56, 57, 43, 45, 42, 47, 61, 40, 41, 46, 44]⟩ : ByteArray) s om), trivial⟩, trivial⟩ ?_
   refine Zaa ?_
   refine Zam ?_
   refine Zan hB (Bv (hasB (⟨#[48, 49, 50, 51, 52, 53, 54, 55, 56, 57, 43, 45, 42, 47, 61, 40, 41, 46, 44]⟩ : ByteArray) (bAt s 0))) (by kernel_rfl) (.inl (by first | (refine congrArg Bv ?_; simp_all [Zco, Zgl, inB]; done) | (refine congrArg Bv ?_; have hbd := Yiq s 0; rw [Bool.eq_iff_iff]; simp_all [Zco, hasB, Zgl, inB]; omega))) rfl (fun _ => trivial)
  refine Zdg [(2, .dec false)] [2] [] [Bv false] [] [_] hB ⟨h1, trivial⟩ ?_
  refine Zaa ?_
  refine Zam ?_
  refine Zan hB (Bv false) (by kernel_rfl) (.inl (by first | (refine congrArg Bv ?_; simp_all [Zco, Zgl, inB]; done) | (refine congrArg Bv ?_; have hbd := Yiq s 0; rw [Bool.eq_iff_iff]; simp_all [Zco, hasB, Zgl, inB]; omega))) rfl (fun _ => trivial)
theorem Zyg (f : Feat) : Con Tryz.prog 154 [Zkc f] true (Bv (okF f)) := by
  refine Zbu (fn := Tryz.f154) (nt := 16) Tryz.func154 rfl rfl rfl rfl (by simp [Zag, Zaj]) fun B hB => ?_
  refine aQ [(0, .new 1)] [1] [1] [] hB trivial ?_
  refine Zah ?_
  rcases Bool.eq_false_or_eq_true (inB f.X 0 255) with h1 | h1
  ·rcases Bool.eq_false_or_eq_true (inB f.Y 0 255) with h2 | h2
   ·refine Zdg [(2, .call [(true, .any), (true, .any), (true, .any)] true (Bv true)), (6, .call [(true, .any), (true, .any), (true, .any)] true (Bv true)), (11, .call [(true, .any), (true, .any), (true, .any)] true (Bv (inB f.D 0 7)))] [2] [] [Bv (inB f.D 0 7)] [] [Con Tryz.prog 35 [I f.X, I 0, I 255] true (Bv true) ∧ True, Con Tryz.prog 35 [I f.Y, I 0, I 255] true (Bv true) ∧ True, _ ∧ True] hB ⟨⟨(Zap h1 (Zcy f.X 0 255)), trivial⟩, ⟨(Zap h2 (Zcy f.Y 0 255)), trivial⟩, ⟨(Zcy f.D 0 7), trivial⟩, trivial⟩ ?_
    refine Zaa ?_
    refine Zam ?_
    refine Zan hB (Bv (inB f.D 0 7)) (by kernel_rfl) (.inl (by first | rfl | (refine congrArg Bv ?_; simp [okF, *]; done) | (refine congrArg Bv ?_; simp [okF, *]; omega) | (refine congrArg Bv ?_; simp_all [okF]; done) | (refine congrArg Bv ?_; simp_all [okF]; omega))) rfl (fun _ => trivial)
   refine Zdg [(2, .call [(true, .any), (true, .any), (true, .any)] true (Bv true)), (6, .call [(true, .any), (true, .any), (true, .any)] true (Bv false))] [2] [] [Bv false] [] [Con Tryz.prog 35 [I f.X, I 0, I 255] true (Bv true) ∧ True, Con Tryz.prog 35 [I f.Y, I 0, I 255] true (Bv false) ∧ True] hB ⟨⟨(Zap h1 (Zcy f.X 0 255)), trivial⟩, ⟨(Zap h2 (Zcy f.Y 0 255)), trivial⟩, trivial⟩ ?_
   refine Zaa ?_
   refine Zam ?_
   refine Zan hB (Bv false) (by kernel_rfl) (.inl (by first | rfl | (refine congrArg Bv ?_; simp [okF, *]; done) | (refine congrArg Bv ?_; simp [okF, *]; omega) | (refine congrArg Bv ?_; simp_all [okF]; done) | (refine congrArg Bv ?_; simp_all [okF]; omega))) rfl (fun _ => trivial)
  refine Zdg [(2, .call [(true, .any), (true, .any), (true, .any)] true (Bv false))] [2] [] [Bv false] [] [Con Tryz.prog 35 [I f.X, I 0, I 255] true (Bv false) ∧ True] hB ⟨⟨(Zap h1 (Zcy f.X 0 255)), trivial⟩, trivial⟩ ?_
  refine Zaa ?_
  refine Zam ?_
  refine Zan hB (Bv false) (by kernel_rfl) (.inl (by first | rfl | (refine congrArg Bv ?_; simp [okF, *]; done) | (refine congrArg Bv ?_; simp [okF, *]; omega) | (refine congrArg Bv ?_; simp_all [okF]; done) | (refine congrArg Bv ?_; simp_all [okF]; omega))) rfl (fun _ => trivial)
theorem Zoi (f : Feat) : Con Tryz.prog 153 [Zkc f] true (Bv (!(okF f))) := by
 refine Zbu (fn := Tryz.f153) (nt := 6) Tryz.func153 rfl rfl rfl rfl (by simp [Zag, Zaj]) fun B hB => ?_
 refine aQ [(0, .new 1)] [1] [1] [] hB trivial ?_
 refine aR [(1, .call [(true, .any)] true (Bv (okF f)))] [2] [] [Bv (!(okF f))] [] [_ ∧ True] hB ⟨⟨(Zyg f), trivial⟩, trivial⟩ ?_
 refine Zam ?_
 refine Zan hB (Bv (!(okF f))) (by kernel_rfl) (.inl rfl) rfl (fun _ => trivial)
theorem Zmf (s : List Feat) : Con Tryz.prog 179 [Zai false s, .fn 153 []] true (I (Zer s.length (fun j => (!(okF (at_ s j)))))) := by
  refine Zbu (fn := Tryz.f179) (nt := 19) Tryz.func179 rfl rfl rfl rfl (by simp [Zag, Zaj, Zdq]) fun B hB => ?_
  refine Zbt (x := Zai false s) 0 rfl (fun len_s => ?_)
  simp [Zdk, Zgf, Zgw, Zez, Zai] at len_s
  refine aQ [] [0, 1] [] [] hB trivial ?_
  refine Zah ?_
  refine aR [] [0, 1, 7, 8] [] [Zai false s, .fn 153 [], I (s.length : Int), I 0] [] [] hB trivial ?_
  refine Zau ?_
  refine Zcn (fun gn gσ => ∃ (t8 : Int), gn = ((s.length : Int) - t8).toNat ∧ (0 ≤ t8 ∧ t8 ≤ (s.length : Int)) ∧ (∀ j : Nat, (j : Int) < t8 → (!(okF (at_ s j))) = false) ∧ gσ = mkS [(0, Zai false s), (1, .fn 153 []), (7, I (s.length : Int)), (8, I t8)] []) (((s.length : Int) - 0).toNat) ⟨0, rfl, om, (by intro j hj; omega), rfl⟩ (fun gn gσ hI => ?_)
  obtain ⟨t8, rfl, hi0, hall0, rfl⟩ := hI
  refine Zah ?_
  by_cases h1 : t8 < (s.length : Int)
  ·have hi : t8.toNat < s.length := by omega
   refine Zbm [(0, .dec true)] [0, 1, 7, 8, 9] [] [_] hB ⟨h1, trivial⟩ ?_
   refine Zaa ?_
   refine Zah ?_
   refine Zbq ?_
   refine Zas ?_
   refine Zaa ?_
   refine Zah ?_
   refine Zau ?_
   refine aQ [] [0, 1, 5, 7, 8] [] [] hB trivial ?_
   refine Zah ?_
   rcases Bool.eq_false_or_eq_true (!(okF (at_ s t8.toNat))) with h2 | h2
   ·have hfin : Zer s.length (fun j => (!(okF (at_ s j)))) = t8.toNat := Zkw hi h2 (fun j hj => hall0 j om)
    refine Zbm [(5, .call [(true, .any)] true (Bv true))] [0, 1, 5, 7, 8, 16] [] [(0 : Int) ≤ t8 ∧ t8 < (s.length : Int), Con Tryz.prog 153 [Zkc (at_ s t8.toNat)] true (Bv true) ∧ True] hB ⟨⟨om, om⟩, ⟨(Zap h2 (Zoi (at_ s t8.toNat))), trivial⟩, trivial⟩ ?_
    refine Zaa ?_
    refine Zbq ?_
    refine aR [] [4] [] [I t8] [] [] hB trivial ?_
    refine Zam ?_
    refine Zao (Zak (Zak (Zao (Zak ?_))))
    refine Zan hB (I t8) (by kernel_rfl) (.inl (by refine congrArg I ?_; first | (rw [hfin]; done) | (rw [hfin]; omega))) rfl (fun _ => trivial)
   refine Zbm [(5, .call [(true, .any)] true (Bv false))] [0, 1, 5, 7, 8, 16] [] [(0 : Int) ≤ t8 ∧ t8 < (s.length : Int), Con Tryz.prog 153 [Zkc (at_ s t8.toNat)] true (Bv false) ∧ True] hB ⟨⟨om, om⟩, ⟨(Zap h2 (Zoi (at_ s t8.toNat))), trivial⟩, trivial⟩ ?_
   refine Zaa ?_
   refine Zbj ?_
   refine Zas ?_
   refine Zba 1 ?_
   refine Zaa ?_
   refine Zdg [] [0, 1, 7, 8] [] [Zai false s, .fn 153 [], I (s.length : Int), I (t8 + 1)] [] [inR .i64 (t8 + 1)] hB ⟨(Zac om om), trivial⟩ ?_
   exact Zbf _ om ⟨(t8 + 1), rfl, om, (by intro j hj; by_cases ej : j = t8.toNat; (subst ej; first | assumption | rfl); exact hall0 j om), rfl⟩
  have hfin : Zer s.length (fun j => (!(okF (at_ s j)))) = -1 := Zif (fun j hj => hall0 j om)
  refine Zbm [(0, .dec false)] [0, 1, 7, 8, 9] [] [_] hB ⟨h1, trivial⟩ ?_
  refine Zaa ?_
  refine Zah ?_
  refine Zbj ?_
  refine Zcj ?_
  refine Zal ?_
  refine Zal ?_
  refine Zaw ?_
  refine Zaa ?_
  refine aR [] [4] [] [I (-1)] [] [] hB trivial ?_
  refine Zam ?_
  refine Zan hB (I (-1)) (by kernel_rfl) (.inl (by refine congrArg I ?_; first | (rw [hfin]; done) | (rw [hfin]; omega))) rfl (fun _ => trivial)
theorem Zrb (s : List Feat) : Con Tryz.prog 152 [Zai false s, .fn 153 []] true (Bv (Zvc s.length (fun j => (!(okF (at_ s j)))))) := by
 refine Zbu (fn := Tryz.f152) (nt := 9) Tryz.func152 rfl rfl rfl rfl (by simp [Zag, Zaj, Zdq]) fun B hB => ?_
 refine Zbt (x := Zai false s) 0 rfl (fun len_s => ?_)
 simp [Zdk, Zgf, Zgw, Zez, Zai] at len_s
 refine aQ [] [0, 1] [] [] hB trivial ?_
 refine aR [(2, .call [(true, .any), (true, .any)] true (I (Zer s.length (fun j => (!(okF (at_ s j)))))))] [4] [] [Bv (decide (0 ≤ (Zer s.length (fun j => (!(okF (at_ s j)))))))] [] [_ ∧ True] hB ⟨⟨(Zmf s), trivial⟩, trivial⟩ ?_
 refine Zam ?_
 refine Zan hB (Bv (decide (0 ≤ (Zer s.length (fun j => (!(okF (at_ s j)))))))) (by kernel_rfl) (.inl (by exact congrArg Bv (Znt _ _))) rfl (fun _ => trivial)
theorem Yaq (list : List Feat) (most : Int) : Con Tryz.prog 115 [Zai false list, I most] true (Bv (Zbr list most)) := by
  refine Zbu (fn := Tryz.f115) (nt := 19) Tryz.func115 rfl rfl rfl rfl (by simp [Zag, Zaj, Zdq]) fun B hB => ?_
  refine Zbt (x := Zai false list) 0 rfl (fun len_list => ?_)
  simp [Zdk, Zgf, Zgw, Zez, Zai] at len_list
  refine aQ [] [0, 1] [] [] hB trivial ?_
  refine Zah ?_
  by_cases h1 : 1 ≤ (list.length : Int)
  ·by_cases h2 : (list.length : Int) ≤ most
   ·refine Zdg [(2, .dec true), (7, .dec true), (11, .call [(true, .any), (true, .any)] true (Bv (Zvc list.length (fun j => (!(okF (at_ list j)))))))] [4] [] [Bv (!(Zvc list.length (fun j => (!(okF (at_ list j))))))] [] [_, _, _ ∧ True] hB ⟨h1, h2, ⟨(Zrb list), trivial⟩, trivial⟩ ?_
    refine Zaa ?_
    refine Zam ?_
    refine Zan hB (Bv (!(Zvc list.length (fun j => (!(okF (at_ list j))))))) (by kernel_rfl) (.inl (by first | rfl | (refine congrArg Bv ?_; simp [Zbr, Zdb, *]; done) | (refine congrArg Bv ?_; simp [Zbr, Zdb, *]; omega) | (refine congrArg Bv ?_; simp_all [Zbr, Zdb]; done) | (refine congrArg Bv ?_; simp_all [Zbr, Zdb]; omega))) rfl (fun _ => trivial)
   refine Zdg [(2, .dec true), (7, .dec false)] [4] [] [Bv false] [] [_, _] hB ⟨h1, h2, trivial⟩ ?_
   refine Zaa ?_
   refine Zam ?_
   refine Zan hB (Bv false) (by kernel_rfl) (.inl (by first | rfl | (refine congrArg Bv ?_; simp [Zbr, Zdb, *]; done) | (refine congrArg Bv ?_; simp [Zbr, Zdb, *]; omega) | (refine congrArg Bv ?_; simp_all [Zbr, Zdb]; done) | (refine congrArg Bv ?_; simp_all [Zbr, Zdb]; omega))) rfl (fun _ => trivial)
  refine Zdg [(2, .dec false)] [4] [] [Bv false] [] [_] hB ⟨h1, trivial⟩ ?_
  refine Zaa ?_
  refine Zam ?_
  refine Zan hB (Bv false) (by kernel_rfl) (.inl (by first | rfl | (refine congrArg Bv ?_; simp [Zbr, Zdb, *]; done) | (refine congrArg Bv ?_; simp [Zbr, Zdb, *]; omega) | (refine congrArg Bv ?_; simp_all [Zbr, Zdb]; done) | (refine congrArg Bv ?_; simp_all [Zbr, Zdb]; omega))) rfl (fun _ => trivial)
theorem Yar (list : List Feat) : Con Tryz.prog 72 [Zai false list] true (Bv (Zbr list 72)) := by
 refine Zbu (fn := Tryz.f72) (nt := 5) Tryz.func72 rfl rfl rfl rfl (by simp [Zag, Zaj, Zdq]) fun B hB => ?_
 refine Zbt (x := Zai false list) 0 rfl (fun len_list => ?_)
 simp [Zdk, Zgf, Zgw, Zez, Zai] at len_list
 refine aQ [] [0] [] [] hB trivial ?_
 refine aR [(1, .call [(true, .any), (true, .any)] true (Bv (Zbr list 72)))] [2] [] [Bv (Zbr list 72)] [] [_ ∧ True] hB ⟨⟨(Yaq list 72), trivial⟩, trivial⟩ ?_
 refine Zam ?_
 refine Zan hB (Bv (Zbr list 72)) (by kernel_rfl) (.inl rfl) rfl (fun _ => trivial)
theorem Zos (t : Template) (ok : t.Label.size ≤ 9223372036854775807) : Con Tryz.prog 38 [Zhv t] true (Bv (Zfn t)) := by
  refine Zbu (fn := Tryz.f38) (nt := 11) Tryz.func38 rfl rfl rfl rfl (by simp [Zag, Zaj, Zdq]) fun B hB => ?_
  refine Zbt (x := Zhv t) 0 rfl (fun len_t => ?_)
  simp [Zdk, Zgf, Zgw, Zez, Zai] at len_t
  refine aQ [(0, .new 1)] [1] [1] [] hB trivial ?_
  refine Zah ?_
  rcases Bool.eq_false_or_eq_true (Zco t.Label) with h1 | h1
  ·refine Zdg [(2, .call [(true, .any)] true (Bv true)), (6, .call [(true, .any)] true (Bv (Zbr t.Feats 72)))] [2] [] [Bv (Zbr t.Feats 72)] [] [Con Tryz.prog 71 [Sv t.Label] true (Bv true) ∧ True, _ ∧ True] hB ⟨⟨(Zap h1 (Zlk t.Label ok)), trivial⟩, ⟨(Yar t.Feats), trivial⟩, trivial⟩ ?_
   refine Zaa ?_
   refine Zam ?_
   refine Zan hB (Bv (Zbr t.Feats 72)) (by kernel_rfl) (.inl (by first | rfl | (refine congrArg Bv ?_; simp [Zfn, *]; done) | (refine congrArg Bv ?_; simp [Zfn, *]; omega) | (refine congrArg Bv ?_; simp_all [Zfn]; done) | (refine congrArg Bv ?_; simp_all [Zfn]; omega))) rfl (fun _ => trivial)
  refine Zdg [(2, .call [(true, .any)] true (Bv false))] [2] [] [Bv false] [] [Con Tryz.prog 71 [Sv t.Label] true (Bv false) ∧ True] hB ⟨⟨(Zap h1 (Zlk t.Label ok)), trivial⟩, trivial⟩ ?_
  refine Zaa ?_
  refine Zam ?_
  refine Zan hB (Bv false) (by kernel_rfl) (.inl (by first | rfl | (refine congrArg Bv ?_; simp [Zfn, *]; done) | (refine congrArg Bv ?_; simp [Zfn, *]; omega) | (refine congrArg Bv ?_; simp_all [Zfn]; done) | (refine congrArg Bv ?_; simp_all [Zfn]; omega))) rfl (fun _ => trivial)
def Zjf (x : Template) : Prop := (x.Label.size ≤ 9223372036854775807)
theorem Zll (t : Template) (ok : Zjf t) : Con Tryz.prog 37 [Zhv t] true (Bv (!(Zfn t))) := by
 refine Zbu (fn := Tryz.f37) (nt := 6) Tryz.func37 rfl rfl rfl rfl (by simp [Zag, Zaj, Zdq]) fun B hB => ?_
 refine Zbt (x := Zhv t) 0 rfl (fun len_t => ?_)
 simp [Zdk, Zgf, Zgw, Zez, Zai] at len_t
 refine aQ [(0, .new 1)] [1] [1] [] hB trivial ?_
 refine aR [(1, .call [(true, .any)] true (Bv (Zfn t)))] [2] [] [Bv (!(Zfn t))] [] [_ ∧ True] hB ⟨⟨(Zos t ok), trivial⟩, trivial⟩ ?_
 refine Zam ?_
 refine Zan hB (Bv (!(Zfn t))) (by kernel_rfl) (.inl rfl) rfl (fun _ => trivial)
def Zpo (x : Store) : Prop := (∀ y ∈ x.Templates, Zjf y)
theorem Zny (s : List Template) (hel : ∀ j, j < s.length → Zjf (at_ s j)) : Con Tryz.prog 70 [Zav false s, .fn 37 []] true (I (Zer s.length (fun j => (!(Zfn (at_ s j)))))) := by
  refine Zbu (fn := Tryz.f70) (nt := 19) Tryz.func70 rfl rfl rfl rfl (by simp [Zag, Zaj, Zdz]) fun B hB => ?_
  refine Zbt (x := Zav false s) 0 rfl (fun len_s => ?_)
  simp [Zdk, Zgf, Zgw, Zev, Zez, Zch, Zai, Zav] at len_s
  refine aQ [] [0, 1] [] [] hB trivial ?_
  refine Zah ?_
  refine aR [] [0, 1, 7, 8] [] [Zav false s, .fn 37 [], I (s.length : Int), I 0] [] [] hB trivial ?_
  refine Zau ?_
  refine Zcn (fun gn gσ => ∃ (t8 : Int), gn = ((s.length : Int) - t8).toNat ∧ (0 ≤ t8 ∧ t8 ≤ (s.length : Int)) ∧ (∀ j : Nat, (j : Int) < t8 → (!(Zfn (at_ s j))) = false) ∧ gσ = mkS [(0, Zav false s), (1, .fn 37 []), (7, I (s.length : Int)), (8, I t8)] []) (((s.length : Int) - 0).toNat) ⟨0, rfl, om, (by intro j hj; omega), rfl⟩ (fun gn gσ hI => ?_)
  obtain ⟨t8, rfl, hi0, hall0, rfl⟩ := hI
  refine Zah ?_
  by_cases h1 : t8 < (s.length : Int)
  ·have hi : t8.toNat < s.length := by omega
   refine Zbm [(0, .dec true)] [0, 1, 7, 8, 9] [] [_] hB ⟨h1, trivial⟩ ?_
   refine Zaa ?_
   refine Zah ?_
   refine Zbq ?_
   refine Zas ?_
   refine Zaa ?_
   refine Zah ?_
   refine Zau ?_
   refine aQ [] [0, 1, 5, 7, 8] [] [] hB trivial ?_
   refine Zah ?_
   rcases Bool.eq_false_or_eq_true (!(Zfn (at_ s t8.toNat))) with h2 | h2
   ·have hfin : Zer s.length (fun j => (!(Zfn (at_ s j)))) = t8.toNat := Zkw hi h2 (fun j hj => hall0 j om)
    refine Zbm [(5, .call [(true, .any)] true (Bv true))] [0, 1, 5, 7, 8, 16] [] [(0 : Int) ≤ t8 ∧ t8 < (s.length : Int), Con Tryz.prog 37 [Zhv (at_ s t8.toNat)] true (Bv true) ∧ True] hB ⟨⟨om, om⟩, ⟨(Zap h2 (Zll (at_ s t8.toNat) (hel _ hi))), trivial⟩, trivial⟩ ?_
    refine Zaa ?_
    refine Zbq ?_
    refine aR [] [4] [] [I t8] [] [] hB trivial ?_
    refine Zam ?_
    refine Zao (Zak (Zak (Zao (Zak ?_))))
    refine Zan hB (I t8) (by kernel_rfl) (.inl (by refine congrArg I ?_; first | (rw [hfin]; done) | (rw [hfin]; omega))) rfl (fun _ => trivial)
   refine Zbm [(5, .call [(true, .any)] true (Bv false))] [0, 1, 5, 7, 8, 16] [] [(0 : Int) ≤ t8 ∧ t8 < (s.length : Int), Con Tryz.prog 37 [Zhv (at_ s t8.toNat)] true (Bv false) ∧ True] hB ⟨⟨om, om⟩, ⟨(Zap h2 (Zll (at_ s t8.toNat) (hel _ hi))), trivial⟩, trivial⟩ ?_
   refine Zaa ?_
   refine Zbj ?_
   refine Zas ?_
   refine Zba 1 ?_
   refine Zaa ?_
   refine Zdg [] [0, 1, 7, 8] [] [Zav false s, .fn 37 [], I (s.length : Int), I (t8 + 1)] [] [inR .i64 (t8 + 1)] hB ⟨(Zac om om), trivial⟩ ?_
   exact Zbf _ om ⟨(t8 + 1), rfl, om, (by intro j hj; by_cases ej : j = t8.toNat; (subst ej; first | assumption | rfl); exact hall0 j om), rfl⟩
  have hfin : Zer s.length (fun j => (!(Zfn (at_ s j)))) = -1 := Zif (fun j hj => hall0 j om)
  refine Zbm [(0, .dec false)] [0, 1, 7, 8, 9] [] [_] hB ⟨h1, trivial⟩ ?_
  refine Zaa ?_
  refine Zah ?_
  refine Zbj ?_
  refine Zcj ?_
  refine Zal ?_
  refine Zal ?_
  refine Zaw ?_
  refine Zaa ?_
  refine aR [] [4] [] [I (-1)] [] [] hB trivial ?_
  refine Zam ?_
  refine Zan hB (I (-1)) (by kernel_rfl) (.inl (by refine congrArg I ?_; first | (rw [hfin]; done) | (rw [hfin]; omega))) rfl (fun _ => trivial)
theorem Zvs (s : List Template) (hel : ∀ j, j < s.length → Zjf (at_ s j)) : Con Tryz.prog 36 [Zav false s, .fn 37 []] true (Bv (Zvc s.length (fun j => (!(Zfn (at_ s j)))))) := by
 refine Zbu (fn := Tryz.f36) (nt := 9) Tryz.func36 rfl rfl rfl rfl (by simp [Zag, Zaj, Zdz]) fun B hB => ?_
 refine Zbt (x := Zav false s) 0 rfl (fun len_s => ?_)
 simp [Zdk, Zgf, Zgw, Zev, Zez, Zch, Zai, Zav] at len_s
 refine aQ [] [0, 1] [] [] hB trivial ?_
 refine aR [(2, .call [(true, .any), (true, .any)] true (I (Zer s.length (fun j => (!(Zfn (at_ s j)))))))] [4] [] [Bv (decide (0 ≤ (Zer s.length (fun j => (!(Zfn (at_ s j)))))))] [] [_ ∧ True] hB ⟨⟨(Zny s hel), trivial⟩, trivial⟩ ?_
 refine Zam ?_
 refine Zan hB (Bv (decide (0 ≤ (Zer s.length (fun j => (!(Zfn (at_ s j)))))))) (by kernel_rfl) (.inl (by exact congrArg Bv (Znt _ _))) rfl (fun _ => trivial)
theorem Zvg (s : Store) (ok : Zpo s) : Con Tryz.prog 14 [Zfb s] true (Bv (Zbw s)) := by
  refine Zbu (fn := Tryz.f14) (nt := 18) Tryz.func14 rfl rfl rfl rfl (by simp [Zag, Zaj, Zdz]) fun B hB => ?_
  refine Zbt (x := Zfb s) 0 rfl (fun len_s => ?_)
  simp [Zdk, Zgf, Zgw, Zev, Zez, Zch, Zai, Zav] at len_s
  refine aQ [(0, .new 1)] [1] [1] [] hB trivial ?_
  refine Zah ?_
  rcases Bool.eq_false_or_eq_true (inB s.Band 0 72) with h1 | h1
  ·by_cases h2 : (s.Templates.length : Int) ≤ 40
   ·refine Zdg [(2, .call [(true, .any), (true, .any), (true, .any)] true (Bv true)), (7, .dec true), (12, .call [(true, .any), (true, .any)] true (Bv (Zvc s.Templates.length (fun j => (!(Zfn (at_ s.Templates j)))))))] [2] [] [Bv (!(Zvc s.Templates.length (fun j => (!(Zfn (at_ s.Templates j))))))] [] [Con Tryz.prog 35 [I s.Band, I 0, I 72] true (Bv true) ∧ True, _, _ ∧ True] hB ⟨⟨(Zap h1 (Zcy s.Band 0 72)), trivial⟩, h2, ⟨(Zvs s.Templates (fun j hj => ok _ (Zdf hj))), trivial⟩, trivial⟩ ?_
    refine Zaa ?_
    refine Zam ?_
    refine Zan hB (Bv (!(Zvc s.Templates.length (fun j => (!(Zfn (at_ s.Templates j))))))) (by kernel_rfl) (.inl (by first | rfl | (refine congrArg Bv ?_; simp [Zbw, Zdb, *]; done) | (refine congrArg Bv ?_; simp [Zbw, Zdb, *]; omega) | (refine congrArg Bv ?_; simp_all [Zbw, Zdb]; done) | (refine congrArg Bv ?_; simp_all [Zbw, Zdb]; omega))) rfl (fun _ => trivial)
   refine Zdg [(2, .call [(true, .any), (true, .any), (true, .any)] true (Bv true)), (7, .dec false)] [2] [] [Bv false] [] [Con Tryz.prog 35 [I s.Band, I 0, I 72] true (Bv true) ∧ True, _] hB ⟨⟨(Zap h1 (Zcy s.Band 0 72)), trivial⟩, h2, trivial⟩ ?_
   refine Zaa ?_
   refine Zam ?_
   refine Zan hB (Bv false) (by kernel_rfl) (.inl (by first | rfl | (refine congrArg Bv ?_; simp [Zbw, Zdb, *]; done) | (refine congrArg Bv ?_; simp [Zbw, Zdb, *]; omega) | (refine congrArg Bv ?_; simp_all [Zbw, Zdb]; done) | (refine congrArg Bv ?_; simp_all [Zbw, Zdb]; omega))) rfl (fun _ => trivial)
  refine Zdg [(2, .call [(true, .any), (true, .any), (true, .any)] true (Bv false))] [2] [] [Bv false] [] [Con Tryz.prog 35 [I s.Band, I 0, I 72] true (Bv false) ∧ True] hB ⟨⟨(Zap h1 (Zcy s.Band 0 72)), trivial⟩, trivial⟩ ?_
  refine Zaa ?_
  refine Zam ?_
  refine Zan hB (Bv false) (by kernel_rfl) (.inl (by first | rfl | (refine congrArg Bv ?_; simp [Zbw, Zdb, *]; done) | (refine congrArg Bv ?_; simp [Zbw, Zdb, *]; omega) | (refine congrArg Bv ?_; simp_all [Zbw, Zdb]; done) | (refine congrArg Bv ?_; simp_all [Zbw, Zdb]; omega))) rfl (fun _ => trivial)
theorem Zjh (n : Int) : Con Tryz.prog 116 [I n] true (Bv (inB n 0 4095)) := by
 refine Zbu (fn := Tryz.f116) (nt := 5) Tryz.func116 rfl rfl rfl rfl (by simp [Zag, Zaj]) fun B hB => ?_
 refine aQ [] [0] [] [] hB trivial ?_
 refine aR [(1, .call [(true, .any), (true, .any), (true, .any)] true (Bv (inB n 0 4095)))] [2] [] [Bv (inB n 0 4095)] [] [_ ∧ True] hB ⟨⟨(Zcy n 0 4095), trivial⟩, trivial⟩ ?_
 refine Zam ?_
 refine Zan hB (Bv (inB n 0 4095)) (by kernel_rfl) (.inl rfl) rfl (fun _ => trivial)
theorem Zho (p : Point) : Con Tryz.prog 73 [Zct p] true (Bv (okP p)) := by
  refine Zbu (fn := Tryz.f73) (nt := 16) Tryz.func73 rfl rfl rfl rfl (by simp [Zag, Zaj]) fun B hB => ?_
  refine aQ [(0, .new 1)] [1] [1] [] hB trivial ?_
  refine Zah ?_
  rcases Bool.eq_false_or_eq_true (inB p.X 0 4095) with h1 | h1
  ·rcases Bool.eq_false_or_eq_true (inB p.Y 0 4095) with h2 | h2
   ·refine Zdg [(2, .call [(true, .any)] true (Bv true)), (6, .call [(true, .any)] true (Bv true)), (11, .call [(true, .any), (true, .any), (true, .any)] true (Bv (inB p.T 0 3600000)))] [2] [] [Bv (inB p.T 0 3600000)] [] [Con Tryz.prog 116 [I p.X] true (Bv true) ∧ True, Con Tryz.prog 116 [I p.Y] true (Bv true) ∧ True, _ ∧ True] hB ⟨⟨(Zap h1 (Zjh p.X)), trivial⟩, ⟨(Zap h2 (Zjh p.Y)), trivial⟩, ⟨(Zcy p.T 0 3600000), trivial⟩, trivial⟩ ?_
    refine Zaa ?_
    refine Zam ?_
    refine Zan hB (Bv (inB p.T 0 3600000)) (by kernel_rfl) (.inl (by first | rfl | (refine congrArg Bv ?_; simp [okP, *]; done) | (refine congrArg Bv ?_; simp [okP, *]; omega) | (refine congrArg Bv ?_; simp_all [okP]; done) | (refine congrArg Bv ?_; simp_all [okP]; omega))) rfl (fun _ => trivial)
   refine Zdg [(2, .call [(true, .any)] true (Bv true)), (6, .call [(true, .any)] true (Bv false))] [2] [] [Bv false] [] [Con Tryz.prog 116 [I p.X] true (Bv true) ∧ True, Con Tryz.prog 116 [I p.Y] true (Bv false) ∧ True] hB ⟨⟨(Zap h1 (Zjh p.X)), trivial⟩, ⟨(Zap h2 (Zjh p.Y)), trivial⟩, trivial⟩ ?_
   refine Zaa ?_
   refine Zam ?_
   refine Zan hB (Bv false) (by kernel_rfl) (.inl (by first | rfl | (refine congrArg Bv ?_; simp [okP, *]; done) | (refine congrArg Bv ?_; simp [okP, *]; omega) | (refine congrArg Bv ?_; simp_all [okP]; done) | (refine congrArg Bv ?_; simp_all [okP]; omega))) rfl (fun _ => trivial)
  refine Zdg [(2, .call [(true, .any)] true (Bv false))] [2] [] [Bv false] [] [Con Tryz.prog 116 [I p.X] true (Bv false) ∧ True] hB ⟨⟨(Zap h1 (Zjh p.X)), trivial⟩, trivial⟩ ?_
  refine Zaa ?_
  refine Zam ?_
  refine Zan hB (Bv false) (by kernel_rfl) (.inl (by first | rfl | (refine congrArg Bv ?_; simp [okP, *]; done) | (refine congrArg Bv ?_; simp [okP, *]; omega) | (refine congrArg Bv ?_; simp_all [okP]; done) | (refine congrArg Bv ?_; simp_all [okP]; omega))) rfl (fun _ => trivial)
theorem Zgv (s : Stroke) : Con Tryz.prog 39 [.agg [Zaq false s.Points]] true (Bv (Zar s)) := by
  refine Zbu (fn := Tryz.f39) (nt := 43) Tryz.func39 rfl rfl rfl rfl (by simp [Zag, Zaj, Zec]) fun B hB => ?_
  refine Zbt (x := .agg [Zaq false s.Points]) 0 rfl (fun len_s => ?_)
  simp [Zdk, Zgf, Zee, Zdl, Zaq] at len_s
  refine aQ [(0, .new 1)] [1] [1] [] hB trivial ?_
  refine Zah ?_
  refine aR [] [1, 6, 7, 8] [1] [.ref 1 0, Zaq false s.Points, I (s.Points.length : Int), I 0] [some (.box [Zaq false s.Points])] [] hB trivial ?_
  refine Zau ?_
  refine Zcn (fun gn gσ => ∃ (t8 : Int), gn = ((s.Points.length : Int) - t8).toNat ∧ (0 ≤ t8 ∧ t8 ≤ (s.Points.length : Int)) ∧ (∀ j : Nat, (j : Int) < t8 → Zsu s.Points j = true) ∧ gσ = mkS [(1, .ref 1 0), (6, Zaq false s.Points), (7, I (s.Points.length : Int)), (8, I t8)] [(1, .box [Zaq false s.Points])]) (((s.Points.length : Int) - 0).toNat) ⟨0, rfl, om, (by intro j hj; omega), rfl⟩ (fun gn gσ hI => ?_)
  obtain ⟨t8, rfl, hi0, hall0, rfl⟩ := hI
  refine Zah ?_
  by_cases h1 : t8 < (s.Points.length : Int)
  ·have hi : t8.toNat < s.Points.length := by omega
   refine Zbm [(0, .dec true)] [1, 6, 7, 8, 9] [1] [_] hB ⟨h1, trivial⟩ ?_
   refine Zaa ?_
   refine Zah ?_
   refine Zbq ?_
   refine Zas ?_
   refine Zaa ?_
   refine Zah ?_
   refine Zau ?_
   refine aQ [(3, .new 4)] [1, 3, 4, 6, 7, 8] [1, 4] [(0 : Int) ≤ t8 ∧ t8 < (s.Points.length : Int)] hB ⟨⟨om, om⟩, trivial⟩ ?_
   refine Zah ?_
   rcases Bool.eq_false_or_eq_true (okP (at_ s.Points t8.toNat)) with h2 | h2
   ·by_cases h3 : 0 < t8
    ·by_cases h4 : ((at_ s.Points t8.toNat).T) ≤ ((at_ s.Points ((t8 - 1).toNat)).T)
     ·have hall : Znc s.Points.length (Zsu s.Points) = false := Zgg hi (Yhw h3 h4)
      refine Zbm [(1, .call [(true, .any)] true (Bv true)), (5, .dec true), (16, .dec true)] [1, 6, 7, 8, 31] [1] [Con Tryz.prog 73 [Zct (at_ s.Points t8.toNat)] true (Bv true) ∧ True, _, inR .i64 (t8 - 1), (0 : Int) ≤ (t8 - 1) ∧ (t8 - 1) < (s.Points.length : Int), _] hB ⟨⟨(Zap h2 (Zho (at_ s.Points t8.toNat))), trivial⟩, h3, (Zac om om), ⟨om, om⟩, h4, trivial⟩ ?_
      refine Zaa ?_
      refine Zbq ?_
      refine aR [] [2] [] [Bv false] [] [] hB trivial ?_
      refine Zam ?_
      refine Zao (Zak (Zak (Zao (Zak ?_))))
      refine Zan hB (Bv false) (by kernel_rfl) (.inl (by first | rfl | (refine congrArg Bv ?_; simp [Zar, inB, *]; done) | (refine congrArg Bv ?_; simp [Zar, inB, *]; omega) | (refine congrArg Bv ?_; simp_all [Zar, inB]; done) | (refine congrArg Bv ?_; simp_all [Zar, inB]; omega))) rfl (fun _ => trivial)
     have hok := Yco h2 h3 h4
     refine Zbm [(1, .call [(true, .any)] true (Bv true)), (5, .dec true), (16, .dec false)] [1, 6, 7, 8, 31] [1] [Con Tryz.prog 73 [Zct (at_ s.Points t8.toNat)] true (Bv true) ∧ True, _, inR .i64 (t8 - 1), (0 : Int) ≤ (t8 - 1) ∧ (t8 - 1) < (s.Points.length : Int), _] hB ⟨⟨(Zap h2 (Zho (at_ s.Points t8.toNat))), trivial⟩, h3, (Zac om om), ⟨om, om⟩, h4, trivial⟩ ?_
     refine Zaa ?_
     refine Zbj ?_
     refine Zas ?_
     refine Zba 1 ?_
     refine Zaa ?_
     refine Zdg [] [1, 6, 7, 8] [1] [.ref 1 0, Zaq false s.Points, I (s.Points.length : Int), I (t8 + 1)] [some (.box [Zaq false s.Points])] [inR .i64 (t8 + 1)] hB ⟨(Zac om om), trivial⟩ ?_
     exact Zbf _ om ⟨(t8 + 1), rfl, om, (by intro j hj; by_cases ej : j = t8.toNat; (subst ej; first | assumption | exact hok); exact hall0 j om), rfl⟩
    have hok := Zxt h2 hi0.1 h3
    refine Zbm [(1, .call [(true, .any)] true (Bv true)), (5, .dec false)] [1, 6, 7, 8, 31] [1] [Con Tryz.prog 73 [Zct (at_ s.Points t8.toNat)] true (Bv true) ∧ True, _] hB ⟨⟨(Zap h2 (Zho (at_ s.Points t8.toNat))), trivial⟩, h3, trivial⟩ ?_
    refine Zaa ?_
    refine Zbj ?_
    refine Zas ?_
    refine Zba 1 ?_
    refine Zaa ?_
    refine Zdg [] [1, 6, 7, 8] [1] [.ref 1 0, Zaq false s.Points, I (s.Points.length : Int), I (t8 + 1)] [some (.box [Zaq false s.Points])] [inR .i64 (t8 + 1)] hB ⟨(Zac om om), trivial⟩ ?_
    exact Zbf _ om ⟨(t8 + 1), rfl, om, (by intro j hj; by_cases ej : j = t8.toNat; (subst ej; first | assumption | exact hok); exact hall0 j om), rfl⟩
   have hall : Znc s.Points.length (Zsu s.Points) = false := Zgg hi (Ycp h2)
   refine Zbm [(1, .call [(true, .any)] true (Bv false))] [1, 6, 7, 8, 31] [1] [Con Tryz.prog 73 [Zct (at_ s.Points t8.toNat)] true (Bv false) ∧ True] hB ⟨⟨(Zap h2 (Zho (at_ s.Points t8.toNat))), trivial⟩, trivial⟩ ?_
   refine Zaa ?_
   refine Zbq ?_
   refine aR [] [2] [] [Bv false] [] [] hB trivial ?_
   refine Zam ?_
   refine Zao (Zak (Zak (Zao (Zak ?_))))
   refine Zan hB (Bv false) (by kernel_rfl) (.inl (by first | rfl | (refine congrArg Bv ?_; simp [Zar, inB, *]; done) | (refine congrArg Bv ?_; simp [Zar, inB, *]; omega) | (refine congrArg Bv ?_; simp_all [Zar, inB]; done) | (refine congrArg Bv ?_; simp_all [Zar, inB]; omega))) rfl (fun _ => trivial)
  have hall : Znc s.Points.length (Zsu s.Points) = true := Zit (fun j hj => hall0 j om)
  refine Zbm [(0, .dec false)] [1, 6, 7, 8, 9] [1] [_] hB ⟨h1, trivial⟩ ?_
  refine Zaa ?_
  refine Zah ?_
  refine Zbj ?_
  refine Zcj ?_
  refine Zal ?_
  refine Zal ?_
  refine Zaw ?_
  refine Zaa ?_
  refine Zah ?_
  by_cases h5 : 1 ≤ (s.Points.length : Int)
  ·refine Zdg [(3, .dec true)] [2] [] [Bv (decide ((s.Points.length : Int) ≤ 60))] [] [_] hB ⟨h5, trivial⟩ ?_
   refine Zaa ?_
   refine Zam ?_
   refine Zan hB (Bv (decide ((s.Points.length : Int) ≤ 60))) (by kernel_rfl) (.inl (by first | rfl | (refine congrArg Bv ?_; simp [Zar, inB, *]; done) | (refine congrArg Bv ?_; simp [Zar, inB, *]; omega) | (refine congrArg Bv ?_; simp_all [Zar, inB]; done) | (refine congrArg Bv ?_; simp_all [Zar, inB]; omega))) rfl (fun _ => trivial)
  refine Zdg [(3, .dec false)] [2] [] [Bv false] [] [_] hB ⟨h5, trivial⟩ ?_
  refine Zaa ?_
  refine Zam ?_
  refine Zan hB (Bv false) (by kernel_rfl) (.inl (by first | rfl | (refine congrArg Bv ?_; simp [Zar, inB, *]; done) | (refine congrArg Bv ?_; simp [Zar, inB, *]; omega) | (refine congrArg Bv ?_; simp_all [Zar, inB]; done) | (refine congrArg Bv ?_; simp_all [Zar, inB]; omega))) rfl (fun _ => trivial)
theorem Zky (s : Stroke) (ok : Zar s = true) : Con Tryz.prog 40 [.agg [Zaq false s.Points]] true (Zct (at_ s.Points 0)) := by
 have hln := Zeo ok
 refine Zbu (fn := Tryz.f40) (nt := 7) Tryz.func40 rfl rfl rfl rfl (by simp [Zag, Zaj, Zec]) fun B hB => ?_
 refine Zbt (x := .agg [Zaq false s.Points]) 0 rfl (fun len_s => ?_)
 simp [Zdk, Zgf, Zee, Zdl, Zaq] at len_s
 refine aQ [(0, .new 1), (1, .new 2)] [1, 2] [1, 2] [] hB trivial ?_
 refine aR [] [2] [2] [.ref 2 0] [some (Yad (at_ s.Points 0))] [(0 : Int) ≤ 0 ∧ 0 < (s.Points.length : Int)] hB ⟨⟨om, om⟩, trivial⟩ ?_
 refine Zam ?_
 refine Zan hB (Zct (at_ s.Points 0)) (by kernel_rfl) (.inl rfl) rfl (fun _ => (by simp [Zaj, Zag]))
theorem Zyh (s : Stroke) (ok : Zar s = true) : Con Tryz.prog 41 [.agg [Zaq false s.Points]] true (Zct (at_ s.Points (s.Points.length - 1))) := by
 have hln := Zeo ok
 refine Zbu (fn := Tryz.f41) (nt := 11) Tryz.func41 rfl rfl rfl rfl (by simp [Zag, Zaj, Zec]) fun B hB => ?_
 refine Zbt (x := .agg [Zaq false s.Points]) 0 rfl (fun len_s => ?_)
 simp [Zdk, Zgf, Zee, Zdl, Zaq] at len_s
 refine aQ [(0, .new 1), (1, .new 2)] [1, 2] [1, 2] [] hB trivial ?_
 refine aR [] [2] [2] [.ref 2 0] [some (Yad (at_ s.Points (((s.Points.length : Int) - 1).toNat)))] [inR .i64 ((s.Points.length : Int) - 1), (0 : Int) ≤ ((s.Points.length : Int) - 1) ∧ ((s.Points.length : Int) - 1) < (s.Points.length : Int)] hB ⟨(Zac om om), ⟨om, om⟩, trivial⟩ ?_
 refine Zam ?_
 refine Zan hB (Zct (at_ s.Points (((s.Points.length : Int) - 1).toNat))) (by kernel_rfl) (.inl (by first | rfl | (have e : ((s.Points.length : Int) - 1).toNat = s.Points.length - 1 := om; rw [e]))) rfl (fun _ => (by simp [Zaj, Zag]))
theorem Zmc (ik : Ink) : Con Tryz.prog 15 [.agg [Zae false ik.Strokes]] true (Bv (Zbp ik)) := by
  refine Zbu (fn := Tryz.f15) (nt := 39) Tryz.func15 rfl rfl rfl rfl (by simp [Zag, Zaj, Zck]) fun B hB => ?_
  refine Zbt (x := .agg [Zae false ik.Strokes]) 0 rfl (fun len_ik => ?_)
  simp [Zdk, Zgf, Zee, Zft, Zdl, Zbl, Zaq, Zae] at len_ik
  refine aQ [(0, .new 1)] [1] [1] [] hB trivial ?_
  refine Zah ?_
  refine aR [] [1, 6, 7, 8] [1] [.ref 1 0, Zae false ik.Strokes, I (ik.Strokes.length : Int), I 0] [some (.box [Zae false ik.Strokes])] [] hB trivial ?_
  refine Zau ?_
  refine Zcn (fun gn gσ => ∃ (t8 : Int), gn = ((ik.Strokes.length : Int) - t8).toNat ∧ (0 ≤ t8 ∧ t8 ≤ (ik.Strokes.length : Int)) ∧ (∀ j : Nat, (j : Int) < t8 → Zok ik.Strokes j = true) ∧ gσ = mkS [(1, .ref 1 0), (6, Zae false ik.Strokes), (7, I (ik.Strokes.length : Int)), (8, I t8)] [(1, .box [Zae false ik.Strokes])]) (((ik.Strokes.length : Int) - 0).toNat) ⟨0, rfl, om, (by intro j hj; omega), rfl⟩ (fun gn gσ hI => ?_)
  obtain ⟨t8, rfl, hi0, hall0, rfl⟩ := hI
  refine Zah ?_
  by_cases h1 : t8 < (ik.Strokes.length : Int)
  ·have hi : t8.toNat < ik.Strokes.length := by omega
   refine Zbm [(0, .dec true)] [1, 6, 7, 8, 9] [1] [_] hB ⟨h1, trivial⟩ ?_
   refine Zaa ?_
   refine Zah ?_
   refine Zbq ?_
   refine Zas ?_
   refine Zaa ?_
   refine Zah ?_
   refine Zau ?_
   refine aQ [(3, .new 4)] [1, 3, 4, 6, 7, 8] [1, 4] [(0 : Int) ≤ t8 ∧ t8 < (ik.Strokes.length : Int)] hB ⟨⟨om, om⟩, trivial⟩ ?_
   refine Zah ?_
   rcases Bool.eq_false_or_eq_true (Zar (at_ ik.Strokes t8.toNat)) with h2 | h2
   ·have hln := Zeo h2
    by_cases h3 : 0 < t8
    ·have hpr := Zeo (Zlm (hall0 (t8 - 1).toNat om))
     by_cases h4 : ((at_ (at_ ik.Strokes t8.toNat).Points 0).T) ≤ ((at_ (at_ ik.Strokes ((t8 - 1).toNat)).Points ((at_ ik.Strokes ((t8 - 1).toNat)).Points.length - 1)).T)
     ·have hall : Znc ik.Strokes.length (Zok ik.Strokes) = false := Zgg hi (Yez h3 h4)
      refine Zbm [(1, .call [(true, .any)] true (Bv true)), (5, .dec true), (8, .call [(true, .any)] true (Zct (at_ (at_ ik.Strokes t8.toNat).Points 0))), (16, .call [(true, .any)] true (Zct (at_ (at_ ik.Strokes ((t8 - 1).toNat)).Points ((at_ ik.Strokes ((t8 - 1).toNat)).Points.length - 1)))), (18, .dec true)] [1, 6, 7, 8, 33] [1] [Con Tryz.prog 39 [.agg [Zaq false ((at_ ik.Strokes t8.toNat).Points)]] true (Bv true) ∧ True, _, _ ∧ True, inR .i64 (t8 - 1), (0 : Int) ≤ (t8 - 1) ∧ (t8 - 1) < (ik.Strokes.length : Int), _ ∧ True, _] hB ⟨⟨(Zap h2 (Zgv (at_ ik.Strokes t8.toNat))), trivial⟩, h3, ⟨(Zky (at_ ik.Strokes t8.toNat) (by first | assumption | exact Zlm (hall0 _ om))), trivial⟩, (Zac om om), ⟨om, om⟩, ⟨(Zyh (at_ ik.Strokes ((t8 - 1).toNat)) (by first | assumption | exact Zlm (hall0 _ om))), trivial⟩, h4, trivial⟩ ?_
      refine Zaa ?_
      refine Zbq ?_
      refine aR [] [2] [] [Bv false] [] [] hB trivial ?_
      refine Zam ?_
      refine Zao (Zak (Zak (Zao (Zak ?_))))
      refine Zan hB (Bv false) (by kernel_rfl) (.inl (by first | rfl | (refine congrArg Bv ?_; simp [Zbp, *]; done) | (refine congrArg Bv ?_; simp [Zbp, *]; omega) | (refine congrArg Bv ?_; simp_all [Zbp]; done) | (refine congrArg Bv ?_; simp_all [Zbp]; omega))) rfl (fun _ => trivial)
     have hok := Yau h2 h3 h4
     refine Zbm [(1, .call [(true, .any)] true (Bv true)), (5, .dec true), (8, .call [(true, .any)] true (Zct (at_ (at_ ik.Strokes t8.toNat).Points 0))), (16, .call [(true, .any)] true (Zct (at_ (at_ ik.Strokes ((t8 - 1).toNat)).Points ((at_ ik.Strokes ((t8 - 1).toNat)).Points.length - 1)))), (18, .dec false)] [1, 6, 7, 8, 33] [1] [Con Tryz.prog 39 [.agg [Zaq false ((at_ ik.Strokes t8.toNat).Points)]] true (Bv true) ∧ True, _, _ ∧ True, inR .i64 (t8 - 1), (0 : Int) ≤ (t8 - 1) ∧ (t8 - 1) < (ik.Strokes.length : Int), _ ∧ True, _] hB ⟨⟨(Zap h2 (Zgv (at_ ik.Strokes t8.toNat))), trivial⟩, h3, ⟨(Zky (at_ ik.Strokes t8.toNat) (by first | assumption | exact Zlm (hall0 _ om))), trivial⟩, (Zac om om), ⟨om, om⟩, ⟨(Zyh (at_ ik.Strokes ((t8 - 1).toNat)) (by first | assumption | exact Zlm (hall0 _ om))), trivial⟩, h4, trivial⟩ ?_
     refine Zaa ?_
     refine Zbj ?_
     refine Zas ?_
     refine Zba 1 ?_
     refine Zaa ?_
     refine Zdg [] [1, 6, 7, 8] [1] [.ref 1 0, Zae false ik.Strokes, I (ik.Strokes.length : Int), I (t8 + 1)] [some (.box [Zae false ik.Strokes])] [inR .i64 (t8 + 1)] hB ⟨(Zac om om), trivial⟩ ?_
     exact Zbf _ om ⟨(t8 + 1), rfl, om, (by intro j hj; by_cases ej : j = t8.toNat; (subst ej; first | assumption | exact hok); exact hall0 j om), rfl⟩
    have hok := Zvw h2 hi0.1 h3
    refine Zbm [(1, .call [(true, .any)] true (Bv true)), (5, .dec false)] [1, 6, 7, 8, 33] [1] [Con Tryz.prog 39 [.agg [Zaq false ((at_ ik.Strokes t8.toNat).Points)]] true (Bv true) ∧ True, _] hB ⟨⟨(Zap h2 (Zgv (at_ ik.Strokes t8.toNat))), trivial⟩, h3, trivial⟩ ?_
    refine Zaa ?_
    refine Zbj ?_
    refine Zas ?_
    refine Zba 1 ?_
    refine Zaa ?_
    refine Zdg [] [1, 6, 7, 8] [1] [.ref 1 0, Zae false ik.Strokes, I (ik.Strokes.length : Int), I (t8 + 1)] [some (.box [Zae false ik.Strokes])] [inR .i64 (t8 + 1)] hB ⟨(Zac om om), trivial⟩ ?_
    exact Zbf _ om ⟨(t8 + 1), rfl, om, (by intro j hj; by_cases ej : j = t8.toNat; (subst ej; first | assumption | exact hok); exact hall0 j om), rfl⟩
   have hall : Znc ik.Strokes.length (Zok ik.Strokes) = false := Zgg hi (Yav (by simpa using h2))
   refine Zbm [(1, .call [(true, .any)] true (Bv false))] [1, 6, 7, 8, 33] [1] [Con Tryz.prog 39 [.agg [Zaq false ((at_ ik.Strokes t8.toNat).Points)]] true (Bv false) ∧ True] hB ⟨⟨(Zap h2 (Zgv (at_ ik.Strokes t8.toNat))), trivial⟩, trivial⟩ ?_
   refine Zaa ?_
   refine Zbq ?_
   refine aR [] [2] [] [Bv false] [] [] hB trivial ?_
   refine Zam ?_
   refine Zao (Zak (Zak (Zao (Zak ?_))))
   refine Zan hB (Bv false) (by kernel_rfl) (.inl (by first | rfl | (refine congrArg Bv ?_; simp [Zbp, *]; done) | (refine congrArg Bv ?_; simp [Zbp, *]; omega) | (refine congrArg Bv ?_; simp_all [Zbp]; done) | (refine congrArg Bv ?_; simp_all [Zbp]; omega))) rfl (fun _ => trivial)
  have hall : Znc ik.Strokes.length (Zok ik.Strokes) = true := Zit (fun j hj => hall0 j om)
  refine Zbm [(0, .dec false)] [1, 6, 7, 8, 9] [1] [_] hB ⟨h1, trivial⟩ ?_
  refine Zaa ?_
  refine Zah ?_
  refine Zbj ?_
  refine Zcj ?_
  refine Zal ?_
  refine Zal ?_
  refine Zaw ?_
  refine Zaa ?_
  refine aR [] [2] [] [Bv (decide ((ik.Strokes.length : Int) ≤ 16))] [] [] hB trivial ?_
  refine Zam ?_
  refine Zan hB (Bv (decide ((ik.Strokes.length : Int) ≤ 16))) (by kernel_rfl) (.inl (by first | rfl | (refine congrArg Bv ?_; simp [Zbp, *]; done) | (refine congrArg Bv ?_; simp [Zbp, *]; omega) | (refine congrArg Bv ?_; simp_all [Zbp]; done) | (refine congrArg Bv ?_; simp_all [Zbp]; omega))) rfl (fun _ => trivial)
theorem Zqr (t : Setting) : Con Tryz.prog 16 [Zeg t] true (Bv (Zfa t)) := by
  refine Zbu (fn := Tryz.f16) (nt := 16) Tryz.func16 rfl rfl rfl rfl (by simp [Zag, Zaj]) fun B hB => ?_
  refine aQ [(0, .new 1)] [1] [1] [] hB trivial ?_
  refine Zah ?_
  rcases Bool.eq_false_or_eq_true (inB t.Points 2 24) with h1 | h1
  ·rcases Bool.eq_false_or_eq_true (inB t.Most 1 8) with h2 | h2
   ·refine Zdg [(2, .call [(true, .any), (true, .any), (true, .any)] true (Bv true)), (6, .call [(true, .any), (true, .any), (true, .any)] true (Bv true)), (11, .call [(true, .any), (true, .any), (true, .any)] true (Bv (inB t.Pen 0 1000)))] [2] [] [Bv (inB t.Pen 0 1000)] [] [Con Tryz.prog 35 [I t.Points, I 2, I 24] true (Bv true) ∧ True, Con Tryz.prog 35 [I t.Most, I 1, I 8] true (Bv true) ∧ True, _ ∧ True] hB ⟨⟨(Zap h1 (Zcy t.Points 2 24)), trivial⟩, ⟨(Zap h2 (Zcy t.Most 1 8)), trivial⟩, ⟨(Zcy t.Pen 0 1000), trivial⟩, trivial⟩ ?_
    refine Zaa ?_
    refine Zam ?_
    refine Zan hB (Bv (inB t.Pen 0 1000)) (by kernel_rfl) (.inl (by first | rfl | (refine congrArg Bv ?_; simp [Zfa, *]; done) | (refine congrArg Bv ?_; simp [Zfa, *]; omega) | (refine congrArg Bv ?_; simp_all [Zfa]; done) | (refine congrArg Bv ?_; simp_all [Zfa]; omega))) rfl (fun _ => trivial)
   refine Zdg [(2, .call [(true, .any), (true, .any), (true, .any)] true (Bv true)), (6, .call [(true, .any), (true, .any), (true, .any)] true (Bv false))] [2] [] [Bv false] [] [Con Tryz.prog 35 [I t.Points, I 2, I 24] true (Bv true) ∧ True, Con Tryz.prog 35 [I t.Most, I 1, I 8] true (Bv false) ∧ True] hB ⟨⟨(Zap h1 (Zcy t.Points 2 24)), trivial⟩, ⟨(Zap h2 (Zcy t.Most 1 8)), trivial⟩, trivial⟩ ?_
   refine Zaa ?_
   refine Zam ?_
   refine Zan hB (Bv false) (by kernel_rfl) (.inl (by first | rfl | (refine congrArg Bv ?_; simp [Zfa, *]; done) | (refine congrArg Bv ?_; simp [Zfa, *]; omega) | (refine congrArg Bv ?_; simp_all [Zfa]; done) | (refine congrArg Bv ?_; simp_all [Zfa]; omega))) rfl (fun _ => trivial)
  refine Zdg [(2, .call [(true, .any), (true, .any), (true, .any)] true (Bv false))] [2] [] [Bv false] [] [Con Tryz.prog 35 [I t.Points, I 2, I 24] true (Bv false) ∧ True] hB ⟨⟨(Zap h1 (Zcy t.Points 2 24)), trivial⟩, trivial⟩ ?_
  refine Zaa ?_
  refine Zam ?_
  refine Zan hB (Bv false) (by kernel_rfl) (.inl (by first | rfl | (refine congrArg Bv ?_; simp [Zfa, *]; done) | (refine congrArg Bv ?_; simp [Zfa, *]; omega) | (refine congrArg Bv ?_; simp_all [Zfa]; done) | (refine congrArg Bv ?_; simp_all [Zfa]; omega))) rfl (fun _ => trivial)
def Zrh (s : Stroke) : Bool := decide ((Zby s.Points s.Points.length).X2 - (Zby s.Points s.Points.length).X1 ≤ 160) && decide ((Zby s.Points s.Points.length).Y2 - (Zby s.Points s.Points.length).Y1 ≤ 160)
def Zrf (s : Stroke) (d : Box) : Int := min (Zby s.Points s.Points.length).X2 (d.X2 + 40) - max (Zby s.Points s.Points.length).X1 (d.X1 - 40) + 1
def Zhh (ss : List Stroke) (d : Box) : Nat → Int × Int
 | 0 => (-1, 1)
 | k + 1 => if Zrh (at_ ss k) = false ∧ (Zhh ss d k).2 ≤ Zrf (at_ ss k) d then ((k : Int), Zrf (at_ ss k) d) else Zhh ss d k
def Zdh (ss : List Stroke) (k : Nat) : Int := if Zrh (at_ ss k) = true then (Zhh ss (Zby (at_ ss k).Points (at_ ss k).Points.length) k).1 else -1
theorem Zvx {ss : List Stroke} {d : Box} {k : Int} (h0 : 0 ≤ k) (h1 : Zrh (at_ ss k.toNat) = false) (h2 : (Zhh ss d k.toNat).2 ≤ Zrf (at_ ss k.toNat) d) : Zhh ss d (k + 1).toNat = (k, Zrf (at_ ss k.toNat) d) := by
 have e : (k + 1).toNat = k.toNat + 1 := by omega
 rw [e, Zhh, if_pos ⟨h1, h2⟩, Int.toNat_of_nonneg h0]
theorem Zmi {ss : List Stroke} {d : Box} {k : Int} (h0 : 0 ≤ k) (h : ¬ (Zrh (at_ ss k.toNat) = false ∧ (Zhh ss d k.toNat).2 ≤ Zrf (at_ ss k.toNat) d)) : Zhh ss d (k + 1).toNat = Zhh ss d k.toNat := by
 have e : (k + 1).toNat = k.toNat + 1 := by omega
 rw [e, Zhh, if_neg h]
theorem Zou (ss : List Stroke) (d : Box) : ∀ k : Nat, (-1 ≤ (Zhh ss d k).1 ∧ (Zhh ss d k).1 < (k : Int) ∧ 1 ≤ (Zhh ss d k).2) ∧ ((Zhh ss d k).1 = -1 → (Zhh ss d k).2 = 1) ∧ (0 ≤ (Zhh ss d k).1 → Zrh (at_ ss (Zhh ss d k).1.toNat) = false)
 | 0 => by simp [Zhh]
 | k + 1 => by
  have ih := Zou ss d k
  unfold Zhh
  split
  ·rename_i h
   refine ⟨by simp only; omega, fun e => by simp only at e; omega, fun _ => by simpa using h.1⟩
  ·exact ⟨by omega, ih.2⟩
theorem Ycy (ss : List Stroke) (k : Nat) : -1 ≤ Zdh ss k ∧ Zdh ss k < (k : Int) ∨ Zdh ss k = -1 := by
 unfold Zdh
 split
 ·have := Zou ss (Zby (at_ ss k).Points (at_ ss k).Points.length) k
  omega
 ·exact .inr rfl
theorem Yir {ss : List Stroke} {k : Nat} (h : 0 ≤ Zdh ss k) : (Zrh (at_ ss k) = true ∧ Zdh ss k < (k : Int)) ∧ Zrh (at_ ss (Zdh ss k).toNat) = false ∧ Zdh ss (Zdh ss k).toNat = -1 := by
 unfold Zdh at h
 split at h
 ·rename_i hd
  have hb := Zou ss (Zby (at_ ss k).Points (at_ ss k).Points.length) k
  have e : Zdh ss k = (Zhh ss (Zby (at_ ss k).Points (at_ ss k).Points.length) k).1 := by unfold Zdh; rw [if_pos hd]
  rw [e]
  refine ⟨⟨hd, by omega⟩, hb.2.2 h, ?_⟩
  unfold Zdh
  rw [if_neg (by rw [hb.2.2 h]; exact Bool.false_ne_true)]
 ·omega
def Zpn (h : List Int) (k d : Nat) : List Int := ((List.range d).filter fun q => decide (at_ h q = (k : Int))).map fun (q : Nat) => (q : Int)
def rowL (h : List Int) (k : Nat) : List Int := if 0 ≤ at_ h k then [] else (k : Int) :: Zpn h k h.length
def Zjj (h : List Int) : Nat → List Int
 | 0 => []
 | k + 1 => Zjj h k ++ rowL h k
def Zaz (ss : List Stroke) : List Int := (List.range ss.length).map (Zdh ss)
def Yaw (ss : List Stroke) : List Int := Zjj (Zaz ss) ss.length
theorem Zep (ss : List Stroke) : (Zaz ss).length = ss.length := by simp [Zaz]
theorem Zrc {ss : List Stroke} {k : Nat} (h : k < ss.length) : at_ (Zaz ss) k = Zdh ss k := by simp [at_, Zaz, h]
theorem Zvy {ss : List Stroke} {hs : List Int} (hl : hs.length = ss.length) (h : ∀ j : Nat, j < ss.length → at_ hs j = Zdh ss j) : hs = Zaz ss := by
 refine List.ext_getElem (by rw [hl, Zep]) fun j h1 h2 => ?_
 have := h j om
 rw [Zej h1] at this
 rw [this, ← Zrc om, Zej h2]
theorem Zow {h : List Int} {k d : Int} (h0 : 0 ≤ d) (hk : 0 ≤ k) (e : at_ h d.toNat = k) : Zpn h k.toNat (d + 1).toNat = Zpn h k.toNat d.toNat ++ [d] := by
 have e1 : (d + 1).toNat = d.toNat + 1 := by omega
 simp [Zpn, e1, List.range_succ, e, Int.toNat_of_nonneg hk, Int.toNat_of_nonneg h0]
theorem Ztg {h : List Int} {k d : Int} (h0 : 0 ≤ d) (hk : 0 ≤ k) (e : ¬ at_ h d.toNat = k) : Zpn h k.toNat (d + 1).toNat = Zpn h k.toNat d.toNat := by
 have e1 : (d + 1).toNat = d.toNat + 1 := by omega
 simp [Zpn, e1, List.range_succ, e, Int.toNat_of_nonneg hk]
theorem Zmj (h : List Int) (k d : Nat) : (Zpn h k d).length ≤ d := by
 unfold Zpn
 rw [List.length_map]
 exact Nat.le_trans (List.length_filter_le _ _) (by simp)
theorem Ztf {h : List Int} {k : Int} (h0 : 0 ≤ k) (e : 0 ≤ at_ h k.toNat) : Zjj h (k + 1).toNat = Zjj h k.toNat := by
 have e1 : (k + 1).toNat = k.toNat + 1 := by omega
 rw [e1, Zjj, rowL, if_pos e, List.append_nil]
theorem Zov {h : List Int} {k : Int} {n : Nat} (h0 : 0 ≤ k) (hn : n = h.length) (e : ¬ 0 ≤ at_ h k.toNat) : Zjj h (k + 1).toNat = (Zjj h k.toNat ++ [k]) ++ Zpn h k.toNat n := by
 have e1 : (k + 1).toNat = k.toNat + 1 := by omega
 rw [e1, Zjj, rowL, if_neg e, Int.toNat_of_nonneg h0, List.append_assoc, List.singleton_append, hn]
theorem Zte (h : List Int) : ∀ k : Nat, (Zjj h k).length ≤ k * (h.length + 1)
 | 0 => by simp [Zjj]
 | k + 1 => by
  have := Zte h k
  have := Zmj h k h.length
  have e : (rowL h k).length ≤ h.length + 1 := by unfold rowL; split <;> simp; omega
  rw [Zjj, List.length_append, Nat.add_mul]
  omega
theorem Yis {l : List Nat} {x : Nat} : List.count (x : Int) (l.map fun (q : Nat) => (q : Int)) = List.count x l := by
 induction l with
 | nil => rfl
 | cons a l ih =>
  simp only [List.map_cons, List.count_cons, ih]
  congr 1
  by_cases e : a = x
  ·simp [e]
  ·simp [e]; omega
theorem Zrd {x : Nat} : ∀ {n : Nat}, x < n → List.count x (List.range n) = 1
 | 0, h => by omega
 | n + 1, h => by
  rw [List.range_succ, List.count_append]
  by_cases e : x = n
  ·subst e
   rw [List.count_eq_zero_of_not_mem (by simp)]; simp
  ·rw [Zrd om]
   have : ¬ n = x := by omega
   simp [List.count_cons, this]
theorem Yel {n x : Nat} {p : Nat → Bool} (hx : x < n) : List.count x ((List.range n).filter p) = if p x = true then 1 else 0 := by
 split
 ·rename_i h
  rw [List.count_filter h]
  exact Zrd hx
 ·rename_i h
  exact List.count_eq_zero_of_not_mem fun hm => h (List.mem_filter.1 hm).2
theorem Ycz (ss : List Stroke) {x : Nat} (hx : x < ss.length) : ∀ k : Nat, k ≤ ss.length → List.count (x : Int) (Zjj (Zaz ss) k) = if (if 0 ≤ Zdh ss x then Zdh ss x else (x : Int)) < (k : Int) then 1 else 0
 | 0, _ => by
  have := Ycy ss x
  rw [Zjj, if_neg (by split <;> omega)]; rfl
 | k + 1, hk => by
  have ih := Ycz ss hx k om
  have hh := Zrc (ss := ss) (k := k) om
  rw [Zjj, List.count_append, ih, rowL, hh]
  have hrow : ¬ 0 ≤ Zdh ss k → List.count (x : Int) ((k : Int) :: Zpn (Zaz ss) k (Zaz ss).length) = (if k = x then 1 else 0) + if Zdh ss x = (k : Int) then 1 else 0 := fun _ => by
   rw [List.count_cons, Zpn, Yis, Yel (by rw [Zep]; exact hx), Zrc hx]
   have e1 : (((k : Int) == (x : Int)) = true) ↔ k = x := by simp; omega
   by_cases e : k = x
   ·simp [e]; omega
   ·have : ¬ ((k : Int) = (x : Int)) := by omega
    simp [e, this]
  by_cases h1 : 0 ≤ Zdh ss x
  ·have hd := Yir h1
   simp only [if_pos h1]
   by_cases e : Zdh ss x = (k : Int)
   ·have hk0 : Zdh ss k = -1 := by have := hd.2.2; rw [e] at this; simpa using this
    rw [if_neg om, if_neg om, hrow om, if_pos e]
    have : ¬ k = x := by omega
    simp [this, e]
    omega
   ·by_cases h2 : 0 ≤ Zdh ss k
    ·simp only [if_pos h2, List.count_nil]
     by_cases h3 : Zdh ss x < (k : Int)
     ·rw [if_pos h3, if_pos om]
     ·rw [if_neg h3, if_neg om]
    ·rw [if_neg h2, hrow h2, if_neg e]
     have : ¬ k = x := fun e2 => h2 (by rw [e2]; exact h1)
     simp only [this, if_false]
     by_cases h3 : Zdh ss x < (k : Int)
     ·rw [if_pos h3, if_pos om]
     ·rw [if_neg h3, if_neg om]
  ·simp only [if_neg h1]
   have e : ¬ Zdh ss x = (k : Int) := by omega
   by_cases h2 : 0 ≤ Zdh ss k
   ·have : ¬ k = x := fun e2 => h1 (by rw [← e2]; exact h2)
    simp only [if_pos h2, List.count_nil]
    by_cases h3 : (x : Int) < (k : Int)
    ·rw [if_pos h3, if_pos om]
    ·rw [if_neg h3, if_neg om]
   ·rw [if_neg h2, hrow h2, if_neg e]
    by_cases h3 : (x : Int) < (k : Int)
    ·have : ¬ k = x := by omega
     rw [if_pos h3, if_neg this, if_pos om]
    ·rw [if_neg h3]
     by_cases h4 : k = x
     ·rw [if_pos h4, if_pos om]
     ·rw [if_neg h4, if_neg om]
theorem Yit (ss : List Stroke) : ∀ k : Nat, k ≤ ss.length → ∀ y ∈ Zjj (Zaz ss) k, 0 ≤ y ∧ y < (ss.length : Int)
 | 0, _, y, hy => by simp [Zjj] at hy
 | k + 1, hk, y, hy => by
  rw [Zjj, List.mem_append] at hy
  rcases hy with hy | hy
  ·exact Yit ss k om y hy
  ·unfold rowL at hy
   split at hy
   ·simp at hy
   ·rw [List.mem_cons] at hy
    rcases hy with hy | hy
    ·omega
    ·unfold Zpn at hy
     obtain ⟨q, hq, e⟩ := List.mem_map.1 hy
     have := List.mem_range.1 (List.mem_filter.1 hq).1
     rw [Zep] at this
     omega
def Zjz (n : Nat) : List Int := (List.range n).map fun (q : Nat) => (q : Int)
theorem Zre (ss : List Stroke) : List.Perm (Yaw ss) (Zjz ss.length) := by
 rw [List.perm_iff_count]
 intro y
 by_cases hy : 0 ≤ y ∧ y < (ss.length : Int)
 ·obtain ⟨x, rfl⟩ : ∃ x : Nat, y = (x : Int) := ⟨y.toNat, by omega⟩
  have hb := Ycy ss x
  rw [Yaw, Ycz ss om ss.length (Nat.le_refl _), if_pos (by split <;> omega), Zjz, Yis, Zrd om]
 ·rw [Yaw, List.count_eq_zero_of_not_mem (fun h => hy (Yit ss _ (Nat.le_refl _) y h)), List.count_eq_zero_of_not_mem]
  intro h
  unfold Zjz at h
  obtain ⟨q, hq, e⟩ := List.mem_map.1 h
  have := List.mem_range.1 hq
  omega
theorem Zth (ss : List Stroke) : (Yaw ss).length = ss.length := by rw [(Zre ss).length_eq]; simp [Zjz]
theorem ordL_mem {ss : List Stroke} {y : Int} : y ∈ Yaw ss ↔ 0 ≤ y ∧ y < (ss.length : Int) := by
 rw [(Zre ss).mem_iff]
 constructor
 ·intro h
  obtain ⟨q, hq, e⟩ := List.mem_map.1 h
  have := List.mem_range.1 hq
  omega
 ·intro h
  exact List.mem_map.2 ⟨y.toNat, List.mem_range.2 om, by omega⟩
theorem iota_pw (n : Nat) : (Zjz n).Pairwise fun x y => x ≤ y := by
 unfold Zjz
 rw [List.pairwise_map]
 exact (List.pairwise_lt_range).imp fun h => by omega
theorem Zox (n : Nat) : (Zjz n).length = n := by simp [Zjz]
theorem Yfb {n k : Nat} (h : k < n) : at_ (Zjz n) k = (k : Int) := by simp [at_, Zjz, h]
theorem sortL_pw (xs : List Int) : (Zon xs).Pairwise fun x y => x ≤ y := by
 have h := List.pairwise_mergeSort (le := fun (x y : Int) => decide (x ≤ y)) (fun a b c h1 h2 => by simp only [decide_eq_true_eq] at *; omega) (fun a b => by simp only [Bool.or_eq_true, decide_eq_true_eq]; omega) xs
 exact h.imp fun h => by simpa using h
theorem Yem (xs : List Int) : List.Perm (Zon xs) xs := List.mergeSort_perm _ _
theorem Yiu {a b : List Int} (ha : a.Pairwise fun x y => x ≤ y) (hb : b.Pairwise fun x y => x ≤ y) (h : List.Perm a b) : a = b :=
 List.Perm.eq_of_pairwise (le := fun x y => x ≤ y) (fun x y _ _ h1 h2 => Int.le_antisymm h1 h2) ha hb h
theorem okS_fl {s : Stroke} (h : Zar s = true) : ∀ j, j < s.Points.length → (at_ s.Points 0).T ≤ (at_ s.Points j).T
 | 0, _ => Int.le_refl _
 | j + 1, hj => by
  have ih := okS_fl h j om
  have := okS_T h hj om
  rw [Nat.add_sub_cancel] at this
  omega
theorem okSA_lt {xs : List Stroke} {j : Nat} (h : Zok xs j = true) (hj : 0 < j) : Zrz (at_ xs (j - 1)) < (at_ (at_ xs j).Points 0).T := by
 simp only [Zok, Bool.and_eq_true, Bool.or_eq_true, decide_eq_true_eq] at h
 rcases h.2 with q | q
 ·omega
 ·exact q
theorem okI_sa {x : Ink} (h : Zbp x = true) : ∀ j, j < x.Strokes.length → Zok x.Strokes j = true := by
 simp only [Zbp, Bool.and_eq_true] at h
 exact fun j hj => Zlb h.2 hj
theorem okI_lt {x : Ink} (h : Zbp x = true) {i : Nat} : ∀ j, i < j → j < x.Strokes.length → Zrz (at_ x.Strokes i) < (at_ (at_ x.Strokes j).Points 0).T
 | 0, hij, _ => absurd hij (Nat.not_lt_zero _)
 | j + 1, hij, hj => by
  have a := okSA_lt (okI_sa h _ hj) om
  rw [Nat.add_sub_cancel] at a
  by_cases e : i = j
  ·rw [e]; exact a
  ·have ih := okI_lt (i := i) h j om om
   have hs := Zdc h j om
   have hl := Zeo hs
   have f := okS_fl hs ((at_ x.Strokes j).Points.length - 1) om
   have e2 : Zrz (at_ x.Strokes j) = (at_ (at_ x.Strokes j).Points ((at_ x.Strokes j).Points.length - 1)).T := rfl
   omega
theorem Yiv {ss : List Stroke} (hl : ss.length ≤ 16) (h1 : ∀ s ∈ ss, Zar s = true) (h2 : ss.Pairwise fun a b => Zrz a < (at_ b.Points 0).T) : Zbp ⟨ss⟩ = true := by
 simp only [Zbp, Bool.and_eq_true, decide_eq_true_eq]
 refine ⟨by omega, Zit fun j hj => ?_⟩
 simp only [Zok, Bool.and_eq_true, Bool.or_eq_true, decide_eq_true_eq]
 refine ⟨h1 _ (Zdf hj), ?_⟩
 by_cases e : j = 0
 ·exact .inl e
 ·right
  rw [Zej hj, Zej (show j - 1 < ss.length by omega)]
  exact (List.pairwise_iff_getElem.1 h2) (j - 1) j om hj om
def okG (n : Int) (g : Group) : Prop := 0 ≤ g.From ∧ g.From < g.To ∧ g.To ≤ n
def Yfa (x : Ink) (g : Group) : List Int := ((Yaw x.Strokes).drop g.From.toNat).take (g.To.toNat - g.From.toNat)
def grpK (x : Ink) (g : Group) : List Int := (Zjz x.Strokes.length).filter fun k => decide (k ∈ Yfa x g)
def Zlc (x : Ink) (g : Group) : Ink := ⟨(grpK x g).map fun k => at_ x.Strokes k.toNat⟩
theorem Yiw (n : Nat) : (Zjz n).Pairwise fun x y => x < y := by
 unfold Zjz
 rw [List.pairwise_map]
 exact List.pairwise_lt_range.imp fun {a b} h => by omega
theorem Yix (n : Nat) : (Zjz n).Nodup := (Yiw n).imp fun {a b} h e => by omega
theorem Yda {n : Nat} {k : Int} : k ∈ Zjz n ↔ 0 ≤ k ∧ k < (n : Int) := by
 unfold Zjz
 rw [List.mem_map]
 constructor
 ·rintro ⟨q, hq, rfl⟩
  rw [List.mem_range] at hq
  omega
 ·rintro ⟨h1, h2⟩
  exact ⟨k.toNat, List.mem_range.2 om, by omega⟩
theorem grpO_nd (x : Ink) (g : Group) : (Yfa x g).Nodup := (((Zre x.Strokes).nodup_iff.2 (Yix _)).sublist (List.drop_sublist _ _)).sublist (List.take_sublist _ _)
theorem grpO_in {x : Ink} {g : Group} {k : Int} (h : k ∈ Yfa x g) : 0 ≤ k ∧ k < (x.Strokes.length : Int) := ordL_mem.1 (List.mem_of_mem_drop (List.mem_of_mem_take h))
theorem Zyi (x : Ink) (g : Group) : (Yfa x g).Perm (grpK x g) := by
 refine (List.perm_ext_iff_of_nodup (grpO_nd x g) ((Yix _).sublist List.filter_sublist)).2 fun k => ?_
 rw [List.mem_filter, decide_eq_true_eq]
 exact ⟨fun h => ⟨Yda.2 (grpO_in h), h⟩, fun h => h.2⟩
theorem Yhz (x : Ink) (g : Group) : Zon (Yfa x g) = grpK x g := Yiu (sortL_pw _) ((iota_pw _).sublist List.filter_sublist) ((Yem _).trans (Zyi x g))
theorem Zvj {x : Ink} {g : Group} (h : okG (x.Strokes.length : Int) g) : ((grpK x g).length : Int) = g.To - g.From := by
 rw [← (Zyi x g).length_eq]
 unfold Yfa
 have h1 := h.1
 have h2 := h.2.1
 have h3 := h.2.2
 rw [List.length_take, List.length_drop, Zth]
 omega
theorem Zvk {x : Ink} {g : Group} {k : Int} (h : k ∈ grpK x g) : 0 ≤ k ∧ k < (x.Strokes.length : Int) := Yda.1 (List.mem_filter.1 h).1
theorem Ztt {x : Ink} (h : Zbp x = true) {g : Group} (hg : okG (x.Strokes.length : Int) g) : Zbp (Zlc x g) = true := by
 have hl := Zgp h
 have hk := Zvj hg
 have h1 := hg.1
 have h3 := hg.2.2
 refine Yiv (by rw [List.length_map]; omega) (fun s hs => ?_) ?_
 ·obtain ⟨k, hk, rfl⟩ := List.mem_map.1 hs
  have := Zvk hk
  exact Zdc h _ om
 ·rw [List.pairwise_map]
  have hp : (grpK x g).Pairwise fun a b => a < b := (Yiw _).sublist List.filter_sublist
  refine hp.imp_of_mem fun {a b} ha hb hab => ?_
  have ha := Zvk ha
  have hb := Zvk hb
  exact okI_lt h _ om om
theorem Ycj {x : Ink} {g : Group} (hg : okG (x.Strokes.length : Int) g) : ((Zlc x g).Strokes.length : Int) = g.To - g.From := by
 show ((List.map _ (grpK x g)).length : Int) = _
 rw [List.length_map]; exact Zvj hg
theorem Zzz (places : Int) (hp : 0 ≤ places ∧ places ≤ 1000) : ∃ (ls : List Group), (∀ g_ ∈ ls, okG places g_ ∧ g_.To ≤ g_.From + 3) ∧ (ls.Pairwise fun x_ y_ => x_.From < y_.From ∨ (x_.From = y_.From ∧ x_.To < y_.To)) ∧ ((ls.length : Int) ≤ 3 * places) ∧ Con Tryz.prog 17 [I places] true (Zfd true ls) := by
  have hh : ∃ r : (List Group), ((∀ g_ ∈ r, okG places g_ ∧ g_.To ≤ g_.From + 3) ∧ (r.Pairwise fun x_ y_ => x_.From < y_.From ∨ (x_.From = y_.From ∧ x_.To < y_.To)) ∧ ((r.length : Int) ≤ 3 * places) ∧ (True)) ∧ Zbb Tryz.prog 17 [I places] (Zaf []) true (Zfd true r) (Zaf []) := by
    refine Zdv (Φ := fun r : (List Group) => (∀ g_ ∈ r, okG places g_ ∧ g_.To ≤ g_.From + 3) ∧ (r.Pairwise fun x_ y_ => x_.From < y_.From ∨ (x_.From = y_.From ∧ x_.To < y_.To)) ∧ ((r.length : Int) ≤ 3 * places) ∧ (True)) [] (fun r => []) (fn := Tryz.f17) (nt := 28) Tryz.func17 rfl rfl (args := [I places]) rfl (Zbd (.inl ⟨rfl, trivial⟩) Zdp) (res := fun r => Zfd true r) ?_
    refine xQ [] [0] [] [] trivial ?_
    refine xQ [] [0, 3] [] [] trivial ?_
    refine Zat ?_
    refine xR [] [0, 3, 4] [] [I places, Zcr, I 0] [] [] trivial ?_
    refine Zbn ?_
    refine Yfk 3 703 2 (fun _ => []) (by kernel_rfl) ?_
    refine Zcw [] (T := [(0, I places), (3, .arr 703), (4, I 0)]) (O := [(703, Zii ([] : List Group))]) rfl (⟨.inl rfl, .inl rfl, .inl rfl, trivial⟩) (⟨.inr ⟨rfl, (by first | rfl | (simp; done) | (simp; omega) | omega), fun i_ hi_ => absurd hi_ (Nat.not_lt_zero _)⟩, trivial⟩) ?_
    refine Zeb (X := (List Group) × Int) (fun x => mkS [(0, I places), (3, .arr 703), (4, I x.2)] [(703, Zii x.1)]) (fun x => (0 ≤ x.2 ∧ x.2 ≤ places) ∧ ((x.1.length : Int) ≤ 3 * x.2) ∧ (∀ g_ ∈ x.1, (okG places g_ ∧ g_.To ≤ g_.From + 3) ∧ g_.From < x.2) ∧ (x.1.Pairwise fun x_ y_ => x_.From < y_.From ∨ (x_.From = y_.From ∧ x_.To < y_.To)) ∧ True) (fun x => (places - x.2).toNat) (([] : List Group), 0) rfl (show (0 ≤ (0 : Int) ∧ (0 : Int) ≤ places) ∧ ((([] : List Group).length : Int) ≤ 3 * (0 : Int)) ∧ (∀ g_ ∈ ([] : List Group), (okG places g_ ∧ g_.To ≤ g_.From + 3) ∧ g_.From < (0 : Int)) ∧ (([] : List Group).Pairwise fun x_ y_ => x_.From < y_.From ∨ (x_.From = y_.From ∧ x_.To < y_.To)) ∧ True from ⟨om, (by simp), (by simp), (by exact List.Pairwise.nil), trivial⟩) (fun x hI => ?_)
    obtain ⟨ls, fr⟩ := x
    obtain ⟨hf0, hl0, hg0, hg1, _⟩ : (0 ≤ fr ∧ fr ≤ places) ∧ ((ls.length : Int) ≤ 3 * fr) ∧ (∀ g_ ∈ ls, (okG places g_ ∧ g_.To ≤ g_.From + 3) ∧ g_.From < fr) ∧ (ls.Pairwise fun x_ y_ => x_.From < y_.From ∨ (x_.From = y_.From ∧ x_.To < y_.To)) ∧ True := hI
    show XW _ _ _ _ (mkS [(0, I places), (3, .arr 703), (4, I fr)] [(703, Zii ls)]) _ _
    refine Zat ?_
    refine Zat ?_
    by_cases h1 : fr < places
    ·refine x_q [(2, .dec true)] [0, 3, 4, 8] [703] [_] ⟨h1, trivial⟩ ?_
     refine Zad ?_
     refine Zfl ?_
     refine Zbv ?_
     refine Zad ?_
     refine Zat ?_
     refine Zbn ?_
     refine xR [] [0, 3, 4, 5] [703] [I places, .arr 703, I fr, I (fr + 1)] [some (Zii ls)] [inR .i64 (fr + 1)] ⟨(Zac om om), trivial⟩ ?_
     refine Zbn ?_
     refine Zeb (X := (List Group) × Int) (fun x => mkS [(0, I places), (3, .arr 703), (4, I fr), (5, I x.2)] [(703, Zii x.1)]) (fun x => (fr + 1 ≤ x.2 ∧ x.2 ≤ fr + 4) ∧ ((x.1.length : Int) ≤ 3 * fr + (x.2 - fr - 1)) ∧ (∀ g_ ∈ x.1, (okG places g_ ∧ g_.To ≤ g_.From + 3) ∧ (g_.From < fr ∨ (g_.From = fr ∧ g_.To < x.2))) ∧ (x.1.Pairwise fun x_ y_ => x_.From < y_.From ∨ (x_.From = y_.From ∧ x_.To < y_.To)) ∧ True) (fun x => (fr + 4 - x.2).toNat) (ls, (fr + 1)) rfl (show (fr + 1 ≤ (fr + 1) ∧ (fr + 1) ≤ fr + 4) ∧ ((ls.length : Int) ≤ 3 * fr + ((fr + 1) - fr - 1)) ∧ (∀ g_ ∈ ls, (okG places g_ ∧ g_.To ≤ g_.From + 3) ∧ (g_.From < fr ∨ (g_.From = fr ∧ g_.To < (fr + 1)))) ∧ (ls.Pairwise fun x_ y_ => x_.From < y_.From ∨ (x_.From = y_.From ∧ x_.To < y_.To)) ∧ True from ⟨om, om, (by (intro g_ hg_; have q_ := hg0 g_ hg_; exact ⟨q_.1, .inl q_.2⟩)), (by assumption), trivial⟩) (fun x hI => ?_)
     obtain ⟨ls2, to⟩ := x
     obtain ⟨ht0, hl2, hg2, hg3, _⟩ : (fr + 1 ≤ to ∧ to ≤ fr + 4) ∧ ((ls2.length : Int) ≤ 3 * fr + (to - fr - 1)) ∧ (∀ g_ ∈ ls2, (okG places g_ ∧ g_.To ≤ g_.From + 3) ∧ (g_.From < fr ∨ (g_.From = fr ∧ g_.To < to))) ∧ (ls2.Pairwise fun x_ y_ => x_.From < y_.From ∨ (x_.From = y_.From ∧ x_.To < y_.To)) ∧ True := hI
     show XW _ _ _ _ (mkS [(0, I places), (3, .arr 703), (4, I fr), (5, I to)] [(703, Zii ls2)]) _ _
     refine Zat ?_
     refine Zat ?_
     by_cases h2 : to ≤ (min (fr + 3) places)
     ·refine x_q [(5, .dec true)] [0, 3, 4, 5, 18] [703] [inR .i64 (fr + 3), _] ⟨(Zac om om), h2, trivial⟩ ?_
      refine Zad ?_
      refine Zfl ?_
      refine Zbv ?_
      refine Zad ?_
      refine Zat ?_
      refine Zbn ?_
      refine x_q [(4, .new 25), (5, .new 26)] [0, 3, 4, 5] [26] [(ls2.length + 1) * 16 ≤ 140737488355328] ⟨om, trivial⟩ ?_
      refine Zbo 3 ?_
      refine Zad ?_
      refine x_r [] [0, 3, 4, 5] [26] [I places, .arr 26, I fr, I (to + 1)] [some (.arr 2 (ls2.length + 1) (Zgb ls2.length (Yiy ls2) (Zgm [I fr, I to] 2)))] [inR .i64 (to + 1)] ⟨(Zac om om), trivial⟩ ?_
      refine Zcl [(703, 26)] (T := [(0, I places), (3, .arr 703), (4, I fr), (5, I (to + 1))]) (O := [(703, Zii (ls2 ++ [(Group.mk fr to)]))]) rfl (⟨.inl rfl, .inl rfl, .inl rfl, .inl rfl, trivial⟩) (⟨.inr ⟨rfl, (by first | rfl | (simp; done) | (simp; omega) | omega), fun i_ hi_ => .inl (Zcm (enc := Ydb) (xs := ls2) rfl i_ hi_)⟩, trivial⟩) (Zbh ((ls2 ++ [(Group.mk fr to)]), (to + 1)) rfl (show (fr + 1 ≤ (to + 1) ∧ (to + 1) ≤ fr + 4) ∧ (((ls2 ++ [(Group.mk fr to)]).length : Int) ≤ 3 * fr + ((to + 1) - fr - 1)) ∧ (∀ g_ ∈ (ls2 ++ [(Group.mk fr to)]), (okG places g_ ∧ g_.To ≤ g_.From + 3) ∧ (g_.From < fr ∨ (g_.From = fr ∧ g_.To < (to + 1)))) ∧ ((ls2 ++ [(Group.mk fr to)]).Pairwise fun x_ y_ => x_.From < y_.From ∨ (x_.From = y_.From ∧ x_.To < y_.To)) ∧ True from ⟨om, (by simp; omega), (by (intro g_ hg_; rcases List.mem_append.1 hg_ with q | q; (have q_ := hg2 g_ q; exact ⟨q_.1, by rcases q_.2 with w | w; (exact .inl w); (exact .inr ⟨w.1, by omega⟩)⟩); (rw [List.mem_singleton] at q; subst q; exact ⟨⟨⟨by dsimp only; omega, by dsimp only; omega, by dsimp only; omega⟩, by dsimp only; omega⟩, .inr ⟨rfl, by dsimp only; omega⟩⟩))), (by (rw [List.pairwise_append]; refine ⟨hg3, by simp, fun a_ ha_ b_ hb_ => ?_⟩; rw [List.mem_singleton] at hb_; subst hb_; exact (hg2 a_ ha_).2)), trivial⟩) (by first | (show ((fr + 4 - (to + 1)).toNat : Nat) < (fr + 4 - to).toNat; omega) | (dsimp only; omega)))
     refine x_r [(5, .dec false)] [0, 3, 4, 5, 18] [703] [I places, .arr 703, I fr, I to, Bv false] [some (Zii ls2)] [inR .i64 (fr + 3), _] ⟨(Zac om om), h2, trivial⟩ ?_
     refine Zad ?_
     refine Zcd rfl ?_
     refine Zde ?_
     refine Zax ?_
     refine Zbe ?_
     refine Zay ?_
     refine Zbo 1 ?_
     refine Zad ?_
     refine x_r [] [0, 3, 4] [703] [I places, .arr 703, I (fr + 1)] [some (Zii ls2)] [inR .i64 (fr + 1)] ⟨(Zac om om), trivial⟩ ?_
     exact Zbh (ls2, (fr + 1)) rfl (show (0 ≤ (fr + 1) ∧ (fr + 1) ≤ places) ∧ ((ls2.length : Int) ≤ 3 * (fr + 1)) ∧ (∀ g_ ∈ ls2, (okG places g_ ∧ g_.To ≤ g_.From + 3) ∧ g_.From < (fr + 1)) ∧ (ls2.Pairwise fun x_ y_ => x_.From < y_.From ∨ (x_.From = y_.From ∧ x_.To < y_.To)) ∧ True from ⟨om, om, (by (intro g_ hg_; have q_ := hg2 g_ hg_; exact ⟨q_.1, by rcases q_.2 with q | q <;> omega⟩)), (by assumption), trivial⟩) (by first | (show ((places - (fr + 1)).toNat : Nat) < (places - fr).toNat; omega) | (dsimp only; omega))
    refine x_r [(2, .dec false)] [0, 3, 4, 8] [703] [I places, .arr 703, I fr, Bv false] [some (Zii ls)] [_] ⟨h1, trivial⟩ ?_
    refine Zad ?_
    refine Zcd rfl ?_
    refine Zde ?_
    refine Zax ?_
    refine Zbe ?_
    refine Zay ?_
    refine Zad ?_
    refine xR [] [2] [703] [.arr 703] [some (Zii ls)] [] trivial ?_
    refine Zem ?_
    refine Zcz ls (show (∀ g_ ∈ ls, okG places g_ ∧ g_.To ≤ g_.From + 3) ∧ (ls.Pairwise fun x_ y_ => x_.From < y_.From ∨ (x_.From = y_.From ∧ x_.To < y_.To)) ∧ ((ls.length : Int) ≤ 3 * places) ∧ (True) from ⟨(by exact fun g_ hg_ => (hg0 g_ hg_).1), (by exact hg1), om, trivial⟩) (trivial) (.arr 703) (by kernel_rfl) (.inr ⟨(fun _ => rfl), rfl, rfl, fun i _ => .inl rfl⟩) (fun _ => rfl) (fun _ => (tagGroup true _))
  obtain ⟨ls, ⟨hh0, hh1, hh2, _⟩, hc⟩ := hh
  exact ⟨ls, hh0, hh1, hh2, hc⟩
theorem Zof (a : Box) (b : Box) : Con Tryz.prog 118 [Zfo a, Zfo b] true (Zfo (Zdx a b)) := by
 refine Zbu (fn := Tryz.f118) (nt := 26) Tryz.func118 rfl rfl rfl rfl (by simp [Zag, Zaj]) fun B hB => ?_
 refine aQ [(0, .new 2), (1, .new 3), (2, .new 4)] [2, 3, 4] [2, 3, 4] [] hB trivial ?_
 refine aR [] [4] [4] [.ref 4 0] [some (.box [I (min a.X1 b.X1), I (min a.Y1 b.Y1), I (max a.X2 b.X2), I (max a.Y2 b.Y2)])] [] hB trivial ?_
 refine Zam ?_
 refine Zan hB (.agg [I (min a.X1 b.X1), I (min a.Y1 b.Y1), I (max a.X2 b.X2), I (max a.Y2 b.Y2)]) (by kernel_rfl) (.inl (by first | rfl | (refine congrArg Bv ?_; simp [*]; done) | (refine congrArg Bv ?_; simp [*]; omega) | (refine congrArg Bv ?_; simp_all []; done) | (refine congrArg Bv ?_; simp_all []; omega))) rfl (fun _ => (by simp [Zaj, Zag]))
end Go.Proofs.YtapmeemeciigdaaGreat.Ax
