/- Contracts that the statement FnClasses reaches, part 3. No conditions. -/
import Derived.Test.YtblhhmcplocepaaAxLClasses2
import Derived.Test.YtblhhmcplocepaaAxQ
import Derived.Test.YtblhhmcplocepaaAxR
import Derived.Test.YtblhhmcplocepaaAxS
import Derived.Test.YtblhhmcplocepaaDelShelf
namespace Go.Proofs.Ytblhhmcplocepaa.Ax
open Go.RowKit Go.ChangeShapes Go.WideShapes
set_option linter.unusedVariables false
set_option linter.unusedSimpArgs false


-- impl.areFeats
theorem containsFeat_ok_idx (s : List Feat) : Con Try.prog 106 [slFeat false s, .fn 96 []] true (I (firstN s.length (fun j => (!(okF (at_ s j)))))) := by
  refine fn_ok (fn := Try.f106) (nt := 19) Try.func106 rfl rfl rfl rfl (by simp [taggedL, tagged, tagFeat]) fun B hB => ?_
  refine aw_lens (x := slFeat false s) 0 rfl (fun len_s => ?_)
  simp [LenOK, LenL, cFeat, fFeat, slFeat] at len_s
  refine aR [] [0, 1] [] [slFeat false s, .fn 96 []] [] [] hB trivial ?_
  refine aw_seq ?_
  refine aR [] [0, 1, 7, 8] [] [slFeat false s, .fn 96 [], I (s.length : Int), I 0] [] [] hB trivial ?_
  refine aw_block ?_
  refine aw_loop (fun gn gσ => ∃ (t8 : Int), gn = ((s.length : Int) - t8).toNat ∧ (0 ≤ t8 ∧ t8 ≤ (s.length : Int)) ∧ (∀ j : Nat, (j : Int) < t8 → (!(okF (at_ s j))) = false) ∧ gσ = mkS [(0, slFeat false s), (1, .fn 96 []), (7, I (s.length : Int)), (8, I t8)] []) (((s.length : Int) - 0).toNat) ⟨0, rfl, (by omega), (by intro j hj; omega), rfl⟩ (fun gn gσ hI => ?_)
  obtain ⟨t8, rfl, hi0, hall0, rfl⟩ := hI
  refine aw_seq ?_
  by_cases h1 : t8 < (s.length : Int)
  ·have hi : t8.toNat < s.length := by omega
   refine aw_r [(0, .dec true)] [0, 1, 7, 8, 9] [] [slFeat false s, .fn 96 [], I (s.length : Int), I t8, Bv true] [] [t8 < (s.length : Int)] hB ⟨h1, trivial⟩ ?_
   refine ae_then ?_
   refine aw_seq ?_
   refine aw_true rfl ?_
   refine aw_skip ?_
   refine ae_then ?_
   refine aw_seq ?_
   refine aw_block ?_
   refine aR [] [0, 1, 5, 7, 8] [] [slFeat false s, .fn 96 [], I t8, I (s.length : Int), I t8] [] [] hB trivial ?_
   refine aw_seq ?_
   rcases Bool.eq_false_or_eq_true (!(okF (at_ s t8.toNat))) with h2 | h2
   ·have hfin : firstN s.length (fun j => (!(okF (at_ s j)))) = t8.toNat := firstN_hit hi h2 (fun j hj => hall0 j (by omega))
    refine aw_r [(5, .call [(true, .any)] true (Bv true))] [0, 1, 5, 7, 8, 16] [] [slFeat false s, .fn 96 [], I t8, I (s.length : Int), I t8, Bv true] [] [(0 : Int) ≤ t8 ∧ t8 < (s.length : Int), Con Try.prog 96 [agFeat (at_ s t8.toNat)] true (Bv true) ∧ True] hB ⟨⟨(by omega), (by omega)⟩, ⟨(con_bool h2 (areFeats1_ok (at_ s t8.toNat))), trivial⟩, trivial⟩ ?_
    refine ae_then ?_
    refine aw_true rfl ?_
    refine aR [] [4] [] [I t8] [] [] hB trivial ?_
    refine aw_ret ?_
    refine ae_ret_block (ae_ret_then (ae_ret_then (ae_ret_block (ae_ret_then ?_))))
    refine ae_ret hB (I t8) (by kernel_rfl) (.inl (by refine congrArg I ?_; first | (rw [hfin]; done) | (rw [hfin]; omega))) rfl (fun _ => trivial)
   refine aw_r [(5, .call [(true, .any)] true (Bv false))] [0, 1, 5, 7, 8, 16] [] [slFeat false s, .fn 96 [], I t8, I (s.length : Int), I t8, Bv false] [] [(0 : Int) ≤ t8 ∧ t8 < (s.length : Int), Con Try.prog 96 [agFeat (at_ s t8.toNat)] true (Bv false) ∧ True] hB ⟨⟨(by omega), (by omega)⟩, ⟨(con_bool h2 (areFeats1_ok (at_ s t8.toNat))), trivial⟩, trivial⟩ ?_
   refine ae_then ?_
   refine aw_false rfl ?_
   refine aw_skip ?_
   refine ae_block 1 ?_
   refine ae_then ?_
   refine aw_r [] [0, 1, 7, 8] [] [slFeat false s, .fn 96 [], I (s.length : Int), I (t8 + 1)] [] [inR .i64 (t8 + 1)] hB ⟨(inR_i64 (by omega) (by omega)), trivial⟩ ?_
   exact ae_again _ (by omega) ⟨(t8 + 1), rfl, (by omega), (by intro j hj; by_cases ej : j = t8.toNat; (subst ej; first | assumption | rfl); exact hall0 j (by omega)), rfl⟩
  have hfin : firstN s.length (fun j => (!(okF (at_ s j)))) = -1 := firstN_none (fun j hj => hall0 j (by omega))
  refine aw_r [(0, .dec false)] [0, 1, 7, 8, 9] [] [slFeat false s, .fn 96 [], I (s.length : Int), I t8, Bv false] [] [¬ (t8 < (s.length : Int))] hB ⟨h1, trivial⟩ ?_
  refine ae_then ?_
  refine aw_seq ?_
  refine aw_false rfl ?_
  refine aw_exit ?_
  refine ae_exit_then ?_
  refine ae_exit_then ?_
  refine ae_exit_same ?_
  refine ae_then ?_
  refine aR [] [4] [] [I (-1)] [] [] hB trivial ?_
  refine aw_ret ?_
  refine ae_ret hB (I (-1)) (by kernel_rfl) (.inl (by refine congrArg I ?_; first | (rw [hfin]; done) | (rw [hfin]; omega))) rfl (fun _ => trivial)

theorem containsFeat_ok (s : List Feat) : Con Try.prog 95 [slFeat false s, .fn 96 []] true (Bv (anyN s.length (fun j => (!(okF (at_ s j)))))) := by
  refine fn_ok (fn := Try.f95) (nt := 9) Try.func95 rfl rfl rfl rfl (by simp [taggedL, tagged, tagFeat]) fun B hB => ?_
  refine aw_lens (x := slFeat false s) 0 rfl (fun len_s => ?_)
  simp [LenOK, LenL, cFeat, fFeat, slFeat] at len_s
  refine aR [] [0, 1] [] [slFeat false s, .fn 96 []] [] [] hB trivial ?_
  refine aR [(2, .call [(true, .any), (true, .any)] true (I (firstN s.length (fun j => (!(okF (at_ s j)))))))] [4] [] [Bv (decide (0 ≤ (firstN s.length (fun j => (!(okF (at_ s j)))))))] [] [Con Try.prog 106 [slFeat false s, .fn 96 []] true (I (firstN s.length (fun j => (!(okF (at_ s j)))))) ∧ True] hB ⟨⟨(containsFeat_ok_idx s), trivial⟩, trivial⟩ ?_
  refine aw_ret ?_
  refine ae_ret hB (Bv (decide (0 ≤ (firstN s.length (fun j => (!(okF (at_ s j)))))))) (by kernel_rfl) (.inl (by exact congrArg Bv (firstN_any _ _))) rfl (fun _ => trivial)

theorem areFeats_ok (list : List Feat) (most : Int) : Con Try.prog 72 [slFeat false list, I most] true (Bv (okFeats list most)) := by
  refine fn_ok (fn := Try.f72) (nt := 19) Try.func72 rfl rfl rfl rfl (by simp [taggedL, tagged, tagFeat]) fun B hB => ?_
  refine aw_lens (x := slFeat false list) 0 rfl (fun len_list => ?_)
  simp [LenOK, LenL, cFeat, fFeat, slFeat] at len_list
  refine aR [] [0, 1] [] [slFeat false list, I most] [] [] hB trivial ?_
  refine aw_seq ?_
  by_cases h1 : 1 ≤ (list.length : Int)
  ·by_cases h2 : (list.length : Int) ≤ most
   ·refine aw_r [(2, .dec true), (7, .dec true), (11, .call [(true, .any), (true, .any)] true (Bv (anyN list.length (fun j => (!(okF (at_ list j)))))))] [4] [] [Bv (!(anyN list.length (fun j => (!(okF (at_ list j))))))] [] [1 ≤ (list.length : Int), (list.length : Int) ≤ most, Con Try.prog 95 [slFeat false list, .fn 96 []] true (Bv (anyN list.length (fun j => (!(okF (at_ list j)))))) ∧ True] hB ⟨h1, h2, ⟨(containsFeat_ok list), trivial⟩, trivial⟩ ?_
    refine ae_then ?_
    refine aw_ret ?_
    refine ae_ret hB (Bv (!(anyN list.length (fun j => (!(okF (at_ list j))))))) (by kernel_rfl) (.inl (by first | rfl | (refine congrArg Bv ?_; simp [okFeats, anyN_not, *]; done) | (refine congrArg Bv ?_; simp [okFeats, anyN_not, *]; omega) | (refine congrArg Bv ?_; simp_all [okFeats, anyN_not]; done) | (refine congrArg Bv ?_; simp_all [okFeats, anyN_not]; omega))) rfl (fun _ => trivial)
   refine aw_r [(2, .dec true), (7, .dec false)] [4] [] [Bv false] [] [1 ≤ (list.length : Int), ¬ ((list.length : Int) ≤ most)] hB ⟨h1, h2, trivial⟩ ?_
   refine ae_then ?_
   refine aw_ret ?_
   refine ae_ret hB (Bv false) (by kernel_rfl) (.inl (by first | rfl | (refine congrArg Bv ?_; simp [okFeats, anyN_not, *]; done) | (refine congrArg Bv ?_; simp [okFeats, anyN_not, *]; omega) | (refine congrArg Bv ?_; simp_all [okFeats, anyN_not]; done) | (refine congrArg Bv ?_; simp_all [okFeats, anyN_not]; omega))) rfl (fun _ => trivial)
  refine aw_r [(2, .dec false)] [4] [] [Bv false] [] [¬ (1 ≤ (list.length : Int))] hB ⟨h1, trivial⟩ ?_
  refine ae_then ?_
  refine aw_ret ?_
  refine ae_ret hB (Bv false) (by kernel_rfl) (.inl (by first | rfl | (refine congrArg Bv ?_; simp [okFeats, anyN_not, *]; done) | (refine congrArg Bv ?_; simp [okFeats, anyN_not, *]; omega) | (refine congrArg Bv ?_; simp_all [okFeats, anyN_not]; done) | (refine congrArg Bv ?_; simp_all [okFeats, anyN_not]; omega))) rfl (fun _ => trivial)


-- impl.ValidFeats
theorem ValidFeats_ok (list : List Feat) : Con Try.prog 35 [slFeat false list] true (Bv (okFeats list 384)) := by
  refine fn_ok (fn := Try.f35) (nt := 5) Try.func35 rfl rfl rfl rfl (by simp [taggedL, tagged, tagFeat]) fun B hB => ?_
  refine aw_lens (x := slFeat false list) 0 rfl (fun len_list => ?_)
  simp [LenOK, LenL, cFeat, fFeat, slFeat] at len_list
  refine aR [] [0] [] [slFeat false list] [] [] hB trivial ?_
  refine aR [(1, .call [(true, .any), (true, .any)] true (Bv (okFeats list 384)))] [2] [] [Bv (okFeats list 384)] [] [Con Try.prog 72 [slFeat false list, I 384] true (Bv (okFeats list 384)) ∧ True] hB ⟨⟨(areFeats_ok list 384), trivial⟩, trivial⟩ ?_
  refine aw_ret ?_
  refine ae_ret hB (Bv (okFeats list 384)) (by kernel_rfl) (.inl rfl) rfl (fun _ => trivial)


-- impl.floorDiv
theorem floorDiv_ok (n : Int) (d : Int) (hn : (-4611686018427387904 ≤ n ∧ n ≤ 4611686018427387904) ∧ 0 < d) : Con Try.prog 98 [I n, I d] true (I (n / d)) := by
  have hq := tdiv_bd n d
  have hs := down_spec n hn.2
  refine fn_ok (fn := Try.f98) (nt := 16) Try.func98 rfl rfl rfl rfl (by simp [taggedL, tagged]) fun B hB => ?_
  refine aR [] [0, 1] [] [I n, I d] [] [] hB trivial ?_
  refine aR [] [0, 1, 5] [] [I n, I d, I (Int.tdiv n d)] [] [(d : Int) ≠ 0 ∧ inR .i64 (Int.tdiv n d)] hB ⟨⟨by omega, (inR_i64 (by omega) (by omega))⟩, trivial⟩ ?_
  refine aw_seq ?_
  refine aw_seq ?_
  by_cases h1 : (Int.tmod n d) < 0
  ·refine aw_r [(3, .dec true)] [5, 12] [] [I (Int.tdiv n d), Bv true] [] [(d : Int) ≠ 0, (Int.tmod n d) < 0] hB ⟨(by omega), h1, trivial⟩ ?_
   refine ae_then ?_
   refine aw_true rfl ?_
   refine aw_r [] [5] [] [I ((Int.tdiv n d) - 1)] [] [inR .i64 ((Int.tdiv n d) - 1)] hB ⟨(inR_i64 (by omega) (by omega)), trivial⟩ ?_
   refine ae_then ?_
   refine aR [] [4] [] [I ((Int.tdiv n d) - 1)] [] [] hB trivial ?_
   refine aw_ret ?_
   refine ae_ret hB (I ((Int.tdiv n d) - 1)) (by kernel_rfl) (.inl (by refine congrArg I ?_; first | exact hs.1 (by assumption) | exact hs.2 (by assumption))) rfl (fun _ => trivial)
  refine aw_r [(3, .dec false)] [5, 12] [] [I (Int.tdiv n d), Bv false] [] [(d : Int) ≠ 0, ¬ ((Int.tmod n d) < 0)] hB ⟨(by omega), h1, trivial⟩ ?_
  refine ae_then ?_
  refine aw_false rfl ?_
  refine aw_skip ?_
  refine ae_then ?_
  refine aR [] [4] [] [I (Int.tdiv n d)] [] [] hB trivial ?_
  refine aw_ret ?_
  refine ae_ret hB (I (Int.tdiv n d)) (by kernel_rfl) (.inl (by refine congrArg I ?_; first | exact hs.1 (by assumption) | exact hs.2 (by assumption))) rfl (fun _ => trivial)


-- impl.nearestDiv
theorem nearestDiv_ok (n : Int) (d : Int) (hn : (-1000000000000000000 ≤ n ∧ n ≤ 1000000000000000000) ∧ 0 < d ∧ d ≤ 1000000000000000000) : Con Try.prog 73 [I n, I d] true (I (nearI n d)) := by
  have hs := near_spec n hn.2.1
  have hrb := rest_bd n hn.2.1
  have heb := ediv_bd n hn.2.1
  refine fn_ok (fn := Try.f73) (nt := 23) Try.func73 rfl rfl rfl rfl (by simp [taggedL, tagged]) fun B hB => ?_
  refine aR [] [0, 1] [] [I n, I d] [] [] hB trivial ?_
  refine aR [(2, .call [(true, .any), (true, .any)] true (I (n / d)))] [0, 1, 5] [] [I n, I d, I (n / d)] [] [Con Try.prog 98 [I n, I d] true (I (n / d)) ∧ True] hB ⟨⟨(floorDiv_ok n d (by omega)), trivial⟩, trivial⟩ ?_
  refine aw_seq ?_
  refine aR [] [1, 5, 6] [] [I d, I (n / d), I (n - ((n / d) * d))] [] [inR .i64 ((n / d) * d), inR .i64 (n - ((n / d) * d))] hB ⟨(inR_i64 (by omega) (by omega)), (inR_i64 (by omega) (by omega)), trivial⟩ ?_
  refine aw_seq ?_
  by_cases h1 : (d - (n - ((n / d) * d))) ≤ (n - ((n / d) * d))
  ·refine aw_r [(4, .dec true)] [5, 19] [] [I (n / d), Bv true] [] [inR .i64 (d - (n - ((n / d) * d))), (d - (n - ((n / d) * d))) ≤ (n - ((n / d) * d))] hB ⟨(inR_i64 (by omega) (by omega)), h1, trivial⟩ ?_
   refine ae_then ?_
   refine aw_true rfl ?_
   refine aw_r [] [5] [] [I ((n / d) + 1)] [] [inR .i64 ((n / d) + 1)] hB ⟨(inR_i64 (by omega) (by omega)), trivial⟩ ?_
   refine ae_then ?_
   refine aR [] [4] [] [I ((n / d) + 1)] [] [] hB trivial ?_
   refine aw_ret ?_
   refine ae_ret hB (I ((n / d) + 1)) (by kernel_rfl) (.inl (by refine congrArg I ?_; first | exact hs.1 (by assumption) | exact hs.2 (by assumption))) rfl (fun _ => trivial)
  refine aw_r [(4, .dec false)] [5, 19] [] [I (n / d), Bv false] [] [inR .i64 (d - (n - ((n / d) * d))), ¬ ((d - (n - ((n / d) * d))) ≤ (n - ((n / d) * d)))] hB ⟨(inR_i64 (by omega) (by omega)), h1, trivial⟩ ?_
  refine ae_then ?_
  refine aw_false rfl ?_
  refine aw_skip ?_
  refine ae_then ?_
  refine aR [] [4] [] [I (n / d)] [] [] hB trivial ?_
  refine aw_ret ?_
  refine ae_ret hB (I (n / d)) (by kernel_rfl) (.inl (by refine congrArg I ?_; first | exact hs.1 (by assumption) | exact hs.2 (by assumption))) rfl (fun _ => trivial)


-- impl.inputOf
theorem inputOf_ok (feats : List Feat) (hok : okFeats feats 384 = true) : ∃ (v : List Int), (v = inpR feats) ∧ Con Try.prog 37 [slFeat false feats] true (slI true v) := by
  have hfn := okFeats_n hok
  have hh : ∃ r : (List Int), ((r = inpR feats) ∧ (True)) ∧ CallOK Try.prog 37 [slFeat false feats] (lookO []) true (slI true r) (lookO []) := by
    refine fn_okX (Φ := fun r : (List Int) => (r = inpR feats) ∧ (True)) [] (fun r => []) (fn := Try.f37) (nt := 58) Try.func37 rfl rfl (args := [slFeat false feats]) rfl (allcons (.inl ⟨rfl, tagFeat false _⟩) allnil) (res := fun r => slI true r) ?_
    refine xR [] [0] [] [slFeat false feats] [] [] trivial ?_
    refine xR [(0, .new 8)] [0, 3] [8] [slFeat false feats, .arr 8] [some (.arr 1 25 (fun _ => [I 0]))] [(0 : Int) ≤ 25 ∧ (25 : Int) ≤ 25 ∧ (8 : Int) * 25 ≤ 281474976710656 ∧ (25 : Int) ≤ 9223372036854775807] ⟨⟨(by omega), (by omega), (by omega), (by omega)⟩, trivial⟩ ?_
    refine x_seq ?_
    refine xR [] [0, 3, 9, 10, 11] [8] [slFeat false feats, .arr 8, slFeat false feats, I (feats.length : Int), I 0] [some (.arr 1 25 (fun _ => [I 0]))] [] trivial ?_
    refine x_block ?_
    refine x_weak [] (T := [(0, slFeat false feats), (3, .arr 8), (9, slFeat false feats), (10, I (feats.length : Int)), (11, I 0)]) (O := [(8, .arr 1 ((List.replicate 25 (0 : Int)).length) (fI (List.replicate 25 (0 : Int))))]) rfl (⟨.inl rfl, .inl rfl, .inl rfl, .inl rfl, .inl rfl, trivial⟩) (⟨.inr ⟨rfl, (by first | rfl | (simp; done) | (simp; omega) | omega), fun i_ hi_ => .inl (const_enc (enc := cI) rfl i_ hi_)⟩, trivial⟩) ?_
    refine x_loop (X := Int × (List Int)) (fun x => mkS [(0, slFeat false feats), (3, .arr 8), (9, slFeat false feats), (10, I (feats.length : Int)), (11, I x.1)] [(8, .arr 1 x.2.length (fI x.2))]) (fun x => (0 ≤ x.1 ∧ x.1 ≤ (feats.length : Int)) ∧ (x.2 = inpC feats x.1.toNat) ∧ (x.2.length = 25) ∧ True) (fun x => ((feats.length : Int) - x.1).toNat) (0, (List.replicate 25 (0 : Int))) rfl (show (0 ≤ (0 : Int) ∧ (0 : Int) ≤ (feats.length : Int)) ∧ ((List.replicate 25 (0 : Int)) = inpC feats (0 : Int).toNat) ∧ ((List.replicate 25 (0 : Int)).length = 25) ∧ True from ⟨(by omega), (by rfl), (by rfl), trivial⟩) (fun x hI => ?_)
    obtain ⟨t11, ys⟩ := x
    obtain ⟨hi0, hys, hyl, _⟩ : (0 ≤ t11 ∧ t11 ≤ (feats.length : Int)) ∧ (ys = inpC feats t11.toNat) ∧ (ys.length = 25) ∧ True := hI
    show XW _ _ _ _ (mkS [(0, slFeat false feats), (3, .arr 8), (9, slFeat false feats), (10, I (feats.length : Int)), (11, I t11)] [(8, .arr 1 ys.length (fI ys))]) _ _
    refine x_seq ?_
    by_cases h1 : t11 < (feats.length : Int)
    ·have hi : t11.toNat < feats.length := by omega
     have hf := okF_iff.1 (okFeats_at hok hi)
     have hbb : ∀ j_, 0 ≤ at_ ys j_ ∧ at_ ys j_ ≤ 2 * t11 := fun j_ => by rw [hys]; have := inpC_bd feats t11.toNat j_; omega
     have hb1 := hbb (at_ feats t11.toNat).D.toNat
     refine x_r [(0, .dec true)] [0, 3, 9, 10, 11, 12] [8] [slFeat false feats, .arr 8, slFeat false feats, I (feats.length : Int), I t11, Bv true] [some (.arr 1 ys.length (fI ys))] [t11 < (feats.length : Int)] ⟨h1, trivial⟩ ?_
     refine xe_then ?_
     refine x_seq ?_
     refine x_true rfl ?_
     refine x_skip ?_
     refine xe_then ?_
     refine x_seq ?_
     refine x_block ?_
     refine xR [(2, .new 5)] [0, 3, 5, 9, 10, 11] [5, 8] [slFeat false feats, .arr 8, .ref 5 0, slFeat false feats, I (feats.length : Int), I t11] [some (bxFeat (at_ feats t11.toNat)), some (.arr 1 ys.length (fI ys))] [(0 : Int) ≤ t11 ∧ t11 < (feats.length : Int)] ⟨⟨(by omega), (by omega)⟩, trivial⟩ ?_
     refine xR [] [0, 3, 5, 9, 10, 11] [5, 8] [slFeat false feats, .arr 8, .ref 5 0, slFeat false feats, I (feats.length : Int), I t11] [some (bxFeat (at_ feats t11.toNat)), some (.arr 1 ys.length (fun q => bif Nat.beq q (((at_ feats t11.toNat).D).toNat) then [I ((at_ ys (((at_ feats t11.toNat).D).toNat)) + 1)] else (fI ys) q))] [(0 : Int) ≤ ((at_ feats t11.toNat).D) ∧ ((at_ feats t11.toNat).D) < (ys.length : Int), ((at_ feats t11.toNat).D).toNat < ys.length, inR .i64 ((at_ ys (((at_ feats t11.toNat).D).toNat)) + 1), (0 : Int) ≤ ((at_ feats t11.toNat).D) ∧ ((at_ feats t11.toNat).D) < (ys.length : Int), ((at_ feats t11.toNat).D).toNat < ys.length] ⟨⟨(by omega), (by omega)⟩, (by omega), (inR_i64 (by omega) (by omega)), ⟨(by omega), (by omega)⟩, (by omega), trivial⟩ ?_
     refine x_weak [] (T := [(0, slFeat false feats), (3, .arr 8), (5, .ref 5 0), (9, slFeat false feats), (10, I (feats.length : Int)), (11, I t11)]) (O := [(5, bxFeat (at_ feats t11.toNat)), (8, .arr 1 ((ys.set (((at_ feats t11.toNat).D).toNat) ((at_ ys (((at_ feats t11.toNat).D).toNat)) + 1)).length) (fI (ys.set (((at_ feats t11.toNat).D).toNat) ((at_ ys (((at_ feats t11.toNat).D).toNat)) + 1))))]) rfl (⟨.inl rfl, .inl rfl, .inl rfl, .inl rfl, .inl rfl, .inl rfl, trivial⟩) (⟨.inl rfl, .inr ⟨rfl, (by first | rfl | (simp; done) | (simp; omega) | omega), fun i_ hi_ => .inl (upd_enc (enc := cI) rfl i_ hi_)⟩, trivial⟩) ?_
     refine x_r [(3, .nn), (8, .nn)] [0, 3, 9, 10, 11] [8] [slFeat false feats, .arr 8, slFeat false feats, I (feats.length : Int), I t11] [some (.arr 1 ((ys.set (((at_ feats t11.toNat).D).toNat) ((at_ ys (((at_ feats t11.toNat).D).toNat)) + 1)).length) (fun q => bif Nat.beq q (((8 + ((((at_ feats t11.toNat).Y) / 64) * 4)) + (((at_ feats t11.toNat).X) / 64)).toNat) then [I ((at_ (ys.set (((at_ feats t11.toNat).D).toNat) ((at_ ys (((at_ feats t11.toNat).D).toNat)) + 1)) (((8 + ((((at_ feats t11.toNat).Y) / 64) * 4)) + (((at_ feats t11.toNat).X) / 64)).toNat)) + 1)] else (fI (ys.set (((at_ feats t11.toNat).D).toNat) ((at_ ys (((at_ feats t11.toNat).D).toNat)) + 1))) q))] [(0 : Int) ≤ ((at_ feats t11.toNat).Y) ∧ (0 : Int) < 64 ∧ inR .i64 ((at_ feats t11.toNat).Y), inR .i64 ((((at_ feats t11.toNat).Y) / 64) * 4), inR .i64 (8 + ((((at_ feats t11.toNat).Y) / 64) * 4)), (0 : Int) ≤ ((at_ feats t11.toNat).X) ∧ (0 : Int) < 64 ∧ inR .i64 ((at_ feats t11.toNat).X), inR .i64 ((8 + ((((at_ feats t11.toNat).Y) / 64) * 4)) + (((at_ feats t11.toNat).X) / 64)), (0 : Int) ≤ ((8 + ((((at_ feats t11.toNat).Y) / 64) * 4)) + (((at_ feats t11.toNat).X) / 64)) ∧ ((8 + ((((at_ feats t11.toNat).Y) / 64) * 4)) + (((at_ feats t11.toNat).X) / 64)) < (((ys.set (((at_ feats t11.toNat).D).toNat) ((at_ ys (((at_ feats t11.toNat).D).toNat)) + 1)).length : Nat) : Int), ((8 + ((((at_ feats t11.toNat).Y) / 64) * 4)) + (((at_ feats t11.toNat).X) / 64)).toNat < (ys.set (((at_ feats t11.toNat).D).toNat) ((at_ ys (((at_ feats t11.toNat).D).toNat)) + 1)).length, inR .i64 ((at_ (ys.set (((at_ feats t11.toNat).D).toNat) ((at_ ys (((at_ feats t11.toNat).D).toNat)) + 1)) (((8 + ((((at_ feats t11.toNat).Y) / 64) * 4)) + (((at_ feats t11.toNat).X) / 64)).toNat)) + 1), (0 : Int) ≤ ((8 + ((((at_ feats t11.toNat).Y) / 64) * 4)) + (((at_ feats t11.toNat).X) / 64)) ∧ ((8 + ((((at_ feats t11.toNat).Y) / 64) * 4)) + (((at_ feats t11.toNat).X) / 64)) < (((ys.set (((at_ feats t11.toNat).D).toNat) ((at_ ys (((at_ feats t11.toNat).D).toNat)) + 1)).length : Nat) : Int), ((8 + ((((at_ feats t11.toNat).Y) / 64) * 4)) + (((at_ feats t11.toNat).X) / 64)).toNat < (ys.set (((at_ feats t11.toNat).D).toNat) ((at_ ys (((at_ feats t11.toNat).D).toNat)) + 1)).length] ⟨⟨(by omega), (by omega), (inR_i64 (by omega) (by omega))⟩, (inR_i64 (by omega) (by omega)), (inR_i64 (by omega) (by omega)), ⟨(by omega), (by omega), (inR_i64 (by omega) (by omega))⟩, (inR_i64 (by omega) (by omega)), ⟨(by first | omega | (simp only [List.length_set]; omega)), (by first | omega | (simp only [List.length_set]; omega))⟩, (by first | omega | (simp only [List.length_set]; omega)), (by have q1 := hbb (((8 + ((((at_ feats t11.toNat).Y) / 64) * 4)) + (((at_ feats t11.toNat).X) / 64)).toNat); have q2 := hbb (at_ feats t11.toNat).D.toNat; simp only [at_set]; split <;> exact inR_i64 (by omega) (by omega)), ⟨(by first | omega | (simp only [List.length_set]; omega)), (by first | omega | (simp only [List.length_set]; omega))⟩, (by first | omega | (simp only [List.length_set]; omega)), trivial⟩ ?_
     refine xe_block 1 ?_
     refine xe_then ?_
     refine x_weak [] (T := [(0, slFeat false feats), (3, .arr 8), (9, slFeat false feats), (10, I (feats.length : Int)), (11, I t11)]) (O := [(8, .arr 1 (((ys.set (((at_ feats t11.toNat).D).toNat) ((at_ ys (((at_ feats t11.toNat).D).toNat)) + 1)).set (((8 + ((((at_ feats t11.toNat).Y) / 64) * 4)) + (((at_ feats t11.toNat).X) / 64)).toNat) ((at_ (ys.set (((at_ feats t11.toNat).D).toNat) ((at_ ys (((at_ feats t11.toNat).D).toNat)) + 1)) (((8 + ((((at_ feats t11.toNat).Y) / 64) * 4)) + (((at_ feats t11.toNat).X) / 64)).toNat)) + 1)).length) (fI ((ys.set (((at_ feats t11.toNat).D).toNat) ((at_ ys (((at_ feats t11.toNat).D).toNat)) + 1)).set (((8 + ((((at_ feats t11.toNat).Y) / 64) * 4)) + (((at_ feats t11.toNat).X) / 64)).toNat) ((at_ (ys.set (((at_ feats t11.toNat).D).toNat) ((at_ ys (((at_ feats t11.toNat).D).toNat)) + 1)) (((8 + ((((at_ feats t11.toNat).Y) / 64) * 4)) + (((at_ feats t11.toNat).X) / 64)).toNat)) + 1))))]) rfl (⟨.inl rfl, .inl rfl, .inl rfl, .inl rfl, .inl rfl, trivial⟩) (⟨.inr ⟨rfl, (by first | rfl | (simp; done) | (simp; omega) | omega), fun i_ hi_ => .inl (upd_enc (enc := cI) rfl i_ hi_)⟩, trivial⟩) ?_
     refine x_r [] [0, 3, 9, 10, 11] [8] [slFeat false feats, .arr 8, slFeat false feats, I (feats.length : Int), I (t11 + 1)] [some (.arr 1 (((ys.set (((at_ feats t11.toNat).D).toNat) ((at_ ys (((at_ feats t11.toNat).D).toNat)) + 1)).set (((8 + ((((at_ feats t11.toNat).Y) / 64) * 4)) + (((at_ feats t11.toNat).X) / 64)).toNat) ((at_ (ys.set (((at_ feats t11.toNat).D).toNat) ((at_ ys (((at_ feats t11.toNat).D).toNat)) + 1)) (((8 + ((((at_ feats t11.toNat).Y) / 64) * 4)) + (((at_ feats t11.toNat).X) / 64)).toNat)) + 1)).length) (fI ((ys.set (((at_ feats t11.toNat).D).toNat) ((at_ ys (((at_ feats t11.toNat).D).toNat)) + 1)).set (((8 + ((((at_ feats t11.toNat).Y) / 64) * 4)) + (((at_ feats t11.toNat).X) / 64)).toNat) ((at_ (ys.set (((at_ feats t11.toNat).D).toNat) ((at_ ys (((at_ feats t11.toNat).D).toNat)) + 1)) (((8 + ((((at_ feats t11.toNat).Y) / 64) * 4)) + (((at_ feats t11.toNat).X) / 64)).toNat)) + 1))))] [inR .i64 (t11 + 1)] ⟨(inR_i64 (by omega) (by omega)), trivial⟩ ?_
     exact xe_again ((t11 + 1), ((ys.set (((at_ feats t11.toNat).D).toNat) ((at_ ys (((at_ feats t11.toNat).D).toNat)) + 1)).set (((8 + ((((at_ feats t11.toNat).Y) / 64) * 4)) + (((at_ feats t11.toNat).X) / 64)).toNat) ((at_ (ys.set (((at_ feats t11.toNat).D).toNat) ((at_ ys (((at_ feats t11.toNat).D).toNat)) + 1)) (((8 + ((((at_ feats t11.toNat).Y) / 64) * 4)) + (((at_ feats t11.toNat).X) / 64)).toNat)) + 1))) rfl (show (0 ≤ (t11 + 1) ∧ (t11 + 1) ≤ (feats.length : Int)) ∧ (((ys.set (((at_ feats t11.toNat).D).toNat) ((at_ ys (((at_ feats t11.toNat).D).toNat)) + 1)).set (((8 + ((((at_ feats t11.toNat).Y) / 64) * 4)) + (((at_ feats t11.toNat).X) / 64)).toNat) ((at_ (ys.set (((at_ feats t11.toNat).D).toNat) ((at_ ys (((at_ feats t11.toNat).D).toNat)) + 1)) (((8 + ((((at_ feats t11.toNat).Y) / 64) * 4)) + (((at_ feats t11.toNat).X) / 64)).toNat)) + 1)) = inpC feats (t11 + 1).toNat) ∧ (((ys.set (((at_ feats t11.toNat).D).toNat) ((at_ ys (((at_ feats t11.toNat).D).toNat)) + 1)).set (((8 + ((((at_ feats t11.toNat).Y) / 64) * 4)) + (((at_ feats t11.toNat).X) / 64)).toNat) ((at_ (ys.set (((at_ feats t11.toNat).D).toNat) ((at_ ys (((at_ feats t11.toNat).D).toNat)) + 1)) (((8 + ((((at_ feats t11.toNat).Y) / 64) * 4)) + (((at_ feats t11.toNat).X) / 64)).toNat)) + 1)).length = 25) ∧ True from ⟨(by omega), (by rw [inpC_1 hi0.1, ← hys]; rfl), (by simp only [List.length_set]; exact hyl), trivial⟩) (by first | (show (((feats.length : Int) - (t11 + 1)).toNat : Nat) < ((feats.length : Int) - t11).toNat; omega) | (dsimp only; omega))
    have hie : t11.toNat = feats.length := by omega
    rw [hie] at hys
    refine x_r [(0, .dec false)] [0, 3, 9, 10, 11, 12] [8] [slFeat false feats, .arr 8, slFeat false feats, I (feats.length : Int), I t11, Bv false] [some (.arr 1 ys.length (fI ys))] [¬ (t11 < (feats.length : Int))] ⟨h1, trivial⟩ ?_
    refine xe_then ?_
    refine x_seq ?_
    refine x_false rfl ?_
    refine x_exit ?_
    refine xe_exit_then ?_
    refine xe_loop_exit ?_
    refine xe_exit_same ?_
    refine xe_then ?_
    refine xR [] [3, 6] [8] [.arr 8, I (feats.length : Int)] [some (.arr 1 ys.length (fI ys))] [] trivial ?_
    refine x_seq ?_
    refine xR [] [3, 6, 40, 41] [8] [.arr 8, I (feats.length : Int), I (ys.length : Int), I 0] [some (.arr 1 ys.length (fI ys))] [] trivial ?_
    refine x_block ?_
    refine x_loop (X := Int × (List Int)) (fun x => mkS [(3, .arr 8), (6, I (feats.length : Int)), (40, I (ys.length : Int)), (41, I x.1)] [(8, .arr 1 x.2.length (fI x.2))]) (fun x => (0 ≤ x.1 ∧ x.1 ≤ (25 : Int)) ∧ (x.2 = inpN (inpC feats feats.length) (feats.length : Int) x.1.toNat) ∧ (x.2.length = 25) ∧ True) (fun x => ((25 : Int) - x.1).toNat) (0, ys) rfl (show (0 ≤ (0 : Int) ∧ (0 : Int) ≤ (25 : Int)) ∧ (ys = inpN (inpC feats feats.length) (feats.length : Int) (0 : Int).toNat) ∧ (ys.length = 25) ∧ True from ⟨(by omega), (by exact hys), (by exact hyl), trivial⟩) (fun x hI => ?_)
    obtain ⟨t41, zs⟩ := x
    obtain ⟨hj0, hzs, hzl, _⟩ : (0 ≤ t41 ∧ t41 ≤ (25 : Int)) ∧ (zs = inpN (inpC feats feats.length) (feats.length : Int) t41.toNat) ∧ (zs.length = 25) ∧ True := hI
    show XW _ _ _ _ (mkS [(3, .arr 8), (6, I (feats.length : Int)), (40, I (ys.length : Int)), (41, I t41)] [(8, .arr 1 zs.length (fI zs))]) _ _
    refine x_seq ?_
    by_cases h2 : t41 < (ys.length : Int)
    ·have hi2 : t41.toNat < zs.length := by omega
     have hzb := inpC_bd feats feats.length t41.toNat
     have hze : at_ zs t41.toNat = at_ (inpC feats feats.length) t41.toNat := by rw [hzs]; exact (inpN_bd (n := (feats.length : Int)) (by omega) (inpC_bd feats feats.length) t41.toNat t41.toNat).1 (Nat.le_refl _)
     refine x_r [(0, .dec true)] [3, 6, 40, 41, 42] [8] [.arr 8, I (feats.length : Int), I (ys.length : Int), I t41, Bv true] [some (.arr 1 zs.length (fI zs))] [t41 < (ys.length : Int)] ⟨h2, trivial⟩ ?_
     refine xe_then ?_
     refine x_seq ?_
     refine x_true rfl ?_
     refine x_skip ?_
     refine xe_then ?_
     refine x_seq ?_
     refine x_block ?_
     refine xR [] [3, 6, 7, 40, 41] [8] [.arr 8, I (feats.length : Int), I t41, I (ys.length : Int), I t41] [some (.arr 1 zs.length (fI zs))] [] trivial ?_
     refine x_r [(8, .call [(true, .any), (true, .any)] true (I (nearI ((at_ zs t41.toNat) * 256) (feats.length : Int))))] [3, 6, 40, 41] [8] [.arr 8, I (feats.length : Int), I (ys.length : Int), I t41] [some (.arr 1 zs.length (fun q => bif Nat.beq q t41.toNat then [I (nearI ((at_ zs t41.toNat) * 256) (feats.length : Int))] else (fI zs) q))] [(0 : Int) ≤ t41 ∧ t41 < (zs.length : Int), t41.toNat < zs.length, inR .i64 ((at_ zs t41.toNat) * 256), Con Try.prog 73 [I ((at_ zs t41.toNat) * 256), I (feats.length : Int)] true (I (nearI ((at_ zs t41.toNat) * 256) (feats.length : Int))) ∧ True, (0 : Int) ≤ t41 ∧ t41 < (zs.length : Int), t41.toNat < zs.length] ⟨⟨(by omega), (by omega)⟩, (by omega), (inR_i64 (by omega) (by omega)), ⟨(nearestDiv_ok ((at_ zs t41.toNat) * 256) (feats.length : Int) (by omega)), trivial⟩, ⟨(by omega), (by omega)⟩, (by omega), trivial⟩ ?_
     refine xe_block 3 ?_
     refine xe_then ?_
     refine x_weak [] (T := [(3, .arr 8), (6, I (feats.length : Int)), (40, I (ys.length : Int)), (41, I t41)]) (O := [(8, .arr 1 ((zs.set t41.toNat (nearI ((at_ zs t41.toNat) * 256) (feats.length : Int))).length) (fI (zs.set t41.toNat (nearI ((at_ zs t41.toNat) * 256) (feats.length : Int)))))]) rfl (⟨.inl rfl, .inl rfl, .inl rfl, .inl rfl, trivial⟩) (⟨.inr ⟨rfl, (by first | rfl | (simp; done) | (simp; omega) | omega), fun i_ hi_ => .inl (upd_enc (enc := cI) rfl i_ hi_)⟩, trivial⟩) ?_
     refine x_r [] [3, 6, 40, 41] [8] [.arr 8, I (feats.length : Int), I (ys.length : Int), I (t41 + 1)] [some (.arr 1 ((zs.set t41.toNat (nearI ((at_ zs t41.toNat) * 256) (feats.length : Int))).length) (fI (zs.set t41.toNat (nearI ((at_ zs t41.toNat) * 256) (feats.length : Int)))))] [inR .i64 (t41 + 1)] ⟨(inR_i64 (by omega) (by omega)), trivial⟩ ?_
     exact xe_again ((t41 + 1), (zs.set t41.toNat (nearI ((at_ zs t41.toNat) * 256) (feats.length : Int)))) rfl (show (0 ≤ (t41 + 1) ∧ (t41 + 1) ≤ (25 : Int)) ∧ ((zs.set t41.toNat (nearI ((at_ zs t41.toNat) * 256) (feats.length : Int))) = inpN (inpC feats feats.length) (feats.length : Int) (t41 + 1).toNat) ∧ ((zs.set t41.toNat (nearI ((at_ zs t41.toNat) * 256) (feats.length : Int))).length = 25) ∧ True from ⟨(by omega), (by first | (rw [inpN_1 hj0.1, ← hzs]; done) | (rw [inpN_1 hj0.1, ← hzs, Int.mul_comm 256])), (by simp only [List.length_set]; exact hzl), trivial⟩) (by first | (show (((25 : Int) - (t41 + 1)).toNat : Nat) < ((25 : Int) - t41).toNat; omega) | (dsimp only; omega))
    have hie2 : t41.toNat = 25 := by omega
    rw [hie2] at hzs
    refine x_r [(0, .dec false)] [3, 6, 40, 41, 42] [8] [.arr 8, I (feats.length : Int), I (ys.length : Int), I t41, Bv false] [some (.arr 1 zs.length (fI zs))] [¬ (t41 < (ys.length : Int))] ⟨h2, trivial⟩ ?_
    refine xe_then ?_
    refine x_seq ?_
    refine x_false rfl ?_
    refine x_exit ?_
    refine xe_exit_then ?_
    refine xe_loop_exit ?_
    refine xe_exit_same ?_
    refine xe_then ?_
    refine xR [] [3] [8] [.arr 8] [some (.arr 1 zs.length (fun q => bif Nat.beq q 24 then [I 256] else (fI zs) q))] [(0 : Int) ≤ 24 ∧ 24 < (zs.length : Int), 24 < zs.length] ⟨⟨(by omega), (by omega)⟩, (by omega), trivial⟩ ?_
    refine x_seq ?_
    refine x_weak [] (T := [(3, .arr 8)]) (O := [(8, .arr 1 ((zs.set 24 256).length) (fI (zs.set 24 256)))]) rfl (⟨.inl rfl, trivial⟩) (⟨.inr ⟨rfl, (by first | rfl | (simp; done) | (simp; omega) | omega), fun i_ hi_ => .inl (upd_enc (enc := cI) rfl i_ hi_)⟩, trivial⟩) ?_
    refine x_r [] [2] [8] [.arr 8] [some (.arr 1 ((zs.set 24 256).length) (fI (zs.set 24 256)))] [] trivial ?_
    refine xe_then ?_
    refine x_ret ?_
    refine xe_end (zs.set 24 256) (show ((zs.set 24 256) = inpR feats) ∧ (True) from ⟨(by rw [hzs, inpR_alt]), trivial⟩) (trivial) (.arr 8) (by kernel_rfl) (.inr ⟨(fun _ => rfl), rfl, rfl, fun i _ => .inl rfl⟩) (fun _ => rfl) (fun _ => (tagI true _))
  obtain ⟨v, ⟨hh0, _⟩, hc⟩ := hh
  exact ⟨v, hh0, hc⟩


-- impl.scoresOf
theorem scoresOf_ok (p : Perceptron) (input : List Int) (hp : okPerc p = true) (hx : (∀ i, 0 ≤ at_ input i ∧ at_ input i ≤ 512) ∧ input.length = 25) : ∃ (v : List Int), (v = scR p.Weights input) ∧ Con Try.prog 36 [agPerceptron p, slI false input] true (slI true v) := by
  have hq := okPerc_iff.1 hp
  have hln := okLabels_n hq.1
  have hxl := hx.2
  have hh : ∃ r : (List Int), ((r = scR p.Weights input) ∧ (True)) ∧ CallOK Try.prog 36 [agPerceptron p, slI false input] (lookO []) true (slI true r) (lookO []) := by
    refine fn_okX (Φ := fun r : (List Int) => (r = scR p.Weights input) ∧ (True)) [] (fun r => []) (fn := Try.f36) (nt := 40) Try.func36 rfl rfl (args := [agPerceptron p, slI false input]) rfl (allcons (.inl ⟨rfl, by simp [tagged, taggedL, tagLI, tagS]⟩) (allcons (.inl ⟨rfl, tagI false _⟩) allnil)) (res := fun r => slI true r) ?_
    refine xR [(0, .new 2)] [1, 2] [2] [slI false input, .ref 2 0] [some (bxPerceptron p)] [] trivial ?_
    refine xR [] [1, 2, 5] [2] [slI false input, .ref 2 0, nilA] [some (bxPerceptron p)] [] trivial ?_
    refine x_seq ?_
    refine xR [] [1, 5, 12, 13, 14] [] [slI false input, nilA, slLI false p.Weights, I (p.Weights.length : Int), I 0] [] [] trivial ?_
    refine x_block ?_
    refine x_nil 5 705 1 (fun _ => []) (by kernel_rfl) ?_
    refine x_weak [] (T := [(1, slI false input), (5, .arr 705), (12, slLI false p.Weights), (13, I (p.Weights.length : Int)), (14, I 0)]) (O := [(705, .arr 1 (([] : List Int).length) (fI ([] : List Int)))]) rfl (⟨.inl rfl, .inl rfl, .inl rfl, .inl rfl, .inl rfl, trivial⟩) (⟨.inr ⟨rfl, (by first | rfl | (simp; done) | (simp; omega) | omega), fun i_ hi_ => absurd hi_ (Nat.not_lt_zero _)⟩, trivial⟩) ?_
    refine x_loop (X := (List Int) × Int) (fun x => mkS [(1, slI false input), (5, .arr 705), (12, slLI false p.Weights), (13, I (p.Weights.length : Int)), (14, I x.2)] [(705, .arr 1 x.1.length (fI x.1))]) (fun x => (0 ≤ x.2 ∧ x.2 ≤ (p.Weights.length : Int)) ∧ (x.1 = (p.Weights.take x.2.toNat).map fun r => scT r input 25) ∧ ((x.1.length : Int) = x.2) ∧ True) (fun x => ((p.Weights.length : Int) - x.2).toNat) (([] : List Int), 0) rfl (show (0 ≤ (0 : Int) ∧ (0 : Int) ≤ (p.Weights.length : Int)) ∧ (([] : List Int) = (p.Weights.take (0 : Int).toNat).map fun r => scT r input 25) ∧ ((([] : List Int).length : Int) = (0 : Int)) ∧ True from ⟨(by omega), (by rfl), (by rfl), trivial⟩) (fun x hI => ?_)
    obtain ⟨scores, t14⟩ := x
    obtain ⟨hi0, hsc, hsl, _⟩ : (0 ≤ t14 ∧ t14 ≤ (p.Weights.length : Int)) ∧ (scores = (p.Weights.take t14.toNat).map fun r => scT r input 25) ∧ ((scores.length : Int) = t14) ∧ True := hI
    show XW _ _ _ _ (mkS [(1, slI false input), (5, .arr 705), (12, slLI false p.Weights), (13, I (p.Weights.length : Int)), (14, I t14)] [(705, .arr 1 scores.length (fI scores))]) _ _
    refine x_seq ?_
    by_cases h1 : t14 < (p.Weights.length : Int)
    ·have hi : t14.toNat < p.Weights.length := by omega
     have hr := okRows_at hq.2.2 hi
     refine x_r [(0, .dec true)] [1, 5, 12, 13, 14, 15] [705] [slI false input, .arr 705, slLI false p.Weights, I (p.Weights.length : Int), I t14, Bv true] [some (.arr 1 scores.length (fI scores))] [t14 < (p.Weights.length : Int)] ⟨h1, trivial⟩ ?_
     refine xe_then ?_
     refine x_seq ?_
     refine x_true rfl ?_
     refine x_skip ?_
     refine xe_then ?_
     refine x_seq ?_
     refine x_block ?_
     refine xR [] [1, 5, 7, 12, 13, 14] [705] [slI false input, .arr 705, slI false (at_ p.Weights t14.toNat), slLI false p.Weights, I (p.Weights.length : Int), I t14] [some (.arr 1 scores.length (fI scores))] [(0 : Int) ≤ t14 ∧ t14 < (p.Weights.length : Int)] ⟨⟨(by omega), (by omega)⟩, trivial⟩ ?_
     refine xR [] [1, 5, 7, 8, 12, 13, 14] [705] [slI false input, .arr 705, slI false (at_ p.Weights t14.toNat), I 0, slLI false p.Weights, I (p.Weights.length : Int), I t14] [some (.arr 1 scores.length (fI scores))] [] trivial ?_
     refine x_seq ?_
     refine xR [] [1, 5, 8, 12, 13, 14, 18, 19, 20] [705] [slI false input, .arr 705, I 0, slLI false p.Weights, I (p.Weights.length : Int), I t14, slI false (at_ p.Weights t14.toNat), I (((at_ p.Weights t14.toNat).length) : Int), I 0] [some (.arr 1 scores.length (fI scores))] [] trivial ?_
     refine x_block ?_
     refine x_loop (X := Int × Int) (fun x => mkS [(1, slI false input), (5, .arr 705), (8, I x.1), (12, slLI false p.Weights), (13, I (p.Weights.length : Int)), (14, I t14), (18, slI false (at_ p.Weights t14.toNat)), (19, I (((at_ p.Weights t14.toNat).length) : Int)), (20, I x.2)] [(705, .arr 1 scores.length (fI scores))]) (fun x => (0 ≤ x.2 ∧ x.2 ≤ 25) ∧ (x.1 = scT (at_ p.Weights t14.toNat) input x.2.toNat) ∧ True) (fun x => ((25 : Int) - x.2).toNat) (0, 0) rfl (show (0 ≤ (0 : Int) ∧ (0 : Int) ≤ 25) ∧ ((0 : Int) = scT (at_ p.Weights t14.toNat) input (0 : Int).toNat) ∧ True from ⟨(by omega), (by rfl), trivial⟩) (fun x hI => ?_)
     obtain ⟨sum, t20⟩ := x
     obtain ⟨hk0, hsum, _⟩ : (0 ≤ t20 ∧ t20 ≤ 25) ∧ (sum = scT (at_ p.Weights t14.toNat) input t20.toNat) ∧ True := hI
     show XW _ _ _ _ (mkS [(1, slI false input), (5, .arr 705), (8, I sum), (12, slLI false p.Weights), (13, I (p.Weights.length : Int)), (14, I t14), (18, slI false (at_ p.Weights t14.toNat)), (19, I (((at_ p.Weights t14.toNat).length) : Int)), (20, I t20)] [(705, .arr 1 scores.length (fI scores))]) _ _
     refine x_seq ?_
     by_cases h2 : t20 < (((at_ p.Weights t14.toNat).length) : Int)
     ·have hk : t20.toNat < 25 := by omega
      have hrk := hr.2 t20.toNat hk
      have hxk := hx.1 t20.toNat
      have hmx := mulX_bd hrk hxk
      have hsb := scT_bd hr.2 hx.1 t20.toNat (by omega)
      refine x_r [(0, .dec true)] [1, 5, 8, 12, 13, 14, 18, 19, 20, 21] [705] [slI false input, .arr 705, I sum, slLI false p.Weights, I (p.Weights.length : Int), I t14, slI false (at_ p.Weights t14.toNat), I (((at_ p.Weights t14.toNat).length) : Int), I t20, Bv true] [some (.arr 1 scores.length (fI scores))] [t20 < (((at_ p.Weights t14.toNat).length) : Int)] ⟨h2, trivial⟩ ?_
      refine xe_then ?_
      refine x_seq ?_
      refine x_true rfl ?_
      refine x_skip ?_
      refine xe_then ?_
      refine x_seq ?_
      refine x_block ?_
      refine xR [] [1, 5, 8, 9, 10, 12, 13, 14, 18, 19, 20] [705] [slI false input, .arr 705, I sum, I t20, I (at_ (at_ p.Weights t14.toNat) t20.toNat), slLI false p.Weights, I (p.Weights.length : Int), I t14, slI false (at_ p.Weights t14.toNat), I (((at_ p.Weights t14.toNat).length) : Int), I t20] [some (.arr 1 scores.length (fI scores))] [(0 : Int) ≤ t20 ∧ t20 < (((at_ p.Weights t14.toNat).length) : Int)] ⟨⟨(by omega), (by omega)⟩, trivial⟩ ?_
      refine x_r [] [1, 5, 8, 12, 13, 14, 18, 19, 20] [705] [slI false input, .arr 705, I (sum + ((at_ (at_ p.Weights t14.toNat) t20.toNat) * (at_ input t20.toNat))), slLI false p.Weights, I (p.Weights.length : Int), I t14, slI false (at_ p.Weights t14.toNat), I (((at_ p.Weights t14.toNat).length) : Int), I t20] [some (.arr 1 scores.length (fI scores))] [(0 : Int) ≤ t20 ∧ t20 < (input.length : Int), inR .i64 ((at_ (at_ p.Weights t14.toNat) t20.toNat) * (at_ input t20.toNat)), inR .i64 (sum + ((at_ (at_ p.Weights t14.toNat) t20.toNat) * (at_ input t20.toNat)))] ⟨⟨(by omega), (by omega)⟩, (inR_i64 (by omega) (by omega)), (inR_i64 (by omega) (by omega)), trivial⟩ ?_
      refine xe_block 3 ?_
      refine xe_then ?_
      refine x_r [] [1, 5, 8, 12, 13, 14, 18, 19, 20] [705] [slI false input, .arr 705, I (sum + ((at_ (at_ p.Weights t14.toNat) t20.toNat) * (at_ input t20.toNat))), slLI false p.Weights, I (p.Weights.length : Int), I t14, slI false (at_ p.Weights t14.toNat), I (((at_ p.Weights t14.toNat).length) : Int), I (t20 + 1)] [some (.arr 1 scores.length (fI scores))] [inR .i64 (t20 + 1)] ⟨(inR_i64 (by omega) (by omega)), trivial⟩ ?_
      exact xe_again ((sum + ((at_ (at_ p.Weights t14.toNat) t20.toNat) * (at_ input t20.toNat))), (t20 + 1)) rfl (show (0 ≤ (t20 + 1) ∧ (t20 + 1) ≤ 25) ∧ ((sum + ((at_ (at_ p.Weights t14.toNat) t20.toNat) * (at_ input t20.toNat))) = scT (at_ p.Weights t14.toNat) input (t20 + 1).toNat) ∧ True from ⟨(by omega), (by rw [scT_1 hk0.1, ← hsum]), trivial⟩) (by first | (show (((25 : Int) - (t20 + 1)).toNat : Nat) < ((25 : Int) - t20).toNat; omega) | (dsimp only; omega))
     have hie2 : t20.toNat = 25 := by omega
     rw [hie2] at hsum
     refine x_r [(0, .dec false)] [1, 5, 8, 12, 13, 14, 18, 19, 20, 21] [705] [slI false input, .arr 705, I sum, slLI false p.Weights, I (p.Weights.length : Int), I t14, slI false (at_ p.Weights t14.toNat), I (((at_ p.Weights t14.toNat).length) : Int), I t20, Bv false] [some (.arr 1 scores.length (fI scores))] [¬ (t20 < (((at_ p.Weights t14.toNat).length) : Int))] ⟨h2, trivial⟩ ?_
     refine xe_then ?_
     refine x_seq ?_
     refine x_false rfl ?_
     refine x_exit ?_
     refine xe_exit_then ?_
     refine xe_loop_exit ?_
     refine xe_exit_same ?_
     refine xe_then ?_
     refine x_r [(2, .new 36), (3, .new 37)] [1, 5, 12, 13, 14] [37] [slI false input, .arr 37, slLI false p.Weights, I (p.Weights.length : Int), I t14] [some (.arr 1 (scores.length + 1) (catF scores.length (fI scores) (litF [I sum] 1)))] [(scores.length + 1) * 8 ≤ 140737488355328] ⟨(by omega), trivial⟩ ?_
     refine xe_block 1 ?_
     refine xe_then ?_
     refine x_r [] [1, 5, 12, 13, 14] [37] [slI false input, .arr 37, slLI false p.Weights, I (p.Weights.length : Int), I (t14 + 1)] [some (.arr 1 (scores.length + 1) (catF scores.length (fI scores) (litF [I sum] 1)))] [inR .i64 (t14 + 1)] ⟨(inR_i64 (by omega) (by omega)), trivial⟩ ?_
     refine xe_weak [(705, 37)] (T := [(1, slI false input), (5, .arr 705), (12, slLI false p.Weights), (13, I (p.Weights.length : Int)), (14, I (t14 + 1))]) (O := [(705, .arr 1 ((scores ++ [sum]).length) (fI (scores ++ [sum])))]) rfl (⟨.inl rfl, .inl rfl, .inl rfl, .inl rfl, .inl rfl, trivial⟩) (⟨.inr ⟨rfl, (by first | rfl | (simp; done) | (simp; omega) | omega), fun i_ hi_ => .inl (cat_snoc (enc := cI) (xs := scores) rfl i_ hi_)⟩, trivial⟩) (xe_again ((scores ++ [sum]), (t14 + 1)) rfl (show (0 ≤ (t14 + 1) ∧ (t14 + 1) ≤ (p.Weights.length : Int)) ∧ ((scores ++ [sum]) = (p.Weights.take (t14 + 1).toNat).map fun r => scT r input 25) ∧ (((scores ++ [sum]).length : Int) = (t14 + 1)) ∧ True from ⟨(by omega), (by rw [scR_take hi0.1 hi, ← hsc, ← hsum]), (by simp; omega), trivial⟩) (by first | (show (((p.Weights.length : Int) - (t14 + 1)).toNat : Nat) < ((p.Weights.length : Int) - t14).toNat; omega) | (dsimp only; omega)))
    have hie : t14.toNat = p.Weights.length := by omega
    rw [hie, List.take_of_length_le (Nat.le_refl _)] at hsc
    refine x_r [(0, .dec false)] [1, 5, 12, 13, 14, 15] [705] [slI false input, .arr 705, slLI false p.Weights, I (p.Weights.length : Int), I t14, Bv false] [some (.arr 1 scores.length (fI scores))] [¬ (t14 < (p.Weights.length : Int))] ⟨h1, trivial⟩ ?_
    refine xe_then ?_
    refine x_seq ?_
    refine x_false rfl ?_
    refine x_exit ?_
    refine xe_exit_then ?_
    refine xe_loop_exit ?_
    refine xe_exit_same ?_
    refine xe_then ?_
    refine xR [] [4] [705] [.arr 705] [some (.arr 1 scores.length (fI scores))] [] trivial ?_
    refine x_ret ?_
    refine xe_end scores (show (scores = scR p.Weights input) ∧ (True) from ⟨(by exact hsc), trivial⟩) (trivial) (.arr 705) (by kernel_rfl) (.inr ⟨(fun _ => rfl), rfl, rfl, fun i _ => .inl rfl⟩) (fun _ => rfl) (fun _ => (tagI true _))
  obtain ⟨v, ⟨hh0, _⟩, hc⟩ := hh
  exact ⟨v, hh0, hc⟩


-- impl.ScoresOf
theorem implScoresOf_ok (p : Perceptron) (feats : List Feat) (ok : ∀ y ∈ p.Labels, y.size ≤ 9223372036854775807) : ∃ (v : List Int) (c : Int), ((v, c) = scoR p feats) ∧ Con Try.prog 7 [agPerceptron p, slFeat false feats] true (.tup [slI true v, I c]) := by
  have hh : ∃ r : (List Int) × Int, (((r.1, r.2) = scoR p feats) ∧ (True)) ∧ CallOK Try.prog 7 [agPerceptron p, slFeat false feats] (lookO []) true (.tup [slI true r.1, I r.2]) (lookO []) := by
    refine fn_okX (Φ := fun r : (List Int) × Int => ((r.1, r.2) = scoR p feats) ∧ (True)) [] (fun r => []) (fn := Try.f7) (nt := 18) Try.func7 rfl rfl (args := [agPerceptron p, slFeat false feats]) rfl (allcons (.inl ⟨rfl, by simp [tagged, taggedL, tagLI, tagS]⟩) (allcons (.inl ⟨rfl, tagFeat false _⟩) allnil)) (res := fun r => .tup [slI true r.1, I r.2]) ?_
    refine xR [(0, .new 2)] [1, 2] [2] [slFeat false feats, .ref 2 0] [some (bxPerceptron p)] [] trivial ?_
    refine x_seq ?_
    refine x_seq ?_
    rcases Bool.eq_false_or_eq_true (okPerc p) with h1 | h1
    ·rcases Bool.eq_false_or_eq_true (okFeats feats 384) with h2 | h2
     ·refine x_r [(1, .call [(true, .any)] true (Bv true)), (5, .call [(true, .any)] true (Bv true))] [1, 2, 13] [2] [slFeat false feats, .ref 2 0, Bv false] [some (bxPerceptron p)] [Con Try.prog 34 [agPerceptron p] true (Bv true) ∧ True, Con Try.prog 35 [slFeat false feats] true (Bv true) ∧ True] ⟨⟨(con_bool h1 (ValidPerceptron_ok p ok)), trivial⟩, ⟨(con_bool h2 (ValidFeats_ok feats)), trivial⟩, trivial⟩ ?_
      refine xe_then ?_
      refine x_false rfl ?_
      refine x_skip ?_
      refine xe_then ?_
      refine x_seq ?_
      obtain ⟨v_1, hx1_0, hc1⟩ := inputOf_ok feats (by assumption)
      have hinp := inp_ok (by assumption) hx1_0
      have hiv := hx1_0
      obtain ⟨v_2, hx2_0, hc2⟩ := scoresOf_ok p v_1 (by assumption) hinp
      have hsv := hx2_0
      have hsl : v_2.length = p.Weights.length := by rw [hsv, scR_len]
      rw [hiv] at hsv
      refine x_r [(2, .call [(true, .any)] true (slI true v_1)), (3, .call [(true, .any), (false, slI false v_1)] true (slI true v_2))] [4, 5] [] [slI true v_2, I 0] [] [Con Try.prog 37 [slFeat false feats] true (slI true v_1) ∧ True, Con Try.prog 36 [agPerceptron p, slI false v_1] true (slI true v_2) ∧ ((false = true → true = true) ∧ 1 = 1 ∧ v_1.length = v_1.length ∧ ∀ i_, i_ < v_1.length → (fI v_1) i_ = (fI v_1) i_ ∨ (AV.idsL ((fI v_1) i_) = [] ∧ leL (fun _ => none) false ((fI v_1) i_) ((fI v_1) i_))) ∧ True] ⟨⟨hc1, trivial⟩, ⟨hc2, ⟨(fun h => by cases h), rfl, rfl, fun i _ => .inl rfl⟩, trivial⟩, trivial⟩ ?_
      refine xe_then ?_
      refine x_ret ?_
      refine xe_end (v_2, 0) (show ((v_2, 0) = scoR p feats) ∧ (True) from ⟨(by first | (rw [hsv]; exact (scoR_yes (by assumption) (by assumption)).symm) | exact (scoR_n1 (by assumption)).symm | exact (scoR_n2 (by assumption)).symm), trivial⟩) (trivial) (.tup [slI true v_2, I 0]) (by kernel_rfl) (.inl rfl) (fun _ => rfl) (fun _ => (by simp [tagged, taggedL, tagI]))
     refine x_r [(1, .call [(true, .any)] true (Bv true)), (5, .call [(true, .any)] true (Bv false))] [1, 2, 13] [2] [slFeat false feats, .ref 2 0, Bv true] [some (bxPerceptron p)] [Con Try.prog 34 [agPerceptron p] true (Bv true) ∧ True, Con Try.prog 35 [slFeat false feats] true (Bv false) ∧ True] ⟨⟨(con_bool h1 (ValidPerceptron_ok p ok)), trivial⟩, ⟨(con_bool h2 (ValidFeats_ok feats)), trivial⟩, trivial⟩ ?_
     refine xe_then ?_
     refine x_true rfl ?_
     refine xR [] [4, 5] [] [nilA, I 1] [] [] trivial ?_
     refine x_ret ?_
     refine xe_ret_then ?_
     refine xe_end (([] : List Int), 1) (show ((([] : List Int), 1) = scoR p feats) ∧ (True) from ⟨(by first | (rw [hsv]; exact (scoR_yes (by assumption) (by assumption)).symm) | exact (scoR_n1 (by assumption)).symm | exact (scoR_n2 (by assumption)).symm), trivial⟩) (trivial) (.tup [nilA, I 1]) (by kernel_rfl) (.inr ⟨⟨rfl, rfl⟩, ⟨rfl, rfl⟩⟩) (fun _ => rfl) (fun _ => (by simp [tagged, taggedL, tagI]))
    refine x_r [(1, .call [(true, .any)] true (Bv false))] [1, 2, 13] [2] [slFeat false feats, .ref 2 0, Bv true] [some (bxPerceptron p)] [Con Try.prog 34 [agPerceptron p] true (Bv false) ∧ True] ⟨⟨(con_bool h1 (ValidPerceptron_ok p ok)), trivial⟩, trivial⟩ ?_
    refine xe_then ?_
    refine x_true rfl ?_
    refine xR [] [4, 5] [] [nilA, I 1] [] [] trivial ?_
    refine x_ret ?_
    refine xe_ret_then ?_
    refine xe_end (([] : List Int), 1) (show ((([] : List Int), 1) = scoR p feats) ∧ (True) from ⟨(by first | (rw [hsv]; exact (scoR_yes (by assumption) (by assumption)).symm) | exact (scoR_n1 (by assumption)).symm | exact (scoR_n2 (by assumption)).symm), trivial⟩) (trivial) (.tup [nilA, I 1]) (by kernel_rfl) (.inr ⟨⟨rfl, rfl⟩, ⟨rfl, rfl⟩⟩) (fun _ => rfl) (fun _ => (by simp [tagged, taggedL, tagI]))
  obtain ⟨⟨v, c⟩, ⟨hh0, _⟩, hc⟩ := hh
  exact ⟨v, c, hh0, hc⟩


-- spec.l08Feat
theorem l08Feat_ok (f : Feat) : Con Try.prog 74 [agFeat f] true (Bv (okF f)) := by
  refine fn_ok (fn := Try.f74) (nt := 16) Try.func74 rfl rfl rfl rfl (by simp [taggedL, tagged]) fun B hB => ?_
  refine aR [(0, .new 1)] [1] [1] [.ref 1 0] [some (bxFeat f)] [] hB trivial ?_
  refine aw_seq ?_
  rcases Bool.eq_false_or_eq_true (inB f.X 0 255) with h1 | h1
  ·rcases Bool.eq_false_or_eq_true (inB f.Y 0 255) with h2 | h2
   ·refine aw_r [(2, .call [(true, .any), (true, .any), (true, .any)] true (Bv true)), (6, .call [(true, .any), (true, .any), (true, .any)] true (Bv true)), (11, .call [(true, .any), (true, .any), (true, .any)] true (Bv (inB f.D 0 7)))] [2] [] [Bv (inB f.D 0 7)] [] [Con Try.prog 64 [I f.X, I 0, I 255] true (Bv true) ∧ True, Con Try.prog 64 [I f.Y, I 0, I 255] true (Bv true) ∧ True, Con Try.prog 64 [I f.D, I 0, I 7] true (Bv (inB f.D 0 7)) ∧ True] hB ⟨⟨(con_bool h1 (l00In_ok f.X 0 255)), trivial⟩, ⟨(con_bool h2 (l00In_ok f.Y 0 255)), trivial⟩, ⟨(l00In_ok f.D 0 7), trivial⟩, trivial⟩ ?_
    refine ae_then ?_
    refine aw_ret ?_
    refine ae_ret hB (Bv (inB f.D 0 7)) (by kernel_rfl) (.inl (by first | rfl | (refine congrArg Bv ?_; simp [okF, *]; done) | (refine congrArg Bv ?_; simp [okF, *]; omega) | (refine congrArg Bv ?_; simp_all [okF]; done) | (refine congrArg Bv ?_; simp_all [okF]; omega))) rfl (fun _ => trivial)
   refine aw_r [(2, .call [(true, .any), (true, .any), (true, .any)] true (Bv true)), (6, .call [(true, .any), (true, .any), (true, .any)] true (Bv false))] [2] [] [Bv false] [] [Con Try.prog 64 [I f.X, I 0, I 255] true (Bv true) ∧ True, Con Try.prog 64 [I f.Y, I 0, I 255] true (Bv false) ∧ True] hB ⟨⟨(con_bool h1 (l00In_ok f.X 0 255)), trivial⟩, ⟨(con_bool h2 (l00In_ok f.Y 0 255)), trivial⟩, trivial⟩ ?_
   refine ae_then ?_
   refine aw_ret ?_
   refine ae_ret hB (Bv false) (by kernel_rfl) (.inl (by first | rfl | (refine congrArg Bv ?_; simp [okF, *]; done) | (refine congrArg Bv ?_; simp [okF, *]; omega) | (refine congrArg Bv ?_; simp_all [okF]; done) | (refine congrArg Bv ?_; simp_all [okF]; omega))) rfl (fun _ => trivial)
  refine aw_r [(2, .call [(true, .any), (true, .any), (true, .any)] true (Bv false))] [2] [] [Bv false] [] [Con Try.prog 64 [I f.X, I 0, I 255] true (Bv false) ∧ True] hB ⟨⟨(con_bool h1 (l00In_ok f.X 0 255)), trivial⟩, trivial⟩ ?_
  refine ae_then ?_
  refine aw_ret ?_
  refine ae_ret hB (Bv false) (by kernel_rfl) (.inl (by first | rfl | (refine congrArg Bv ?_; simp [okF, *]; done) | (refine congrArg Bv ?_; simp [okF, *]; omega) | (refine congrArg Bv ?_; simp_all [okF]; done) | (refine congrArg Bv ?_; simp_all [okF]; omega))) rfl (fun _ => trivial)


-- spec.l08Ok
theorem l08Ok_ok (list : List Feat) : Con Try.prog 39 [slFeat false list] true (Bv (okFeats list 384)) := by
  refine fn_ok (fn := Try.f39) (nt := 19) Try.func39 rfl rfl rfl rfl (by simp [taggedL, tagged, tagFeat]) fun B hB => ?_
  refine aw_lens (x := slFeat false list) 0 rfl (fun len_list => ?_)
  simp [LenOK, LenL, cFeat, fFeat, slFeat] at len_list
  refine aR [] [0] [] [slFeat false list] [] [] hB trivial ?_
  refine aw_seq ?_
  refine aR [] [0, 3] [] [slFeat false list, I 0] [] [] hB trivial ?_
  refine aw_block ?_
  refine aw_loop (fun gn gσ => ∃ (i : Int), gn = ((list.length : Int) - i).toNat ∧ (0 ≤ i ∧ i ≤ (list.length : Int)) ∧ (∀ j : Nat, (j : Int) < i → okF (at_ list j) = true) ∧ gσ = mkS [(0, slFeat false list), (3, I i)] []) (((list.length : Int) - 0).toNat) ⟨0, rfl, (by omega), (by intro j hj; omega), rfl⟩ (fun gn gσ hI => ?_)
  obtain ⟨i, rfl, hi0, hall0, rfl⟩ := hI
  refine aw_seq ?_
  refine aw_seq ?_
  by_cases h1 : i < (list.length : Int)
  ·have hi : i.toNat < list.length := by omega
   refine aw_r [(3, .dec true)] [0, 3, 7] [] [slFeat false list, I i, Bv true] [] [i < (list.length : Int)] hB ⟨h1, trivial⟩ ?_
   refine ae_then ?_
   refine aw_true rfl ?_
   refine aw_skip ?_
   refine ae_then ?_
   refine aw_seq ?_
   refine aw_block ?_
   refine aw_seq ?_
   rcases Bool.eq_false_or_eq_true (okF (at_ list i.toNat)) with h2 | h2
   ·refine aw_r [(4, .call [(true, .any)] true (Bv true))] [0, 3, 15] [] [slFeat false list, I i, Bv false] [] [(0 : Int) ≤ i ∧ i < (list.length : Int), Con Try.prog 74 [agFeat (at_ list i.toNat)] true (Bv true) ∧ True] hB ⟨⟨(by omega), (by omega)⟩, ⟨(con_bool h2 (l08Feat_ok (at_ list i.toNat))), trivial⟩, trivial⟩ ?_
    refine ae_then ?_
    refine aw_false rfl ?_
    refine aw_skip ?_
    refine ae_block 1 ?_
    refine ae_then ?_
    refine aw_r [] [0, 3] [] [slFeat false list, I (i + 1)] [] [inR .i64 (i + 1)] hB ⟨(inR_i64 (by omega) (by omega)), trivial⟩ ?_
    exact ae_again _ (by omega) ⟨(i + 1), rfl, (by omega), (by intro j hj; by_cases ej : j = i.toNat; (subst ej; first | assumption | exact hok); exact hall0 j (by omega)), rfl⟩
   have hall : allN list.length (fun j => okF (at_ list j)) = false := allN_not hi h2
   refine aw_r [(4, .call [(true, .any)] true (Bv false))] [0, 3, 15] [] [slFeat false list, I i, Bv true] [] [(0 : Int) ≤ i ∧ i < (list.length : Int), Con Try.prog 74 [agFeat (at_ list i.toNat)] true (Bv false) ∧ True] hB ⟨⟨(by omega), (by omega)⟩, ⟨(con_bool h2 (l08Feat_ok (at_ list i.toNat))), trivial⟩, trivial⟩ ?_
   refine ae_then ?_
   refine aw_true rfl ?_
   refine aR [] [2] [] [Bv false] [] [] hB trivial ?_
   refine aw_ret ?_
   refine ae_ret_block (ae_ret_then (ae_ret_then (ae_ret_block (ae_ret_then ?_))))
   refine ae_ret hB (Bv false) (by kernel_rfl) (.inl (by first | rfl | (refine congrArg Bv ?_; simp [okFeats, inB, *]; done) | (refine congrArg Bv ?_; simp [okFeats, inB, *]; omega) | (refine congrArg Bv ?_; simp_all [okFeats, inB]; done) | (refine congrArg Bv ?_; simp_all [okFeats, inB]; omega))) rfl (fun _ => trivial)
  have hall : allN list.length (fun j => okF (at_ list j)) = true := allN_at (fun j hj => hall0 j (by omega))
  refine aw_r [(3, .dec false)] [0, 3, 7] [] [slFeat false list, I i, Bv false] [] [¬ (i < (list.length : Int))] hB ⟨h1, trivial⟩ ?_
  refine ae_then ?_
  refine aw_false rfl ?_
  refine aw_exit ?_
  refine ae_exit_then ?_
  refine ae_exit_then ?_
  refine ae_exit_same ?_
  refine ae_then ?_
  refine aR [(2, .call [(true, .any), (true, .any), (true, .any)] true (Bv (inB (list.length : Int) 1 384)))] [2] [] [Bv (inB (list.length : Int) 1 384)] [] [Con Try.prog 64 [I (list.length : Int), I 1, I 384] true (Bv (inB (list.length : Int) 1 384)) ∧ True] hB ⟨⟨(l00In_ok (list.length : Int) 1 384), trivial⟩, trivial⟩ ?_
  refine aw_ret ?_
  refine ae_ret hB (Bv (inB (list.length : Int) 1 384)) (by kernel_rfl) (.inl (by first | rfl | (refine congrArg Bv ?_; simp [okFeats, inB, *]; done) | (refine congrArg Bv ?_; simp [okFeats, inB, *]; omega) | (refine congrArg Bv ?_; simp_all [okFeats, inB]; done) | (refine congrArg Bv ?_; simp_all [okFeats, inB]; omega))) rfl (fun _ => trivial)


-- spec.ScoresOf
theorem specScoresOf_ok (p : Perceptron) (feats : List Feat) (ok : ∀ y ∈ p.Labels, y.size ≤ 9223372036854775807) : ∃ (v : List Int) (c : Int), ((v, c) = scoR p feats) ∧ Con Try.prog 8 [agPerceptron p, slFeat false feats] true (.tup [slI true v, I c]) := by
  have hh : ∃ r : (List Int) × Int, (((r.1, r.2) = scoR p feats) ∧ (True)) ∧ CallOK Try.prog 8 [agPerceptron p, slFeat false feats] (lookO []) true (.tup [slI true r.1, I r.2]) (lookO []) := by
    refine fn_okX (Φ := fun r : (List Int) × Int => ((r.1, r.2) = scoR p feats) ∧ (True)) [] (fun r => []) (fn := Try.f8) (nt := 16) Try.func8 rfl rfl (args := [agPerceptron p, slFeat false feats]) rfl (allcons (.inl ⟨rfl, by simp [tagged, taggedL, tagLI, tagS]⟩) (allcons (.inl ⟨rfl, tagFeat false _⟩) allnil)) (res := fun r => .tup [slI true r.1, I r.2]) ?_
    refine xR [(0, .new 2)] [1, 2] [2] [slFeat false feats, .ref 2 0] [some (bxPerceptron p)] [] trivial ?_
    refine x_seq ?_
    refine x_seq ?_
    rcases Bool.eq_false_or_eq_true (okPerc p) with h1 | h1
    ·rcases Bool.eq_false_or_eq_true (okFeats feats 384) with h2 | h2
     ·refine x_r [(0, .call [(false, .ptr false [slS false p.Labels, slLI false p.Weights])] true (Bv true)), (4, .call [(true, .any)] true (Bv true))] [1, 2, 12] [2] [slFeat false feats, .ref 2 0, Bv false] [some (bxPerceptron p)] [Con Try.prog 38 [.ptr false [slS false p.Labels, slLI false p.Weights]] true (Bv true) ∧ ((false = true → true = true) ∧ AV.idsL [slS false p.Labels, slLI false p.Weights] = [] ∧ ((false = true → false = true) ∧ 1 = 1 ∧ p.Labels.length = p.Labels.length ∧ ∀ i_, i_ < p.Labels.length → (fS p.Labels) i_ = (fS p.Labels) i_ ∨ (AV.idsL ((fS p.Labels) i_) = [] ∧ leL (fun _ => none) false ((fS p.Labels) i_) ((fS p.Labels) i_))) ∧ ((false = true → false = true) ∧ 1 = 1 ∧ p.Weights.length = p.Weights.length ∧ ∀ i_, i_ < p.Weights.length → (fLI false p.Weights) i_ = (fLI false p.Weights) i_ ∨ (AV.idsL ((fLI false p.Weights) i_) = [] ∧ leL (fun _ => none) false ((fLI false p.Weights) i_) ((fLI false p.Weights) i_))) ∧ ([] : List AV) = []) ∧ True, Con Try.prog 39 [slFeat false feats] true (Bv true) ∧ True] ⟨⟨(con_bool h1 (l12Ok_ok p ok)), ⟨(fun h => by cases h), rfl, ⟨⟨(fun h => by cases h), rfl, rfl, fun i _ => .inl rfl⟩, ⟨⟨(fun h => by cases h), rfl, rfl, fun i _ => .inl rfl⟩, rfl⟩⟩⟩, trivial⟩, ⟨(con_bool h2 (l08Ok_ok feats)), trivial⟩, trivial⟩ ?_
      refine xe_then ?_
      refine x_false rfl ?_
      refine x_skip ?_
      refine xe_then ?_
      refine x_seq ?_
      obtain ⟨v_1, hx1_0, hc1⟩ := l12Input_ok feats (by assumption)
      have hinp := inp_ok (by assumption) hx1_0
      have hiv := hx1_0
      obtain ⟨v_2, hx2_0, hc2⟩ := l12Scores_ok p v_1 (by assumption) hinp
      have hsv := hx2_0
      have hsl : v_2.length = p.Weights.length := by rw [hsv, scR_len]
      rw [hiv] at hsv
      refine x_r [(1, .call [(true, .any)] true (slI true v_1)), (2, .call [(false, .ptr false [slS false p.Labels, slLI false p.Weights]), (false, slI false v_1)] true (slI true v_2))] [4, 5] [] [slI true v_2, I 0] [] [Con Try.prog 41 [slFeat false feats] true (slI true v_1) ∧ True, Con Try.prog 40 [.ptr false [slS false p.Labels, slLI false p.Weights], slI false v_1] true (slI true v_2) ∧ ((false = true → true = true) ∧ AV.idsL [slS false p.Labels, slLI false p.Weights] = [] ∧ ((false = true → false = true) ∧ 1 = 1 ∧ p.Labels.length = p.Labels.length ∧ ∀ i_, i_ < p.Labels.length → (fS p.Labels) i_ = (fS p.Labels) i_ ∨ (AV.idsL ((fS p.Labels) i_) = [] ∧ leL (fun _ => none) false ((fS p.Labels) i_) ((fS p.Labels) i_))) ∧ ((false = true → false = true) ∧ 1 = 1 ∧ p.Weights.length = p.Weights.length ∧ ∀ i_, i_ < p.Weights.length → (fLI false p.Weights) i_ = (fLI false p.Weights) i_ ∨ (AV.idsL ((fLI false p.Weights) i_) = [] ∧ leL (fun _ => none) false ((fLI false p.Weights) i_) ((fLI false p.Weights) i_))) ∧ ([] : List AV) = []) ∧ ((false = true → true = true) ∧ 1 = 1 ∧ v_1.length = v_1.length ∧ ∀ i_, i_ < v_1.length → (fI v_1) i_ = (fI v_1) i_ ∨ (AV.idsL ((fI v_1) i_) = [] ∧ leL (fun _ => none) false ((fI v_1) i_) ((fI v_1) i_))) ∧ True] ⟨⟨hc1, trivial⟩, ⟨hc2, ⟨(fun h => by cases h), rfl, ⟨⟨(fun h => by cases h), rfl, rfl, fun i _ => .inl rfl⟩, ⟨⟨(fun h => by cases h), rfl, rfl, fun i _ => .inl rfl⟩, rfl⟩⟩⟩, ⟨(fun h => by cases h), rfl, rfl, fun i _ => .inl rfl⟩, trivial⟩, trivial⟩ ?_
      refine xe_then ?_
      refine x_ret ?_
      refine xe_end (v_2, 0) (show ((v_2, 0) = scoR p feats) ∧ (True) from ⟨(by first | (rw [hsv]; exact (scoR_yes (by assumption) (by assumption)).symm) | exact (scoR_n1 (by assumption)).symm | exact (scoR_n2 (by assumption)).symm), trivial⟩) (trivial) (.tup [slI true v_2, I 0]) (by kernel_rfl) (.inl rfl) (fun _ => rfl) (fun _ => (by simp [tagged, taggedL, tagI]))
     refine x_r [(0, .call [(false, .ptr false [slS false p.Labels, slLI false p.Weights])] true (Bv true)), (4, .call [(true, .any)] true (Bv false))] [1, 2, 12] [2] [slFeat false feats, .ref 2 0, Bv true] [some (bxPerceptron p)] [Con Try.prog 38 [.ptr false [slS false p.Labels, slLI false p.Weights]] true (Bv true) ∧ ((false = true → true = true) ∧ AV.idsL [slS false p.Labels, slLI false p.Weights] = [] ∧ ((false = true → false = true) ∧ 1 = 1 ∧ p.Labels.length = p.Labels.length ∧ ∀ i_, i_ < p.Labels.length → (fS p.Labels) i_ = (fS p.Labels) i_ ∨ (AV.idsL ((fS p.Labels) i_) = [] ∧ leL (fun _ => none) false ((fS p.Labels) i_) ((fS p.Labels) i_))) ∧ ((false = true → false = true) ∧ 1 = 1 ∧ p.Weights.length = p.Weights.length ∧ ∀ i_, i_ < p.Weights.length → (fLI false p.Weights) i_ = (fLI false p.Weights) i_ ∨ (AV.idsL ((fLI false p.Weights) i_) = [] ∧ leL (fun _ => none) false ((fLI false p.Weights) i_) ((fLI false p.Weights) i_))) ∧ ([] : List AV) = []) ∧ True, Con Try.prog 39 [slFeat false feats] true (Bv false) ∧ True] ⟨⟨(con_bool h1 (l12Ok_ok p ok)), ⟨(fun h => by cases h), rfl, ⟨⟨(fun h => by cases h), rfl, rfl, fun i _ => .inl rfl⟩, ⟨⟨(fun h => by cases h), rfl, rfl, fun i _ => .inl rfl⟩, rfl⟩⟩⟩, trivial⟩, ⟨(con_bool h2 (l08Ok_ok feats)), trivial⟩, trivial⟩ ?_
     refine xe_then ?_
     refine x_true rfl ?_
     refine xR [] [4, 5] [] [nilA, I 1] [] [] trivial ?_
     refine x_ret ?_
     refine xe_ret_then ?_
     refine xe_end (([] : List Int), 1) (show ((([] : List Int), 1) = scoR p feats) ∧ (True) from ⟨(by first | (rw [hsv]; exact (scoR_yes (by assumption) (by assumption)).symm) | exact (scoR_n1 (by assumption)).symm | exact (scoR_n2 (by assumption)).symm), trivial⟩) (trivial) (.tup [nilA, I 1]) (by kernel_rfl) (.inr ⟨⟨rfl, rfl⟩, ⟨rfl, rfl⟩⟩) (fun _ => rfl) (fun _ => (by simp [tagged, taggedL, tagI]))
    refine x_r [(0, .call [(false, .ptr false [slS false p.Labels, slLI false p.Weights])] true (Bv false))] [1, 2, 12] [2] [slFeat false feats, .ref 2 0, Bv true] [some (bxPerceptron p)] [Con Try.prog 38 [.ptr false [slS false p.Labels, slLI false p.Weights]] true (Bv false) ∧ ((false = true → true = true) ∧ AV.idsL [slS false p.Labels, slLI false p.Weights] = [] ∧ ((false = true → false = true) ∧ 1 = 1 ∧ p.Labels.length = p.Labels.length ∧ ∀ i_, i_ < p.Labels.length → (fS p.Labels) i_ = (fS p.Labels) i_ ∨ (AV.idsL ((fS p.Labels) i_) = [] ∧ leL (fun _ => none) false ((fS p.Labels) i_) ((fS p.Labels) i_))) ∧ ((false = true → false = true) ∧ 1 = 1 ∧ p.Weights.length = p.Weights.length ∧ ∀ i_, i_ < p.Weights.length → (fLI false p.Weights) i_ = (fLI false p.Weights) i_ ∨ (AV.idsL ((fLI false p.Weights) i_) = [] ∧ leL (fun _ => none) false ((fLI false p.Weights) i_) ((fLI false p.Weights) i_))) ∧ ([] : List AV) = []) ∧ True] ⟨⟨(con_bool h1 (l12Ok_ok p ok)), ⟨(fun h => by cases h), rfl, ⟨⟨(fun h => by cases h), rfl, rfl, fun i _ => .inl rfl⟩, ⟨⟨(fun h => by cases h), rfl, rfl, fun i _ => .inl rfl⟩, rfl⟩⟩⟩, trivial⟩, trivial⟩ ?_
    refine xe_then ?_
    refine x_true rfl ?_
    refine xR [] [4, 5] [] [nilA, I 1] [] [] trivial ?_
    refine x_ret ?_
    refine xe_ret_then ?_
    refine xe_end (([] : List Int), 1) (show ((([] : List Int), 1) = scoR p feats) ∧ (True) from ⟨(by first | (rw [hsv]; exact (scoR_yes (by assumption) (by assumption)).symm) | exact (scoR_n1 (by assumption)).symm | exact (scoR_n2 (by assumption)).symm), trivial⟩) (trivial) (.tup [nilA, I 1]) (by kernel_rfl) (.inr ⟨⟨rfl, rfl⟩, ⟨rfl, rfl⟩⟩) (fun _ => rfl) (fun _ => (by simp [tagged, taggedL, tagI]))
  obtain ⟨⟨v, c⟩, ⟨hh0, _⟩, hc⟩ := hh
  exact ⟨v, c, hh0, hc⟩


-- slices.Max[[]int64,int64]
theorem maxI_ok (xl : List Int) (hl : 1 ≤ xl.length ∧ xl.length ≤ 1000) : ∃ (v : Int), (isMx xl (xl.length : Int) v) ∧ Con Try.prog 45 [slI false xl] true (I v) := by
  have hh : ∃ r : Int, ((isMx xl (xl.length : Int) r) ∧ (True)) ∧ CallOK Try.prog 45 [slI false xl] (lookO []) true (I r) (lookO []) := by
    refine fn_okX (Φ := fun r : Int => (isMx xl (xl.length : Int) r) ∧ (True)) [] (fun r => []) (fn := Try.f45) (nt := 25) Try.func45 rfl rfl (args := [slI false xl]) rfl (allcons (.inl ⟨rfl, tagI false _⟩) allnil) (res := fun r => I r) ?_
    refine xR [] [0] [] [slI false xl] [] [] trivial ?_
    refine x_seq ?_
    refine xR [(2, .dec false)] [0, 7] [] [slI false xl, Bv false] [] [¬ ((xl.length : Int) < 1)] ⟨(by omega), trivial⟩ ?_
    refine x_false rfl ?_
    refine x_skip ?_
    refine xe_then ?_
    refine xR [] [0, 3] [] [slI false xl, I (at_ xl 0)] [] [(0 : Int) ≤ 0 ∧ 0 < (xl.length : Int)] ⟨⟨(by omega), (by omega)⟩, trivial⟩ ?_
    refine x_seq ?_
    refine xR [] [0, 3, 4] [] [slI false xl, I (at_ xl 0), I 1] [] [] trivial ?_
    refine x_block ?_
    refine x_loop (X := Int × Int) (fun x => mkS [(0, slI false xl), (3, I x.1), (4, I x.2)] []) (fun x => (1 ≤ x.2 ∧ x.2 ≤ (xl.length : Int)) ∧ (isMx xl x.2 x.1) ∧ True) (fun x => ((xl.length : Int) - x.2).toNat) ((at_ xl 0), 1) rfl (show (1 ≤ (1 : Int) ∧ (1 : Int) ≤ (xl.length : Int)) ∧ (isMx xl (1 : Int) (at_ xl 0)) ∧ True from ⟨(by omega), (by exact isMx_1 xl), trivial⟩) (fun x hI => ?_)
    obtain ⟨m, i⟩ := x
    obtain ⟨hi0, hmx, _⟩ : (1 ≤ i ∧ i ≤ (xl.length : Int)) ∧ (isMx xl i m) ∧ True := hI
    show XW _ _ _ _ (mkS [(0, slI false xl), (3, I m), (4, I i)] []) _ _
    refine x_seq ?_
    refine x_seq ?_
    by_cases h1 : i < (xl.length : Int)
    ·have hi : i.toNat < xl.length := by omega
     refine x_r [(3, .dec true)] [0, 3, 4, 15] [] [slI false xl, I m, I i, Bv true] [] [i < (xl.length : Int)] ⟨h1, trivial⟩ ?_
     refine xe_then ?_
     refine x_true rfl ?_
     refine x_skip ?_
     refine xe_then ?_
     refine x_seq ?_
     refine x_block ?_
     refine x_r [] [0, 3, 4] [] [slI false xl, I (max m (at_ xl i.toNat)), I i] [] [(0 : Int) ≤ i ∧ i < (xl.length : Int)] ⟨⟨(by omega), (by omega)⟩, trivial⟩ ?_
     refine xe_block 1 ?_
     refine xe_then ?_
     refine x_r [] [0, 3, 4] [] [slI false xl, I (max m (at_ xl i.toNat)), I (i + 1)] [] [inR .i64 (i + 1)] ⟨(inR_i64 (by omega) (by omega)), trivial⟩ ?_
     exact xe_again ((max m (at_ xl i.toNat)), (i + 1)) rfl (show (1 ≤ (i + 1) ∧ (i + 1) ≤ (xl.length : Int)) ∧ (isMx xl (i + 1) (max m (at_ xl i.toNat))) ∧ True from ⟨(by omega), (by exact isMx_next (by omega) hmx), trivial⟩) (by first | (show (((xl.length : Int) - (i + 1)).toNat : Nat) < ((xl.length : Int) - i).toNat; omega) | (dsimp only; omega))
    rw [show i = (xl.length : Int) from by omega] at hmx
    refine x_r [(3, .dec false)] [0, 3, 4, 15] [] [slI false xl, I m, I i, Bv false] [] [¬ (i < (xl.length : Int))] ⟨h1, trivial⟩ ?_
    refine xe_then ?_
    refine x_false rfl ?_
    refine x_exit ?_
    refine xe_exit_then ?_
    refine xe_loop_exit ?_
    refine xe_exit_same ?_
    refine xe_then ?_
    refine xR [] [2] [] [I m] [] [] trivial ?_
    refine x_ret ?_
    refine xe_end m (show (isMx xl (xl.length : Int) m) ∧ (True) from ⟨(by exact hmx), trivial⟩) (trivial) (I m) (by kernel_rfl) (.inl rfl) (fun _ => rfl) (fun _ => trivial)
  obtain ⟨v, ⟨hh0, _⟩, hc⟩ := hh
  exact ⟨v, hh0, hc⟩


-- slices.Index[[]int64,int64]
theorem indexI_ok (s : List Int) (v : Int) : Con Try.prog 76 [slI false s, I v] true (I (firstN s.length (fun j => decide (at_ s j = v)))) := by
  refine fn_ok (fn := Try.f76) (nt := 19) Try.func76 rfl rfl rfl rfl (by simp [taggedL, tagged, tagI]) fun B hB => ?_
  refine aw_lens (x := slI false s) 0 rfl (fun len_s => ?_)
  simp [LenOK, LenL, cI, fI, slI] at len_s
  refine aR [] [0, 1] [] [slI false s, I v] [] [] hB trivial ?_
  refine aw_seq ?_
  refine aR [] [0, 1, 7, 8] [] [slI false s, I v, I (s.length : Int), I 0] [] [] hB trivial ?_
  refine aw_block ?_
  refine aw_loop (fun gn gσ => ∃ (t8 : Int), gn = ((s.length : Int) - t8).toNat ∧ (0 ≤ t8 ∧ t8 ≤ (s.length : Int)) ∧ (∀ j : Nat, (j : Int) < t8 → ¬ at_ s j = v) ∧ gσ = mkS [(0, slI false s), (1, I v), (7, I (s.length : Int)), (8, I t8)] []) (((s.length : Int) - 0).toNat) ⟨0, rfl, (by omega), (by intro j hj; omega), rfl⟩ (fun gn gσ hI => ?_)
  obtain ⟨t8, rfl, hi0, hne, rfl⟩ := hI
  refine aw_seq ?_
  by_cases h1 : t8 < (s.length : Int)
  ·have hi : t8.toNat < s.length := by omega
   refine aw_r [(0, .dec true)] [0, 1, 7, 8, 9] [] [slI false s, I v, I (s.length : Int), I t8, Bv true] [] [t8 < (s.length : Int)] hB ⟨h1, trivial⟩ ?_
   refine ae_then ?_
   refine aw_seq ?_
   refine aw_true rfl ?_
   refine aw_skip ?_
   refine ae_then ?_
   refine aw_seq ?_
   refine aw_block ?_
   refine aR [] [0, 1, 5, 7, 8] [] [slI false s, I v, I t8, I (s.length : Int), I t8] [] [] hB trivial ?_
   refine aw_seq ?_
   by_cases h2 : v = (at_ s t8.toNat)
   ·have hfin : firstN s.length (fun j => decide (at_ s j = v)) = t8.toNat := firstN_hit hi (decide_eq_true (Eq.symm h2)) (fun j hj => decide_eq_false (hne j (by omega)))
    refine aw_r [(5, .dec true)] [0, 1, 5, 7, 8, 16] [] [slI false s, I v, I t8, I (s.length : Int), I t8, Bv true] [] [(0 : Int) ≤ t8 ∧ t8 < (s.length : Int), v = (at_ s t8.toNat)] hB ⟨⟨(by omega), (by omega)⟩, h2, trivial⟩ ?_
    refine ae_then ?_
    refine aw_true rfl ?_
    refine aR [] [4] [] [I t8] [] [] hB trivial ?_
    refine aw_ret ?_
    refine ae_ret_block (ae_ret_then (ae_ret_then (ae_ret_block (ae_ret_then ?_))))
    refine ae_ret hB (I t8) (by kernel_rfl) (.inl (by refine congrArg I ?_; first | (rw [hfin]; done) | (rw [hfin]; omega))) rfl (fun _ => trivial)
   have hno : ¬ at_ s t8.toNat = v := fun q => h2 q.symm
   refine aw_r [(5, .dec false)] [0, 1, 5, 7, 8, 16] [] [slI false s, I v, I t8, I (s.length : Int), I t8, Bv false] [] [(0 : Int) ≤ t8 ∧ t8 < (s.length : Int), ¬ (v = (at_ s t8.toNat))] hB ⟨⟨(by omega), (by omega)⟩, h2, trivial⟩ ?_
   refine ae_then ?_
   refine aw_false rfl ?_
   refine aw_skip ?_
   refine ae_block 1 ?_
   refine ae_then ?_
   refine aw_r [] [0, 1, 7, 8] [] [slI false s, I v, I (s.length : Int), I (t8 + 1)] [] [inR .i64 (t8 + 1)] hB ⟨(inR_i64 (by omega) (by omega)), trivial⟩ ?_
   exact ae_again _ (by omega) ⟨(t8 + 1), rfl, (by omega), (by intro j hj; by_cases ej : j = t8.toNat; (subst ej; exact hno); exact hne j (by omega)), rfl⟩
  have hfin : firstN s.length (fun j => decide (at_ s j = v)) = -1 := firstN_none (fun j hj => decide_eq_false (hne j (by omega)))
  refine aw_r [(0, .dec false)] [0, 1, 7, 8, 9] [] [slI false s, I v, I (s.length : Int), I t8, Bv false] [] [¬ (t8 < (s.length : Int))] hB ⟨h1, trivial⟩ ?_
  refine ae_then ?_
  refine aw_seq ?_
  refine aw_false rfl ?_
  refine aw_exit ?_
  refine ae_exit_then ?_
  refine ae_exit_then ?_
  refine ae_exit_same ?_
  refine ae_then ?_
  refine aR [] [4] [] [I (-1)] [] [] hB trivial ?_
  refine aw_ret ?_
  refine ae_ret hB (I (-1)) (by kernel_rfl) (.inl (by refine congrArg I ?_; first | (rw [hfin]; done) | (rw [hfin]; omega))) rfl (fun _ => trivial)


-- impl.winner
theorem winner_ok (scores : List Int) (hl : 1 ≤ scores.length ∧ scores.length ≤ 1000) : Con Try.prog 42 [slI false scores] true (I (bstI scores)) := by
  refine fn_ok (fn := Try.f42) (nt := 7) Try.func42 rfl rfl rfl rfl (by simp [taggedL, tagged, tagI]) fun B hB => ?_
  refine aw_lens (x := slI false scores) 0 rfl (fun len_scores => ?_)
  simp [LenOK, LenL, cI, fI, slI] at len_scores
  refine aR [] [0] [] [slI false scores] [] [] hB trivial ?_
  refine aw_seq ?_
  obtain ⟨v_1, hx1_0, hc1⟩ := maxI_ok scores hl
  refine aw_r [(2, .call [(true, .any)] true (I v_1)), (3, .call [(true, .any), (true, .any)] true (I (firstN scores.length (fun j => decide (at_ scores j = v_1)))))] [2] [] [I (firstN scores.length (fun j => decide (at_ scores j = v_1)))] [] [Con Try.prog 45 [slI false scores] true (I v_1) ∧ True, Con Try.prog 76 [slI false scores, I v_1] true (I (firstN scores.length (fun j => decide (at_ scores j = v_1)))) ∧ True] hB ⟨⟨hc1, trivial⟩, ⟨(indexI_ok scores v_1), trivial⟩, trivial⟩ ?_
  refine ae_then ?_
  refine aw_ret ?_
  refine ae_ret hB (I (firstN scores.length (fun j => decide (at_ scores j = v_1)))) (by kernel_rfl) (.inl (by exact congrArg I (bst_win hl.1 hx1_0))) rfl (fun _ => trivial)


-- slices.Clone[[]int64,int64]
theorem cloneI_ok (s : List Int) (hl : s.length ≤ 100000) : ∃ (out : List Int), (out = s) ∧ CallOK Try.prog 44 [slI false s] (lookO []) false (.arr 8211) (lookO [(8211, .arr 1 out.length (fI out))]) := by
  refine ⟨s, rfl, ?_⟩
  refine fn_okL [] [(8211, .arr 1 s.length (fI s))] (fn := Try.f44) (nt := 8) Try.func44 rfl rfl (args := [slI false s]) rfl (allcons (.inl ⟨rfl, tagI false _⟩) allnil) (res := .arr 8211) (fun B hB => ?_)
  refine aw_seq ?_
  refine aw_reg [] [0] [] [slI false s] [] [] (by kernel_rfl) hB trivial ?_
  refine ae_then ?_
  refine aw_seq ?_
  refine aw_seq ?_
  refine aw_reg [] [0, 4] [] [slI false s, .nilq s.length] [] [] (by kernel_rfl) hB trivial ?_
  refine ae_then ?_
  refine aw_nilq (n := s.length) rfl (fun h1 => ?_) ?_
  · refine aw_seq ?_
    refine aw_reg [] [2] [] [nilA] [] [] (by kernel_rfl) hB trivial ?_
    refine ae_then ?_
    refine aw_ret ?_
    refine ae_ret_then ?_
    refine ae_nil hB 2 8211 1 (fun _ => []) (by kernel_rfl) ?_
    refine ae_weak hB [] (T := [(2, .arr 8211)]) (O := [(8211, .arr 1 s.length (fI s))]) rfl (⟨.inl rfl, trivial⟩) (⟨.inr ⟨rfl, (by omega), fun i_ hi_ => absurd hi_ (by omega)⟩, trivial⟩) ?_
    refine ae_retL hB [(8211, .arr 1 s.length (fI s))] (⟨.inl rfl, trivial⟩) (.arr 8211) (by kernel_rfl) (.inl rfl) (fun h => by cases h) (fun h => by cases h)
  · refine aw_skip ?_
    refine ae_then ?_
    refine aw_seq ?_
    refine aw_reg [(0, .new 5), (2, .new 7)] [2] [7] [.arr 7] [some (.arr 1 (0 + s.length) (catF 0 (litF [] 1) (fI s)))] [(0 + s.length) * 8 ≤ 140737488355328] (by kernel_rfl) hB ⟨(by omega), trivial⟩ ?_
    refine ae_then ?_
    refine aw_ret ?_
    refine ae_weak hB [(8211, 7)] (T := [(2, .arr 8211)]) (O := [(8211, .arr 1 s.length (fI s))]) rfl (⟨.inl rfl, trivial⟩) (⟨.inr ⟨rfl, (by simp), fun i_ hi_ => .inl (cat_nil i_)⟩, trivial⟩) ?_
    refine ae_retL hB [(8211, .arr 1 s.length (fI s))] (⟨.inl rfl, trivial⟩) (.arr 8211) (by kernel_rfl) (.inl rfl) (fun h => by cases h) (fun h => by cases h)


-- slices.Delete[[]int64,int64]
theorem delI_ok {xs : List Int} {a b : Int} (h0 : 0 ≤ a) (hab : a ≤ b) (hb : b ≤ (xs.length : Int)) (h1 : 1 ≤ xs.length) : MovOK Try.prog 43 xs.length (xs.take a.toNat ++ xs.drop b.toNat).length (fI xs) (fI (xs.take a.toNat ++ xs.drop b.toNat)) a b :=
  del_mov (fun blk off cap i j zs w q1 q2 q3 q4 q5 => AnyG.slices_Delete_int Try.laysDel blk off cap i j zs w q1 q2 q3 q4 q5) h0 hab hb h1


theorem scoR_ok {p : Perceptron} {fs : List Feat} {v : List Int} {c : Int} (e : (v, c) = scoR p fs) (h : c = 0) : okPerc p = true ∧ okFeats fs 384 = true ∧ v = scR p.Weights (inpR fs) := by
  subst h
  unfold scoR at e
  split at e
  · rename_i h; exact ⟨h.1, h.2, congrArg Prod.fst e⟩
  · exact absurd (show (0 : Int) = 1 from congrArg Prod.snd e) (by decide)
theorem clsR_no {p : Perceptron} {fs : List Feat} {v : List Int} {c : Int} (e : (v, c) = scoR p fs) (h : ¬ c = 0) : clsR p fs = ((⟨#[]⟩, 0), c) := by
  unfold scoR at e
  unfold clsR
  split at e
  · exact absurd (congrArg Prod.snd e) h
  · rename_i q; rw [if_neg q, show c = 1 from congrArg Prod.snd e]
theorem mg_one {l : List Int} (h1 : 1 ≤ l.length) (h : ¬ 0 < ((l.take (bstI l).toNat ++ l.drop (bstI l + 1).toNat).length : Int)) : mgI l = 0 := by
  have hb := bstI_in h1
  refine mg_none ?_
  rw [List.length_append, List.length_take, List.length_drop] at h
  omega
theorem mg_two {l : List Int} {M : Int} (h1 : 1 ≤ l.length) (h : 0 < ((l.take (bstI l).toNat ++ l.drop (bstI l + 1).toNat).length : Int)) (hm : isMx (l.take (bstI l).toNat ++ l.drop (bstI l + 1).toNat) (l.take (bstI l).toNat ++ l.drop (bstI l + 1).toNat).length M) : at_ l (bstI l).toNat - M = mgI l := by
  have hb := bstI_in h1
  have e : (bstI l + 1).toNat = (bstI l).toNat + 1 := by omega
  rw [e] at h hm
  refine mg_mx ?_ hm
  rw [List.length_append, List.length_take, List.length_drop] at h
  omega
theorem mx_bd {l : List Int} {k m A B : Int} (h : isMx l k m) (hk : k ≤ (l.length : Int)) (hl : ∀ x ∈ l, A ≤ x ∧ x ≤ B) : A ≤ m ∧ m ≤ B := by
  obtain ⟨⟨j, h1, h2⟩, _⟩ := h
  have := hl _ (at_mem (xs := l) (i := j) (by omega))
  omega
theorem sc_bd {p : Perceptron} {fs : List Feat} (h1 : okPerc p = true) (h2 : okFeats fs 384 = true) : ∀ x ∈ scR p.Weights (inpR fs), -12800000000 ≤ x ∧ x ≤ 12800000000 := fun x hx => by
  unfold scR at hx
  rw [List.mem_map] at hx
  obtain ⟨r, hr, rfl⟩ := hx
  obtain ⟨j, hj, e⟩ := List.getElem_of_mem hr
  have hq := okRows_at (okPerc_iff.1 h1).2.2 hj
  rw [at_eq hj, e] at hq
  have := scT_bd hq.2 (inpR_bd (okFeats_n h2).1) 25 (Nat.le_refl _)
  omega
theorem rest_mem {l : List Int} {a b : Nat} {x : Int} (h : x ∈ l.take a ++ l.drop b) : x ∈ l := by
  rcases List.mem_append.1 h with h | h
  · exact List.mem_of_mem_take h
  · exact List.mem_of_mem_drop h

-- impl.Classify
theorem implClassify_ok (p : Perceptron) (feats : List Feat) (ok : ∀ y ∈ p.Labels, y.size ≤ 9223372036854775807) : ∃ (l : ByteArray) (m : Int) (c : Int), (((l, m), c) = clsR p feats) ∧ Con Try.prog 9 [agPerceptron p, slFeat false feats] true (.tup [Sv l, I m, I c]) := by
  have hh : ∃ r : ByteArray × Int × Int, ((((r.1, r.2.1), r.2.2) = clsR p feats) ∧ (True)) ∧ CallOK Try.prog 9 [agPerceptron p, slFeat false feats] (lookO []) true (.tup [Sv r.1, I r.2.1, I r.2.2]) (lookO []) := by
    refine fn_okX (Φ := fun r : ByteArray × Int × Int => (((r.1, r.2.1), r.2.2) = clsR p feats) ∧ (True)) [] (fun r => []) (fn := Try.f9) (nt := 45) Try.func9 rfl rfl (args := [agPerceptron p, slFeat false feats]) rfl (allcons (.inl ⟨rfl, by simp [tagged, taggedL, tagLI, tagS]⟩) (allcons (.inl ⟨rfl, tagFeat false _⟩) allnil)) (res := fun r => .tup [Sv r.1, I r.2.1, I r.2.2]) ?_
    refine xR [(0, .new 2)] [1, 2] [2] [slFeat false feats, .ref 2 0] [some (bxPerceptron p)] [] trivial ?_
    refine x_seq ?_
    obtain ⟨v_1, c_1, hx1_0, hc1⟩ := implScoresOf_ok p feats ok
    have hsc := hx1_0
    refine x_r [(2, .call [(true, .any), (true, .any)] true (.tup [slI true v_1, I c_1]))] [2, 7, 8] [2] [.ref 2 0, slI true v_1, I c_1] [some (bxPerceptron p)] [Con Try.prog 7 [agPerceptron p, slFeat false feats] true (.tup [slI true v_1, I c_1]) ∧ True] ⟨⟨hc1, trivial⟩, trivial⟩ ?_
    refine xe_then ?_
    refine x_seq ?_
    refine x_seq ?_
    by_cases h1 : c_1 = 0
    ·have hok := scoR_ok hsc h1
     have hsv := hok.2.2
     have hln := okLabels_n (okPerc_iff.1 hok.1).1
     have hwl := (okPerc_iff.1 hok.1).2.1
     have hsl : v_1.length = p.Weights.length := by rw [hsv, scR_len]
     have hbi := bstI_in (l := v_1) (by omega)
     refine x_r [(1, .dec false)] [2, 7, 8, 19] [2] [.ref 2 0, slI true v_1, I c_1, Bv false] [some (bxPerceptron p)] [¬ (c_1 ≠ 0)] ⟨(fun hq => hq h1), trivial⟩ ?_
     refine xe_then ?_
     refine x_false rfl ?_
     refine x_skip ?_
     refine xe_then ?_
     refine xR [(1, .call [(false, slI false v_1)] true (I (bstI v_1)))] [2, 7, 9] [2] [.ref 2 0, slI true v_1, I (bstI v_1)] [some (bxPerceptron p)] [Con Try.prog 42 [slI false v_1] true (I (bstI v_1)) ∧ ((false = true → true = true) ∧ 1 = 1 ∧ v_1.length = v_1.length ∧ ∀ i_, i_ < v_1.length → (fI v_1) i_ = (fI v_1) i_ ∨ (AV.idsL ((fI v_1) i_) = [] ∧ leL (fun _ => none) false ((fI v_1) i_) ((fI v_1) i_))) ∧ True] ⟨⟨(winner_ok v_1 (by omega)), ⟨(fun h => by cases h), rfl, rfl, fun i _ => .inl rfl⟩, trivial⟩, trivial⟩ ?_
     refine xR [] [2, 7, 9, 10] [2] [.ref 2 0, slI true v_1, I (bstI v_1), I 0] [some (bxPerceptron p)] [] trivial ?_
     refine x_seq ?_
     obtain ⟨out_2, hx2_0, hc2⟩ := cloneI_ok v_1 (by omega)
     have hcl := hx2_0
     have hcll : out_2.length = v_1.length := by rw [hcl]
     refine x_r [(1, .lend [] [(8211, .arr 1 out_2.length (fI out_2))] [(false, slI false v_1)] false (.arr 8211)), (5, .mov 8211 8411 out_2.length ((out_2.take (bstI v_1).toNat ++ out_2.drop ((bstI v_1) + 1).toNat).length) (fI out_2) (fI (out_2.take (bstI v_1).toNat ++ out_2.drop ((bstI v_1) + 1).toNat)) (bstI v_1) ((bstI v_1) + 1))] [2, 7, 9, 10, 11] [2, 8411] [.ref 2 0, slI true v_1, I (bstI v_1), I 0, .arr 8411] [some (bxPerceptron p), some (.arr 1 ((out_2.take (bstI v_1).toNat ++ out_2.drop ((bstI v_1) + 1).toNat).length) (fI (out_2.take (bstI v_1).toNat ++ out_2.drop ((bstI v_1) + 1).toNat)))] [CallOK Try.prog 44 [slI false v_1] (lookO []) false (.arr 8211) (lookO [(8211, .arr 1 out_2.length (fI out_2))]) ∧ ((false = true → true = true) ∧ 1 = 1 ∧ v_1.length = v_1.length ∧ ∀ i_, i_ < v_1.length → (fI v_1) i_ = (fI v_1) i_ ∨ (AV.idsL ((fI v_1) i_) = [] ∧ leL (fun _ => none) false ((fI v_1) i_) ((fI v_1) i_))) ∧ True, inR .i64 ((bstI v_1) + 1), (([.arr 8211, I (bstI v_1), I ((bstI v_1) + 1)] : List AV) = [.arr 8211, I (bstI v_1), I ((bstI v_1) + 1)]) ∧ ((.arr 1 out_2.length (fI out_2) : Ob) = .arr 1 out_2.length (fI out_2)) ∧ MovOK Try.prog 43 out_2.length ((out_2.take (bstI v_1).toNat ++ out_2.drop ((bstI v_1) + 1).toNat).length) (fI out_2) (fI (out_2.take (bstI v_1).toNat ++ out_2.drop ((bstI v_1) + 1).toNat)) (bstI v_1) ((bstI v_1) + 1)] ⟨⟨hc2, ⟨(fun h => by cases h), rfl, rfl, fun i _ => .inl rfl⟩, trivial⟩, (inR_i64 (by omega) (by omega)), ⟨rfl, rfl, delI_ok (by omega) (by omega) (by omega) (by omega)⟩, trivial⟩ ?_
     refine xe_then ?_
     refine x_seq ?_
     refine x_seq ?_
     by_cases h2 : 0 < (((out_2.take (bstI v_1).toNat ++ out_2.drop ((bstI v_1) + 1).toNat).length) : Int)
     ·have hpos := h2
      have hrl : (out_2.take (bstI v_1).toNat ++ out_2.drop ((bstI v_1) + 1).toNat).length ≤ 12 := by rw [List.length_append, List.length_take, List.length_drop]; omega
      rw [hcl] at hpos
      have hsb := sc_bd hok.1 hok.2.1 (at_ v_1 (bstI v_1).toNat) (by rw [← hsv]; exact at_mem (by omega))
      refine x_r [(2, .dec true)] [2, 7, 9, 10, 11, 31] [2, 8411] [.ref 2 0, slI true v_1, I (bstI v_1), I 0, .arr 8411, Bv true] [some (bxPerceptron p), some (.arr 1 ((out_2.take (bstI v_1).toNat ++ out_2.drop ((bstI v_1) + 1).toNat).length) (fI (out_2.take (bstI v_1).toNat ++ out_2.drop ((bstI v_1) + 1).toNat)))] [0 < (((out_2.take (bstI v_1).toNat ++ out_2.drop ((bstI v_1) + 1).toNat).length) : Int)] ⟨h2, trivial⟩ ?_
      refine xe_then ?_
      refine x_true rfl ?_
      obtain ⟨v_3, hx3_0, hc3⟩ := maxI_ok (out_2.take (bstI v_1).toNat ++ out_2.drop ((bstI v_1) + 1).toNat) (by omega)
      have hmx := hx3_0
      have hmb := mx_bd hmx (Int.le_refl _) (fun x hx => sc_bd hok.1 hok.2.1 x (by rw [← hsv, ← hcl]; exact rest_mem hx))
      rw [hcl] at hmx
      have hmg := mg_two (by omega) hpos hmx
      refine x_r [(5, .call [(false, slI false (out_2.take (bstI v_1).toNat ++ out_2.drop ((bstI v_1) + 1).toNat))] true (I v_3))] [2, 9, 10] [2] [.ref 2 0, I (bstI v_1), I ((at_ v_1 ((bstI v_1).toNat)) - v_3)] [some (bxPerceptron p)] [(0 : Int) ≤ (bstI v_1) ∧ (bstI v_1) < (v_1.length : Int), Con Try.prog 45 [slI false (out_2.take (bstI v_1).toNat ++ out_2.drop ((bstI v_1) + 1).toNat)] true (I v_3) ∧ ((false = true → true = true) ∧ 1 = 1 ∧ ((out_2.take (bstI v_1).toNat ++ out_2.drop ((bstI v_1) + 1).toNat).length) = ((out_2.take (bstI v_1).toNat ++ out_2.drop ((bstI v_1) + 1).toNat).length) ∧ ∀ i_, i_ < ((out_2.take (bstI v_1).toNat ++ out_2.drop ((bstI v_1) + 1).toNat).length) → (fI (out_2.take (bstI v_1).toNat ++ out_2.drop ((bstI v_1) + 1).toNat)) i_ = (fI (out_2.take (bstI v_1).toNat ++ out_2.drop ((bstI v_1) + 1).toNat)) i_ ∨ (AV.idsL ((fI (out_2.take (bstI v_1).toNat ++ out_2.drop ((bstI v_1) + 1).toNat)) i_) = [] ∧ leL (fun _ => none) false ((fI (out_2.take (bstI v_1).toNat ++ out_2.drop ((bstI v_1) + 1).toNat)) i_) ((fI (out_2.take (bstI v_1).toNat ++ out_2.drop ((bstI v_1) + 1).toNat)) i_))) ∧ True, inR .i64 ((at_ v_1 ((bstI v_1).toNat)) - v_3)] ⟨⟨(by omega), (by omega)⟩, ⟨hc3, ⟨(fun h => by cases h), rfl, rfl, fun i _ => .inl rfl⟩, trivial⟩, (inR_i64 (by omega) (by omega)), trivial⟩ ?_
      refine xe_then ?_
      refine xR [] [4, 5, 6] [] [Sv (at_ p.Labels ((bstI v_1).toNat)), I ((at_ v_1 ((bstI v_1).toNat)) - v_3), I 0] [] [(0 : Int) ≤ (bstI v_1) ∧ (bstI v_1) < (p.Labels.length : Int)] ⟨⟨(by omega), (by omega)⟩, trivial⟩ ?_
      refine x_ret ?_
      refine xe_end ((at_ p.Labels ((bstI v_1).toNat)), ((at_ v_1 ((bstI v_1).toNat)) - v_3), 0) (show ((((at_ p.Labels ((bstI v_1).toNat)), ((at_ v_1 ((bstI v_1).toNat)) - v_3)), 0) = clsR p feats) ∧ (True) from ⟨(by first | exact hst.symm | (rw [clsR_yes hok.1 hok.2.1, ← hsv, ← hmg])), trivial⟩) (trivial) (.tup [Sv (at_ p.Labels ((bstI v_1).toNat)), I ((at_ v_1 ((bstI v_1).toNat)) - v_3), I 0]) (by kernel_rfl) (.inl rfl) (fun _ => rfl) (fun _ => (by simp [tagged, taggedL]))
     have hpos := h2
     rw [hcl] at hpos
     have hmg := mg_one (l := v_1) (by omega) hpos
     refine x_r [(2, .dec false)] [2, 7, 9, 10, 11, 31] [2, 8411] [.ref 2 0, slI true v_1, I (bstI v_1), I 0, .arr 8411, Bv false] [some (bxPerceptron p), some (.arr 1 ((out_2.take (bstI v_1).toNat ++ out_2.drop ((bstI v_1) + 1).toNat).length) (fI (out_2.take (bstI v_1).toNat ++ out_2.drop ((bstI v_1) + 1).toNat)))] [¬ (0 < (((out_2.take (bstI v_1).toNat ++ out_2.drop ((bstI v_1) + 1).toNat).length) : Int))] ⟨h2, trivial⟩ ?_
     refine xe_then ?_
     refine x_false rfl ?_
     refine x_skip ?_
     refine xe_then ?_
     refine xR [] [4, 5, 6] [] [Sv (at_ p.Labels ((bstI v_1).toNat)), I 0, I 0] [] [(0 : Int) ≤ (bstI v_1) ∧ (bstI v_1) < (p.Labels.length : Int)] ⟨⟨(by omega), (by omega)⟩, trivial⟩ ?_
     refine x_ret ?_
     refine xe_end ((at_ p.Labels ((bstI v_1).toNat)), 0, 0) (show ((((at_ p.Labels ((bstI v_1).toNat)), 0), 0) = clsR p feats) ∧ (True) from ⟨(by first | exact hst.symm | (rw [clsR_yes hok.1 hok.2.1, ← hsv, ← hmg])), trivial⟩) (trivial) (.tup [Sv (at_ p.Labels ((bstI v_1).toNat)), I 0, I 0]) (by kernel_rfl) (.inl rfl) (fun _ => rfl) (fun _ => (by simp [tagged, taggedL]))
    have hst := clsR_no hsc h1
    refine x_r [(1, .dec true)] [2, 7, 8, 19] [2] [.ref 2 0, slI true v_1, I c_1, Bv true] [some (bxPerceptron p)] [c_1 ≠ 0] ⟨h1, trivial⟩ ?_
    refine xe_then ?_
    refine x_true rfl ?_
    refine xR [] [4, 5, 6] [] [Sv (⟨#[]⟩ : ByteArray), I 0, I c_1] [] [] trivial ?_
    refine x_ret ?_
    refine xe_ret_then ?_
    refine xe_end ((⟨#[]⟩ : ByteArray), 0, c_1) (show ((((⟨#[]⟩ : ByteArray), 0), c_1) = clsR p feats) ∧ (True) from ⟨(by first | exact hst.symm | (rw [clsR_yes hok.1 hok.2.1, ← hsv, ← hmg])), trivial⟩) (trivial) (.tup [Sv (⟨#[]⟩ : ByteArray), I 0, I c_1]) (by kernel_rfl) (.inl rfl) (fun _ => rfl) (fun _ => (by simp [tagged, taggedL]))
  obtain ⟨⟨l, m, c⟩, ⟨hh0, _⟩, hc⟩ := hh
  exact ⟨l, m, c, hh0, hc⟩


-- spec.Classify
theorem specClassify_ok (p : Perceptron) (feats : List Feat) (ok : ∀ y ∈ p.Labels, y.size ≤ 9223372036854775807) : ∃ (l : ByteArray) (m : Int) (c : Int), (((l, m), c) = clsR p feats) ∧ Con Try.prog 10 [agPerceptron p, slFeat false feats] true (.tup [Sv l, I m, I c]) := by
  have hh : ∃ r : ByteArray × Int × Int, ((((r.1, r.2.1), r.2.2) = clsR p feats) ∧ (True)) ∧ CallOK Try.prog 10 [agPerceptron p, slFeat false feats] (lookO []) true (.tup [Sv r.1, I r.2.1, I r.2.2]) (lookO []) := by
    refine fn_okX (Φ := fun r : ByteArray × Int × Int => (((r.1, r.2.1), r.2.2) = clsR p feats) ∧ (True)) [] (fun r => []) (fn := Try.f10) (nt := 65) Try.func10 rfl rfl (args := [agPerceptron p, slFeat false feats]) rfl (allcons (.inl ⟨rfl, by simp [tagged, taggedL, tagLI, tagS]⟩) (allcons (.inl ⟨rfl, tagFeat false _⟩) allnil)) (res := fun r => .tup [Sv r.1, I r.2.1, I r.2.2]) ?_
    refine xR [(0, .new 2)] [1, 2] [2] [slFeat false feats, .ref 2 0] [some (bxPerceptron p)] [] trivial ?_
    refine x_seq ?_
    refine x_seq ?_
    rcases Bool.eq_false_or_eq_true (okPerc p) with h1 | h1
    ·have hokp := h1
     rcases Bool.eq_false_or_eq_true (okFeats feats 384) with h2 | h2
     ·have hokf := h2
      refine x_r [(0, .call [(false, .ptr false [slS false p.Labels, slLI false p.Weights])] true (Bv true)), (4, .call [(true, .any)] true (Bv true))] [1, 2, 17] [2] [slFeat false feats, .ref 2 0, Bv false] [some (bxPerceptron p)] [Con Try.prog 38 [.ptr false [slS false p.Labels, slLI false p.Weights]] true (Bv true) ∧ ((false = true → true = true) ∧ AV.idsL [slS false p.Labels, slLI false p.Weights] = [] ∧ ((false = true → false = true) ∧ 1 = 1 ∧ p.Labels.length = p.Labels.length ∧ ∀ i_, i_ < p.Labels.length → (fS p.Labels) i_ = (fS p.Labels) i_ ∨ (AV.idsL ((fS p.Labels) i_) = [] ∧ leL (fun _ => none) false ((fS p.Labels) i_) ((fS p.Labels) i_))) ∧ ((false = true → false = true) ∧ 1 = 1 ∧ p.Weights.length = p.Weights.length ∧ ∀ i_, i_ < p.Weights.length → (fLI false p.Weights) i_ = (fLI false p.Weights) i_ ∨ (AV.idsL ((fLI false p.Weights) i_) = [] ∧ leL (fun _ => none) false ((fLI false p.Weights) i_) ((fLI false p.Weights) i_))) ∧ ([] : List AV) = []) ∧ True, Con Try.prog 39 [slFeat false feats] true (Bv true) ∧ True] ⟨⟨(con_bool h1 (l12Ok_ok p ok)), ⟨(fun h => by cases h), rfl, ⟨⟨(fun h => by cases h), rfl, rfl, fun i _ => .inl rfl⟩, ⟨⟨(fun h => by cases h), rfl, rfl, fun i _ => .inl rfl⟩, rfl⟩⟩⟩, trivial⟩, ⟨(con_bool h2 (l08Ok_ok feats)), trivial⟩, trivial⟩ ?_
      refine xe_then ?_
      refine x_false rfl ?_
      refine x_skip ?_
      refine xe_then ?_
      refine x_seq ?_
      obtain ⟨v_1, hx1_0, hc1⟩ := l12Input_ok feats (by assumption)
      have hinp := inp_ok (by assumption) hx1_0
      have hiv := hx1_0
      obtain ⟨v_2, hx2_0, hc2⟩ := l12Scores_ok p v_1 (by assumption) hinp
      have hsv := hx2_0
      have hsl : v_2.length = p.Weights.length := by rw [hsv, scR_len]
      rw [hiv] at hsv
      have hln := okLabels_n (okPerc_iff.1 hokp).1
      have hwl := (okPerc_iff.1 hokp).2.1
      have hbi := bstI_in (l := v_2) (by omega)
      have hge : ∀ j, j < v_2.length → at_ v_2 j ≤ at_ v_2 (bstI v_2).toNat := fun j hj => bstI_ge hj
      refine x_r [(1, .call [(true, .any)] true (slI true v_1)), (2, .call [(false, .ptr false [slS false p.Labels, slLI false p.Weights]), (false, slI false v_1)] true (slI true v_2))] [2, 7] [2] [.ref 2 0, slI true v_2] [some (bxPerceptron p)] [Con Try.prog 41 [slFeat false feats] true (slI true v_1) ∧ True, Con Try.prog 40 [.ptr false [slS false p.Labels, slLI false p.Weights], slI false v_1] true (slI true v_2) ∧ ((false = true → true = true) ∧ AV.idsL [slS false p.Labels, slLI false p.Weights] = [] ∧ ((false = true → false = true) ∧ 1 = 1 ∧ p.Labels.length = p.Labels.length ∧ ∀ i_, i_ < p.Labels.length → (fS p.Labels) i_ = (fS p.Labels) i_ ∨ (AV.idsL ((fS p.Labels) i_) = [] ∧ leL (fun _ => none) false ((fS p.Labels) i_) ((fS p.Labels) i_))) ∧ ((false = true → false = true) ∧ 1 = 1 ∧ p.Weights.length = p.Weights.length ∧ ∀ i_, i_ < p.Weights.length → (fLI false p.Weights) i_ = (fLI false p.Weights) i_ ∨ (AV.idsL ((fLI false p.Weights) i_) = [] ∧ leL (fun _ => none) false ((fLI false p.Weights) i_) ((fLI false p.Weights) i_))) ∧ ([] : List AV) = []) ∧ ((false = true → true = true) ∧ 1 = 1 ∧ v_1.length = v_1.length ∧ ∀ i_, i_ < v_1.length → (fI v_1) i_ = (fI v_1) i_ ∨ (AV.idsL ((fI v_1) i_) = [] ∧ leL (fun _ => none) false ((fI v_1) i_) ((fI v_1) i_))) ∧ True] ⟨⟨hc1, trivial⟩, ⟨hc2, ⟨(fun h => by cases h), rfl, ⟨⟨(fun h => by cases h), rfl, rfl, fun i _ => .inl rfl⟩, ⟨⟨(fun h => by cases h), rfl, rfl, fun i _ => .inl rfl⟩, rfl⟩⟩⟩, ⟨(fun h => by cases h), rfl, rfl, fun i _ => .inl rfl⟩, trivial⟩, trivial⟩ ?_
      refine xe_then ?_
      refine xR [(1, .call [(false, slI false v_2)] true (I (bstI v_2)))] [2, 7, 8] [2] [.ref 2 0, slI true v_2, I (bstI v_2)] [some (bxPerceptron p)] [Con Try.prog 46 [slI false v_2] true (I (bstI v_2)) ∧ ((false = true → true = true) ∧ 1 = 1 ∧ v_2.length = v_2.length ∧ ∀ i_, i_ < v_2.length → (fI v_2) i_ = (fI v_2) i_ ∨ (AV.idsL ((fI v_2) i_) = [] ∧ leL (fun _ => none) false ((fI v_2) i_) ((fI v_2) i_))) ∧ True] ⟨⟨(l12Best_ok v_2 (by omega)), ⟨(fun h => by cases h), rfl, rfl, fun i _ => .inl rfl⟩, trivial⟩, trivial⟩ ?_
      refine xR [] [2, 7, 8, 9] [2] [.ref 2 0, slI true v_2, I (bstI v_2), I (-1)] [some (bxPerceptron p)] [] trivial ?_
      refine x_seq ?_
      refine xR [] [2, 7, 8, 9, 10] [2] [.ref 2 0, slI true v_2, I (bstI v_2), I (-1), I 0] [some (bxPerceptron p)] [] trivial ?_
      refine x_block ?_
      refine x_loop (X := Int × Int) (fun x => mkS [(2, .ref 2 0), (7, slI true v_2), (8, I (bstI v_2)), (9, I x.1), (10, I x.2)] [(2, bxPerceptron p)]) (fun x => (0 ≤ x.2 ∧ x.2 ≤ (v_2.length : Int)) ∧ (x.1 = mgn v_2 (bstI v_2) x.2.toNat) ∧ (-1 ≤ x.1 ∧ x.1 ≤ 25600000000) ∧ True) (fun x => ((v_2.length : Int) - x.2).toNat) ((-1), 0) rfl (show (0 ≤ (0 : Int) ∧ (0 : Int) ≤ (v_2.length : Int)) ∧ ((-1) = mgn v_2 (bstI v_2) (0 : Int).toNat) ∧ (-1 ≤ (-1) ∧ (-1) ≤ 25600000000) ∧ True from ⟨(by omega), (by rfl), (by omega), trivial⟩) (fun x hI => ?_)
      obtain ⟨margin, i⟩ := x
      obtain ⟨hi0, hmg, hmb, _⟩ : (0 ≤ i ∧ i ≤ (v_2.length : Int)) ∧ (margin = mgn v_2 (bstI v_2) i.toNat) ∧ (-1 ≤ margin ∧ margin ≤ 25600000000) ∧ True := hI
      show XW _ _ _ _ (mkS [(2, .ref 2 0), (7, slI true v_2), (8, I (bstI v_2)), (9, I margin), (10, I i)] [(2, bxPerceptron p)]) _ _
      refine x_seq ?_
      refine x_seq ?_
      by_cases h3 : i < (v_2.length : Int)
      ·have hi : i.toNat < v_2.length := by omega
       have hsb : -12800000000 ≤ at_ v_2 i.toNat ∧ at_ v_2 i.toNat ≤ 12800000000 := sc_bd hokp hokf _ (by rw [← hsv]; exact at_mem hi)
       have hsb2 := sc_bd hokp hokf (at_ v_2 (bstI v_2).toNat) (by rw [← hsv]; exact at_mem (by omega))
       have hmk := mgn_1 (l := v_2) (b := bstI v_2) hi0.1
       refine x_r [(3, .dec true)] [2, 7, 8, 9, 10, 26] [2] [.ref 2 0, slI true v_2, I (bstI v_2), I margin, I i, Bv true] [some (bxPerceptron p)] [i < (v_2.length : Int)] ⟨h3, trivial⟩ ?_
       refine xe_then ?_
       refine x_true rfl ?_
       refine x_skip ?_
       refine xe_then ?_
       refine x_seq ?_
       refine x_block ?_
       refine x_seq ?_
       by_cases h4 : i = (bstI v_2)
       ·refine x_r [(2, .dec false)] [2, 7, 8, 9, 10, 48] [2] [.ref 2 0, slI true v_2, I (bstI v_2), I margin, I i, Bv false] [some (bxPerceptron p)] [¬ (i ≠ (bstI v_2))] ⟨(fun hq => hq h4), trivial⟩ ?_
        refine xe_then ?_
        refine x_false rfl ?_
        refine x_skip ?_
        refine xe_block 1 ?_
        refine xe_then ?_
        refine x_r [] [2, 7, 8, 9, 10] [2] [.ref 2 0, slI true v_2, I (bstI v_2), I margin, I (i + 1)] [some (bxPerceptron p)] [inR .i64 (i + 1)] ⟨(inR_i64 (by omega) (by omega)), trivial⟩ ?_
        exact xe_again (margin, (i + 1)) rfl (show (0 ≤ (i + 1) ∧ (i + 1) ≤ (v_2.length : Int)) ∧ (margin = mgn v_2 (bstI v_2) (i + 1).toNat) ∧ (-1 ≤ margin ∧ margin ≤ 25600000000) ∧ True from ⟨(by omega), (by first | (rw [hmk, if_pos (by omega)]; done) | (rw [hmk, if_neg (by omega)]; exact hmg)), (by (have := hge i.toNat hi); omega), trivial⟩) (by first | (show (((v_2.length : Int) - (i + 1)).toNat : Nat) < ((v_2.length : Int) - i).toNat; omega) | (dsimp only; omega))
       by_cases h5 : margin < 0
       ·refine x_r [(2, .dec true), (5, .dec true)] [2, 7, 8, 9, 10, 48] [2] [.ref 2 0, slI true v_2, I (bstI v_2), I margin, I i, Bv true] [some (bxPerceptron p)] [i ≠ (bstI v_2), margin < 0] ⟨h4, h5, trivial⟩ ?_
        refine xe_then ?_
        refine x_true rfl ?_
        refine x_r [] [2, 7, 8, 9, 10] [2] [.ref 2 0, slI true v_2, I (bstI v_2), I ((at_ v_2 ((bstI v_2).toNat)) - (at_ v_2 i.toNat)), I i] [some (bxPerceptron p)] [(0 : Int) ≤ (bstI v_2) ∧ (bstI v_2) < (v_2.length : Int), (0 : Int) ≤ i ∧ i < (v_2.length : Int), inR .i64 ((at_ v_2 ((bstI v_2).toNat)) - (at_ v_2 i.toNat))] ⟨⟨(by omega), (by omega)⟩, ⟨(by omega), (by omega)⟩, (inR_i64 (by omega) (by omega)), trivial⟩ ?_
        refine xe_block 1 ?_
        refine xe_then ?_
        refine x_r [] [2, 7, 8, 9, 10] [2] [.ref 2 0, slI true v_2, I (bstI v_2), I ((at_ v_2 ((bstI v_2).toNat)) - (at_ v_2 i.toNat)), I (i + 1)] [some (bxPerceptron p)] [inR .i64 (i + 1)] ⟨(inR_i64 (by omega) (by omega)), trivial⟩ ?_
        exact xe_again (((at_ v_2 ((bstI v_2).toNat)) - (at_ v_2 i.toNat)), (i + 1)) rfl (show (0 ≤ (i + 1) ∧ (i + 1) ≤ (v_2.length : Int)) ∧ (((at_ v_2 ((bstI v_2).toNat)) - (at_ v_2 i.toNat)) = mgn v_2 (bstI v_2) (i + 1).toNat) ∧ (-1 ≤ ((at_ v_2 ((bstI v_2).toNat)) - (at_ v_2 i.toNat)) ∧ ((at_ v_2 ((bstI v_2).toNat)) - (at_ v_2 i.toNat)) ≤ 25600000000) ∧ True from ⟨(by omega), (by first | (rw [hmk, if_pos (by omega)]; done) | (rw [hmk, if_neg (by omega)]; exact hmg)), (by (have := hge i.toNat hi); omega), trivial⟩) (by first | (show (((v_2.length : Int) - (i + 1)).toNat : Nat) < ((v_2.length : Int) - i).toNat; omega) | (dsimp only; omega))
       by_cases h6 : ((at_ v_2 ((bstI v_2).toNat)) - (at_ v_2 i.toNat)) < margin
       ·refine x_r [(2, .dec true), (5, .dec false), (17, .dec true)] [2, 7, 8, 9, 10, 48] [2] [.ref 2 0, slI true v_2, I (bstI v_2), I margin, I i, Bv true] [some (bxPerceptron p)] [i ≠ (bstI v_2), ¬ (margin < 0), (0 : Int) ≤ (bstI v_2) ∧ (bstI v_2) < (v_2.length : Int), (0 : Int) ≤ i ∧ i < (v_2.length : Int), inR .i64 ((at_ v_2 ((bstI v_2).toNat)) - (at_ v_2 i.toNat)), ((at_ v_2 ((bstI v_2).toNat)) - (at_ v_2 i.toNat)) < margin] ⟨h4, h5, ⟨(by omega), (by omega)⟩, ⟨(by omega), (by omega)⟩, (inR_i64 (by omega) (by omega)), h6, trivial⟩ ?_
        refine xe_then ?_
        refine x_true rfl ?_
        refine x_r [] [2, 7, 8, 9, 10] [2] [.ref 2 0, slI true v_2, I (bstI v_2), I ((at_ v_2 ((bstI v_2).toNat)) - (at_ v_2 i.toNat)), I i] [some (bxPerceptron p)] [(0 : Int) ≤ (bstI v_2) ∧ (bstI v_2) < (v_2.length : Int), (0 : Int) ≤ i ∧ i < (v_2.length : Int), inR .i64 ((at_ v_2 ((bstI v_2).toNat)) - (at_ v_2 i.toNat))] ⟨⟨(by omega), (by omega)⟩, ⟨(by omega), (by omega)⟩, (inR_i64 (by omega) (by omega)), trivial⟩ ?_
        refine xe_block 1 ?_
        refine xe_then ?_
        refine x_r [] [2, 7, 8, 9, 10] [2] [.ref 2 0, slI true v_2, I (bstI v_2), I ((at_ v_2 ((bstI v_2).toNat)) - (at_ v_2 i.toNat)), I (i + 1)] [some (bxPerceptron p)] [inR .i64 (i + 1)] ⟨(inR_i64 (by omega) (by omega)), trivial⟩ ?_
        exact xe_again (((at_ v_2 ((bstI v_2).toNat)) - (at_ v_2 i.toNat)), (i + 1)) rfl (show (0 ≤ (i + 1) ∧ (i + 1) ≤ (v_2.length : Int)) ∧ (((at_ v_2 ((bstI v_2).toNat)) - (at_ v_2 i.toNat)) = mgn v_2 (bstI v_2) (i + 1).toNat) ∧ (-1 ≤ ((at_ v_2 ((bstI v_2).toNat)) - (at_ v_2 i.toNat)) ∧ ((at_ v_2 ((bstI v_2).toNat)) - (at_ v_2 i.toNat)) ≤ 25600000000) ∧ True from ⟨(by omega), (by first | (rw [hmk, if_pos (by omega)]; done) | (rw [hmk, if_neg (by omega)]; exact hmg)), (by (have := hge i.toNat hi); omega), trivial⟩) (by first | (show (((v_2.length : Int) - (i + 1)).toNat : Nat) < ((v_2.length : Int) - i).toNat; omega) | (dsimp only; omega))
       refine x_r [(2, .dec true), (5, .dec false), (17, .dec false)] [2, 7, 8, 9, 10, 48] [2] [.ref 2 0, slI true v_2, I (bstI v_2), I margin, I i, Bv false] [some (bxPerceptron p)] [i ≠ (bstI v_2), ¬ (margin < 0), (0 : Int) ≤ (bstI v_2) ∧ (bstI v_2) < (v_2.length : Int), (0 : Int) ≤ i ∧ i < (v_2.length : Int), inR .i64 ((at_ v_2 ((bstI v_2).toNat)) - (at_ v_2 i.toNat)), ¬ (((at_ v_2 ((bstI v_2).toNat)) - (at_ v_2 i.toNat)) < margin)] ⟨h4, h5, ⟨(by omega), (by omega)⟩, ⟨(by omega), (by omega)⟩, (inR_i64 (by omega) (by omega)), h6, trivial⟩ ?_
       refine xe_then ?_
       refine x_false rfl ?_
       refine x_skip ?_
       refine xe_block 1 ?_
       refine xe_then ?_
       refine x_r [] [2, 7, 8, 9, 10] [2] [.ref 2 0, slI true v_2, I (bstI v_2), I margin, I (i + 1)] [some (bxPerceptron p)] [inR .i64 (i + 1)] ⟨(inR_i64 (by omega) (by omega)), trivial⟩ ?_
       exact xe_again (margin, (i + 1)) rfl (show (0 ≤ (i + 1) ∧ (i + 1) ≤ (v_2.length : Int)) ∧ (margin = mgn v_2 (bstI v_2) (i + 1).toNat) ∧ (-1 ≤ margin ∧ margin ≤ 25600000000) ∧ True from ⟨(by omega), (by first | (rw [hmk, if_pos (by omega)]; done) | (rw [hmk, if_neg (by omega)]; exact hmg)), (by (have := hge i.toNat hi); omega), trivial⟩) (by first | (show (((v_2.length : Int) - (i + 1)).toNat : Nat) < ((v_2.length : Int) - i).toNat; omega) | (dsimp only; omega))
      have hie : i.toNat = v_2.length := by omega
      rw [hie] at hmg
      refine x_r [(3, .dec false)] [2, 7, 8, 9, 10, 26] [2] [.ref 2 0, slI true v_2, I (bstI v_2), I margin, I i, Bv false] [some (bxPerceptron p)] [¬ (i < (v_2.length : Int))] ⟨h3, trivial⟩ ?_
      refine xe_then ?_
      refine x_false rfl ?_
      refine x_exit ?_
      refine xe_exit_then ?_
      refine xe_loop_exit ?_
      refine xe_exit_same ?_
      refine xe_then ?_
      refine xR [(6, .call [(true, .any), (true, .any)] true (I (max margin 0)))] [4, 5, 6] [] [Sv (at_ p.Labels ((bstI v_2).toNat)), I (max margin 0), I 0] [] [(0 : Int) ≤ (bstI v_2) ∧ (bstI v_2) < (p.Labels.length : Int), Con Try.prog 47 [I margin, I 0] true (I (max margin 0)) ∧ True] ⟨⟨(by omega), (by omega)⟩, ⟨(l00Max_ok margin 0), trivial⟩, trivial⟩ ?_
      refine x_ret ?_
      refine xe_end ((at_ p.Labels ((bstI v_2).toNat)), (max margin 0), 0) (show ((((at_ p.Labels ((bstI v_2).toNat)), (max margin 0)), 0) = clsR p feats) ∧ (True) from ⟨(by first | exact hst.symm | (rw [clsR_yes hokp hokf, ← hsv]; unfold mgI; rw [← hmg])), trivial⟩) (trivial) (.tup [Sv (at_ p.Labels ((bstI v_2).toNat)), I (max margin 0), I 0]) (by kernel_rfl) (.inl rfl) (fun _ => rfl) (fun _ => (by simp [tagged, taggedL]))
     have hst := clsR_n2 (fs := feats) (p := p) h2
     refine x_r [(0, .call [(false, .ptr false [slS false p.Labels, slLI false p.Weights])] true (Bv true)), (4, .call [(true, .any)] true (Bv false))] [1, 2, 17] [2] [slFeat false feats, .ref 2 0, Bv true] [some (bxPerceptron p)] [Con Try.prog 38 [.ptr false [slS false p.Labels, slLI false p.Weights]] true (Bv true) ∧ ((false = true → true = true) ∧ AV.idsL [slS false p.Labels, slLI false p.Weights] = [] ∧ ((false = true → false = true) ∧ 1 = 1 ∧ p.Labels.length = p.Labels.length ∧ ∀ i_, i_ < p.Labels.length → (fS p.Labels) i_ = (fS p.Labels) i_ ∨ (AV.idsL ((fS p.Labels) i_) = [] ∧ leL (fun _ => none) false ((fS p.Labels) i_) ((fS p.Labels) i_))) ∧ ((false = true → false = true) ∧ 1 = 1 ∧ p.Weights.length = p.Weights.length ∧ ∀ i_, i_ < p.Weights.length → (fLI false p.Weights) i_ = (fLI false p.Weights) i_ ∨ (AV.idsL ((fLI false p.Weights) i_) = [] ∧ leL (fun _ => none) false ((fLI false p.Weights) i_) ((fLI false p.Weights) i_))) ∧ ([] : List AV) = []) ∧ True, Con Try.prog 39 [slFeat false feats] true (Bv false) ∧ True] ⟨⟨(con_bool h1 (l12Ok_ok p ok)), ⟨(fun h => by cases h), rfl, ⟨⟨(fun h => by cases h), rfl, rfl, fun i _ => .inl rfl⟩, ⟨⟨(fun h => by cases h), rfl, rfl, fun i _ => .inl rfl⟩, rfl⟩⟩⟩, trivial⟩, ⟨(con_bool h2 (l08Ok_ok feats)), trivial⟩, trivial⟩ ?_
     refine xe_then ?_
     refine x_true rfl ?_
     refine xR [] [4, 5, 6] [] [Sv (⟨#[]⟩ : ByteArray), I 0, I 1] [] [] trivial ?_
     refine x_ret ?_
     refine xe_ret_then ?_
     refine xe_end ((⟨#[]⟩ : ByteArray), 0, 1) (show ((((⟨#[]⟩ : ByteArray), 0), 1) = clsR p feats) ∧ (True) from ⟨(by first | exact hst.symm | (rw [clsR_yes hokp hokf, ← hsv]; unfold mgI; rw [← hmg])), trivial⟩) (trivial) (.tup [Sv (⟨#[]⟩ : ByteArray), I 0, I 1]) (by kernel_rfl) (.inl rfl) (fun _ => rfl) (fun _ => (by simp [tagged, taggedL]))
    have hst := clsR_n1 (fs := feats) (p := p) h1
    refine x_r [(0, .call [(false, .ptr false [slS false p.Labels, slLI false p.Weights])] true (Bv false))] [1, 2, 17] [2] [slFeat false feats, .ref 2 0, Bv true] [some (bxPerceptron p)] [Con Try.prog 38 [.ptr false [slS false p.Labels, slLI false p.Weights]] true (Bv false) ∧ ((false = true → true = true) ∧ AV.idsL [slS false p.Labels, slLI false p.Weights] = [] ∧ ((false = true → false = true) ∧ 1 = 1 ∧ p.Labels.length = p.Labels.length ∧ ∀ i_, i_ < p.Labels.length → (fS p.Labels) i_ = (fS p.Labels) i_ ∨ (AV.idsL ((fS p.Labels) i_) = [] ∧ leL (fun _ => none) false ((fS p.Labels) i_) ((fS p.Labels) i_))) ∧ ((false = true → false = true) ∧ 1 = 1 ∧ p.Weights.length = p.Weights.length ∧ ∀ i_, i_ < p.Weights.length → (fLI false p.Weights) i_ = (fLI false p.Weights) i_ ∨ (AV.idsL ((fLI false p.Weights) i_) = [] ∧ leL (fun _ => none) false ((fLI false p.Weights) i_) ((fLI false p.Weights) i_))) ∧ ([] : List AV) = []) ∧ True] ⟨⟨(con_bool h1 (l12Ok_ok p ok)), ⟨(fun h => by cases h), rfl, ⟨⟨(fun h => by cases h), rfl, rfl, fun i _ => .inl rfl⟩, ⟨⟨(fun h => by cases h), rfl, rfl, fun i _ => .inl rfl⟩, rfl⟩⟩⟩, trivial⟩, trivial⟩ ?_
    refine xe_then ?_
    refine x_true rfl ?_
    refine xR [] [4, 5, 6] [] [Sv (⟨#[]⟩ : ByteArray), I 0, I 1] [] [] trivial ?_
    refine x_ret ?_
    refine xe_ret_then ?_
    refine xe_end ((⟨#[]⟩ : ByteArray), 0, 1) (show ((((⟨#[]⟩ : ByteArray), 0), 1) = clsR p feats) ∧ (True) from ⟨(by first | exact hst.symm | (rw [clsR_yes hokp hokf, ← hsv]; unfold mgI; rw [← hmg])), trivial⟩) (trivial) (.tup [Sv (⟨#[]⟩ : ByteArray), I 0, I 1]) (by kernel_rfl) (.inl rfl) (fun _ => rfl) (fun _ => (by simp [tagged, taggedL]))
  obtain ⟨⟨l, m, c⟩, ⟨hh0, _⟩, hc⟩ := hh
  exact ⟨l, m, c, hh0, hc⟩


-- spec.DrawNewPerceptron
theorem DrawNewPerceptron_ok (code : List Int) (hc : (∀ j, j < code.length → 0 ≤ at_ code j ∧ at_ code j ≤ 255) ∧ code.length ≤ 4611686018427387904) : ∃ (v : List ByteArray), (v.length ≤ 20 ∧ ∀ l_ ∈ v, l_.size ≤ 64) ∧ Con Try.prog 11 [slU8 false code] true (slS true v) := by
  have hh : ∃ r : (List ByteArray), ((r.length ≤ 20 ∧ ∀ l_ ∈ r, l_.size ≤ 64) ∧ (True)) ∧ CallOK Try.prog 11 [slU8 false code] (lookO []) true (slS true r) (lookO []) := by
    refine fn_okX (Φ := fun r : (List ByteArray) => (r.length ≤ 20 ∧ ∀ l_ ∈ r, l_.size ≤ 64) ∧ (True)) [] (fun r => []) (fn := Try.f11) (nt := 11) Try.func11 rfl rfl (args := [slU8 false code]) rfl (allcons (.inl ⟨rfl, tagU8 false _⟩) allnil) (res := fun r => slS true r) ?_
    refine xR [] [0] [] [slU8 false code] [] [] trivial ?_
    refine x_seq ?_
    obtain ⟨s'_1, hx1_0, hc1⟩ := l00From_ok code
    have hsrc : okSrc s'_1 := ⟨by rw [hx1_0.1]; exact hc.1, by rw [hx1_0.2]; decide, by rw [hx1_0.1]; exact hc.2⟩
    have hat0 := hx1_0.2
    refine x_r [(1, .lend [] [(7001, bxl00Src s'_1)] [(true, .any)] false (.ref 7001 0))] [3] [7001] [.ref 7001 0] [some (bxl00Src s'_1)] [CallOK Try.prog 28 [slU8 false code] (lookO []) false (.ref 7001 0) (lookO [(7001, bxl00Src s'_1)]) ∧ True] ⟨⟨hc1, trivial⟩, trivial⟩ ?_
    refine xe_then ?_
    refine x_seq ?_
    obtain ⟨v_2, s'_2, hx2_0, hx2_1, hx2_2, hx2_3, hc2⟩ := l12Bent_ok s'_1 (by first | assumption | (simp only [okSrc] at *; simp_all; done)) (by omega)
    refine x_r [(1, .lend [(7001, bxl00Src s'_1, bxl00Src s'_2)] [] [(true, .any)] true (agPerceptronT v_2)), (2, .new 4)] [4] [4] [.ref 4 0] [some (bxPerceptronT v_2)] [CallOK Try.prog 29 [.ref 7001 0] (lookO [(7001, bxl00Src s'_1)]) true (agPerceptronT v_2) (lookO [(7001, bxl00Src s'_2)]) ∧ (((bxl00Src s'_1 : Ob) = bxl00Src s'_1 ∨ obLe noOb true (bxl00Src s'_1) (bxl00Src s'_1)) ∧ taggedO false (bxl00Src s'_1)) ∧ True] ⟨⟨hc2, ⟨.inl rfl, (by simp [taggedO, taggedL, tagged, tagU8])⟩, trivial⟩, trivial⟩ ?_
    refine xe_then ?_
    refine xR [] [2] [] [slS true v_2.Labels] [] [] trivial ?_
    refine x_ret ?_
    refine xe_end v_2.Labels (show (v_2.Labels.length ≤ 20 ∧ ∀ l_ ∈ v_2.Labels, l_.size ≤ 64) ∧ (True) from ⟨(by first | exact ⟨(by assumption : drP _).1, (by assumption : drP _).2.1⟩ | (rename_i q; exact ⟨q.1, q.2.1⟩) | (simp_all [drP]; done)), trivial⟩) (trivial) (slS true v_2.Labels) (by kernel_rfl) (.inl rfl) (fun _ => rfl) (fun _ => (tagS true _))
  obtain ⟨v, ⟨hh0, _⟩, hc⟩ := hh
  exact ⟨v, hh0, hc⟩


-- slices.Clone[[]string,string]
theorem cloneS_ok (s : List ByteArray) (hl : s.length ≤ 100000) : ∃ (out : List ByteArray), (out = s) ∧ CallOK Try.prog 49 [slS false s] (lookO []) false (.arr 8511) (lookO [(8511, .arr 1 out.length (fS out))]) := by
  refine ⟨s, rfl, ?_⟩
  refine fn_okL [] [(8511, .arr 1 s.length (fS s))] (fn := Try.f49) (nt := 8) Try.func49 rfl rfl (args := [slS false s]) rfl (allcons (.inl ⟨rfl, tagS false _⟩) allnil) (res := .arr 8511) (fun B hB => ?_)
  refine aw_seq ?_
  refine aw_reg [] [0] [] [slS false s] [] [] (by kernel_rfl) hB trivial ?_
  refine ae_then ?_
  refine aw_seq ?_
  refine aw_seq ?_
  refine aw_reg [] [0, 4] [] [slS false s, .nilq s.length] [] [] (by kernel_rfl) hB trivial ?_
  refine ae_then ?_
  refine aw_nilq (n := s.length) rfl (fun h1 => ?_) ?_
  · refine aw_seq ?_
    refine aw_reg [] [2] [] [nilA] [] [] (by kernel_rfl) hB trivial ?_
    refine ae_then ?_
    refine aw_ret ?_
    refine ae_ret_then ?_
    refine ae_nil hB 2 8511 1 (fun _ => []) (by kernel_rfl) ?_
    refine ae_weak hB [] (T := [(2, .arr 8511)]) (O := [(8511, .arr 1 s.length (fS s))]) rfl (⟨.inl rfl, trivial⟩) (⟨.inr ⟨rfl, (by omega), fun i_ hi_ => absurd hi_ (by omega)⟩, trivial⟩) ?_
    refine ae_retL hB [(8511, .arr 1 s.length (fS s))] (⟨.inl rfl, trivial⟩) (.arr 8511) (by kernel_rfl) (.inl rfl) (fun h => by cases h) (fun h => by cases h)
  · refine aw_skip ?_
    refine ae_then ?_
    refine aw_seq ?_
    refine aw_reg [(0, .new 5), (2, .new 7)] [2] [7] [.arr 7] [some (.arr 1 (0 + s.length) (catF 0 (litF [] 1) (fS s)))] [(0 + s.length) * 16 ≤ 140737488355328] (by kernel_rfl) hB ⟨(by omega), trivial⟩ ?_
    refine ae_then ?_
    refine aw_ret ?_
    refine ae_weak hB [(8511, 7)] (T := [(2, .arr 8511)]) (O := [(8511, .arr 1 s.length (fS s))]) rfl (⟨.inl rfl, trivial⟩) (⟨.inr ⟨rfl, (by simp), fun i_ hi_ => .inl (cat_nil i_)⟩, trivial⟩) ?_
    refine ae_retL hB [(8511, .arr 1 s.length (fS s))] (⟨.inl rfl, trivial⟩) (.arr 8511) (by kernel_rfl) (.inl rfl) (fun h => by cases h) (fun h => by cases h)


-- impl.NewPerceptron
theorem implNewPerceptron_ok (labels : List ByteArray) (ok : ∀ y ∈ labels, y.size ≤ 9223372036854775807) : ∃ (v : Perceptron) (c : Int), ((v, c) = newR labels) ∧ Con Try.prog 12 [slS false labels] true (.tup [agPerceptronT v, I c]) := by
  have hh : ∃ r : Perceptron × Int, (((r.1, r.2) = newR labels) ∧ (True)) ∧ CallOK Try.prog 12 [slS false labels] (lookO []) true (.tup [agPerceptronT r.1, I r.2]) (lookO []) := by
    refine fn_okX (Φ := fun r : Perceptron × Int => ((r.1, r.2) = newR labels) ∧ (True)) [] (fun r => []) (fn := Try.f12) (nt := 24) Try.func12 rfl rfl (args := [slS false labels]) rfl (allcons (.inl ⟨rfl, tagS false _⟩) allnil) (res := fun r => .tup [agPerceptronT r.1, I r.2]) ?_
    refine xR [(0, .new 2)] [0, 2] [2] [slS false labels, .ref 2 0] [some (.box [nilA, nilA])] [] trivial ?_
    refine x_seq ?_
    refine x_seq ?_
    rcases Bool.eq_false_or_eq_true (okLabels labels) with h1 | h1
    ·have hln := okLabels_n h1
     refine x_r [(1, .call [(true, .any)] true (Bv true))] [0, 2, 7] [2] [slS false labels, .ref 2 0, Bv false] [some (.box [nilA, nilA])] [Con Try.prog 48 [slS false labels] true (Bv true) ∧ True] ⟨⟨(con_bool h1 (validClasses_ok labels ok)), trivial⟩, trivial⟩ ?_
     refine xe_then ?_
     refine x_false rfl ?_
     refine x_skip ?_
     refine xe_then ?_
     refine x_seq ?_
     obtain ⟨out_1, hx1_0, hc1⟩ := cloneS_ok labels (by omega)
     have hcs := hx1_0
     refine x_r [(1, .lend [] [(8511, .arr 1 out_1.length (fS out_1))] [(true, .any)] false (.arr 8511)), (3, .new 4)] [0, 2, 4] [2, 4, 8511] [slS false labels, .ref 2 0, .ref 4 0] [some (.box [nilA, nilA]), some (.box [.arr 8511, nilA]), some (.arr 1 out_1.length (fS out_1))] [CallOK Try.prog 49 [slS false labels] (lookO []) false (.arr 8511) (lookO [(8511, .arr 1 out_1.length (fS out_1))]) ∧ True] ⟨⟨hc1, trivial⟩, trivial⟩ ?_
     refine xe_then ?_
     refine x_seq ?_
     refine xR [] [2, 4, 13, 14] [2, 4, 8511] [.ref 2 0, .ref 4 0, I (labels.length : Int), I 0] [some (.box [nilA, nilA]), some (.box [.arr 8511, nilA]), some (.arr 1 out_1.length (fS out_1))] [] trivial ?_
     refine x_block ?_
     refine x_nilC 4 1 741 1 (fun _ => []) rfl (by kernel_rfl) ?_
     refine x_fam 9253 1 (fun _ => 0) (fun _ _ => []) (by kernel_rfl) ?_
     refine x_weak [] (T := [(2, .ref 2 0), (4, .ref 4 0), (13, I (labels.length : Int)), (14, I 0)]) (O := [(2, .box [nilA, nilA]), (4, .box [.arr 8511, .arr 741]), (741, .oar [9253] 1 (([] : List (List Int)).length) (oLI 9253 ([] : List (List Int)))), (8511, .arr 1 out_1.length (fS out_1)), (9253, .fam ([] : List (List Int)).length 1 (mLI ([] : List (List Int))) (gLI ([] : List (List Int))))]) rfl (⟨.inl rfl, .inl rfl, .inl rfl, .inl rfl, trivial⟩) (⟨.inl rfl, .inl rfl, .inr ⟨rfl, rfl, fun i hi => absurd hi (Nat.not_lt_zero _)⟩, .inl rfl, .inr ⟨rfl, rfl, fun p hp => absurd hp (Nat.not_lt_zero _)⟩, trivial⟩) ?_
     refine x_loop (X := Int × (List (List Int))) (fun x => mkS [(2, .ref 2 0), (4, .ref 4 0), (13, I (labels.length : Int)), (14, I x.1)] [(2, .box [nilA, nilA]), (4, .box [.arr 8511, .arr 741]), (741, .oar [9253] 1 x.2.length (oLI 9253 x.2)), (8511, .arr 1 out_1.length (fS out_1)), (9253, .fam x.2.length 1 (mLI x.2) (gLI x.2))]) (fun x => (0 ≤ x.1 ∧ x.1 ≤ (labels.length : Int)) ∧ (x.2 = List.replicate x.1.toNat (List.replicate 25 0)) ∧ ((x.2.length : Int) = x.1) ∧ True) (fun x => ((labels.length : Int) - x.1).toNat) (0, ([] : List (List Int))) rfl (show (0 ≤ (0 : Int) ∧ (0 : Int) ≤ (labels.length : Int)) ∧ (([] : List (List Int)) = List.replicate (0 : Int).toNat (List.replicate 25 0)) ∧ ((([] : List (List Int)).length : Int) = (0 : Int)) ∧ True from ⟨(by omega), (by rfl), (by rfl), trivial⟩) (fun x hI => ?_)
     obtain ⟨t14, ws⟩ := x
     obtain ⟨hi0, hws, hwl, _⟩ : (0 ≤ t14 ∧ t14 ≤ (labels.length : Int)) ∧ (ws = List.replicate t14.toNat (List.replicate 25 0)) ∧ ((ws.length : Int) = t14) ∧ True := hI
     show XW _ _ _ _ (mkS [(2, .ref 2 0), (4, .ref 4 0), (13, I (labels.length : Int)), (14, I t14)] [(2, .box [nilA, nilA]), (4, .box [.arr 8511, .arr 741]), (741, .oar [9253] 1 ws.length (oLI 9253 ws)), (8511, .arr 1 out_1.length (fS out_1)), (9253, .fam ws.length 1 (mLI ws) (gLI ws))]) _ _
     refine x_seq ?_
     by_cases h2 : t14 < (labels.length : Int)
     ·refine x_r [(0, .dec true)] [2, 4, 13, 14, 15] [2, 4, 741, 8511, 9253] [.ref 2 0, .ref 4 0, I (labels.length : Int), I t14, Bv true] [some (.box [nilA, nilA]), some (.box [.arr 8511, .arr 741]), some (.oar [9253] 1 ws.length (oLI 9253 ws)), some (.arr 1 out_1.length (fS out_1)), some (.fam ws.length 1 (mLI ws) (gLI ws))] [t14 < (labels.length : Int)] ⟨h2, trivial⟩ ?_
      refine xe_then ?_
      refine x_seq ?_
      refine x_true rfl ?_
      refine x_skip ?_
      refine xe_then ?_
      refine x_seq ?_
      refine x_block ?_
      refine x_r [(2, .new 18), (3, .new 19), (4, .new 20)] [2, 4, 13, 14] [2, 4, 18, 20, 8511, 9253] [.ref 2 0, .ref 4 0, I (labels.length : Int), I t14] [some (.box [nilA, nilA]), some (.box [.arr 8511, .arr 20]), some (.arr 1 25 (fun _ => [I 0])), some (.oar [9253, 18] 1 (ws.length + 1) (catF ws.length (oLI 9253 ws) (litF [.arr 18] 1))), some (.arr 1 out_1.length (fS out_1)), some (.fam ws.length 1 (mLI ws) (gLI ws))] [(0 : Int) ≤ 25 ∧ (25 : Int) ≤ 25 ∧ (8 : Int) * 25 ≤ 281474976710656 ∧ (25 : Int) ≤ 9223372036854775807, (ws.length + 1) * 24 ≤ 140737488355328] ⟨⟨(by omega), (by omega), (by omega), (by omega)⟩, (by omega), trivial⟩ ?_
      refine xe_block 1 ?_
      refine xe_then ?_
      refine x_r [] [2, 4, 13, 14] [2, 4, 18, 20, 8511, 9253] [.ref 2 0, .ref 4 0, I (labels.length : Int), I (t14 + 1)] [some (.box [nilA, nilA]), some (.box [.arr 8511, .arr 20]), some (.arr 1 25 (fun _ => [I 0])), some (.oar [9253, 18] 1 (ws.length + 1) (catF ws.length (oLI 9253 ws) (litF [.arr 18] 1))), some (.arr 1 out_1.length (fS out_1)), some (.fam ws.length 1 (mLI ws) (gLI ws))] [inR .i64 (t14 + 1)] ⟨(inR_i64 (by omega) (by omega)), trivial⟩ ?_
      refine xe_join 18 9253 rfl rfl rfl ?_
      refine xe_weak [(741, 20)] (T := [(2, .ref 2 0), (4, .ref 4 0), (13, I (labels.length : Int)), (14, I (t14 + 1))]) (O := [(2, .box [nilA, nilA]), (4, .box [.arr 8511, .arr 741]), (741, .oar [9253] 1 ((ws ++ [(List.replicate 25 (0 : Int))]).length) (oLI 9253 (ws ++ [(List.replicate 25 (0 : Int))]))), (8511, .arr 1 out_1.length (fS out_1)), (9253, .fam (ws ++ [(List.replicate 25 (0 : Int))]).length 1 (mLI (ws ++ [(List.replicate 25 (0 : Int))])) (gLI (ws ++ [(List.replicate 25 (0 : Int))])))]) rfl (⟨.inl rfl, .inl rfl, .inl rfl, .inl rfl, trivial⟩) (⟨.inl rfl, .inl rfl, .inr ⟨rfl, rfl, (by simp), fun i hi => .inl (ocatLI rfl rfl rfl i hi)⟩, .inl rfl, .inr (fcatLI (List.replicate 25 (0 : Int)) (xs := ws) (f := (fun _ => [I 0])) (n := 25) (by first | rfl | (simp; done)) (fun i_ hi_ => const_enc (enc := cI) rfl i_ (by simpa using hi_))), trivial⟩) (xe_again ((t14 + 1), (ws ++ [(List.replicate 25 (0 : Int))])) rfl (show (0 ≤ (t14 + 1) ∧ (t14 + 1) ≤ (labels.length : Int)) ∧ ((ws ++ [(List.replicate 25 (0 : Int))]) = List.replicate (t14 + 1).toNat (List.replicate 25 0)) ∧ (((ws ++ [(List.replicate 25 (0 : Int))]).length : Int) = (t14 + 1)) ∧ True from ⟨(by omega), (by rw [rep_1 hi0.1, ← hws]), (by simp; omega), trivial⟩) (by first | (show (((labels.length : Int) - (t14 + 1)).toNat : Nat) < ((labels.length : Int) - t14).toNat; omega) | (dsimp only; omega)))
     have hie : t14.toNat = labels.length := by omega
     rw [hie] at hws
     refine x_r [(0, .dec false)] [2, 4, 13, 14, 15] [2, 4, 741, 8511, 9253] [.ref 2 0, .ref 4 0, I (labels.length : Int), I t14, Bv false] [some (.box [nilA, nilA]), some (.box [.arr 8511, .arr 741]), some (.oar [9253] 1 ws.length (oLI 9253 ws)), some (.arr 1 out_1.length (fS out_1)), some (.fam ws.length 1 (mLI ws) (gLI ws))] [¬ (t14 < (labels.length : Int))] ⟨h2, trivial⟩ ?_
     refine xe_then ?_
     refine x_seq ?_
     refine x_false rfl ?_
     refine x_exit ?_
     refine xe_exit_then ?_
     refine xe_loop_exit ?_
     refine xe_exit_same ?_
     refine xe_then ?_
     refine xR [] [2, 3] [2, 741, 8511, 9253] [.ref 2 0, I 0] [some (.box [.arr 8511, .arr 741]), some (.oar [9253] 1 ws.length (oLI 9253 ws)), some (.arr 1 out_1.length (fS out_1)), some (.fam ws.length 1 (mLI ws) (gLI ws))] [] trivial ?_
     refine x_ret ?_
     refine xe_end ((Perceptron.mk out_1 ws), 0) (show (((Perceptron.mk out_1 ws), 0) = newR labels) ∧ (True) from ⟨(by first | exact (newR_no (by simp_all)).symm | (rw [newR_yes (by assumption), ← hws, hcs]) | (rw [newR_yes (by assumption), ← hws])), trivial⟩) (trivial) (.tup [.agg [.arr 8511, .arr 741], I 0]) (by kernel_rfl) (.inr ⟨⟨⟨(fun _ => rfl), rfl, rfl, fun i _ => .inl rfl⟩, ⟨⟨(fun _ => rfl), rfl, rfl, oleLI _ _ rfl⟩, rfl⟩⟩, ⟨rfl, rfl⟩⟩) (fun _ => rfl) (fun _ => (by simp [tagged, taggedL, tagLI, tagS]))
    refine x_r [(1, .call [(true, .any)] true (Bv false))] [0, 2, 7] [2] [slS false labels, .ref 2 0, Bv true] [some (.box [nilA, nilA])] [Con Try.prog 48 [slS false labels] true (Bv false) ∧ True] ⟨⟨(con_bool h1 (validClasses_ok labels ok)), trivial⟩, trivial⟩ ?_
    refine xe_then ?_
    refine x_true rfl ?_
    refine xR [] [2, 3] [2] [.ref 2 0, I 1] [some (.box [nilA, nilA])] [] trivial ?_
    refine x_ret ?_
    refine xe_ret_then ?_
    refine xe_end ((Perceptron.mk ([] : List ByteArray) ([] : List (List Int))), 1) (show (((Perceptron.mk ([] : List ByteArray) ([] : List (List Int))), 1) = newR labels) ∧ (True) from ⟨(by first | exact (newR_no (by simp_all)).symm | (rw [newR_yes (by assumption), ← hws, hcs]) | (rw [newR_yes (by assumption), ← hws])), trivial⟩) (trivial) (.tup [.agg [nilA, nilA], I 1]) (by kernel_rfl) (.inr ⟨⟨⟨rfl, rfl⟩, ⟨⟨rfl, rfl⟩, rfl⟩⟩, ⟨rfl, rfl⟩⟩) (fun _ => rfl) (fun _ => (by simp [tagged, taggedL, tagLI, tagS]))
  obtain ⟨⟨v, c⟩, ⟨hh0, _⟩, hc⟩ := hh
  exact ⟨v, c, hh0, hc⟩


-- spec.DrawSamePerceptron
theorem DrawSamePerceptron_ok (code : List Int) (hc : (∀ j, j < code.length → 0 ≤ at_ code j ∧ at_ code j ≤ 255) ∧ code.length ≤ 4611686018427387904) : ∃ (a : Perceptron) (b : Perceptron), Con Try.prog 14 [slU8 false code] true (.tup [agPerceptronT a, agPerceptronT b]) := by
  have hh : ∃ r : Perceptron × Perceptron, (True) ∧ CallOK Try.prog 14 [slU8 false code] (lookO []) true (.tup [agPerceptronT r.1, agPerceptronT r.2]) (lookO []) := by
    refine fn_okX (Φ := fun r : Perceptron × Perceptron => True) [] (fun r => []) (fn := Try.f14) (nt := 38) Try.func14 rfl rfl (args := [slU8 false code]) rfl (allcons (.inl ⟨rfl, tagU8 false _⟩) allnil) (res := fun r => .tup [agPerceptronT r.1, agPerceptronT r.2]) ?_
    refine xR [(0, .new 2), (1, .new 3)] [0, 2, 3] [2, 3] [slU8 false code, .ref 2 0, .ref 3 0] [some (.box [nilA, nilA]), some (.box [nilA, nilA])] [] trivial ?_
    refine x_seq ?_
    obtain ⟨s'_1, hx1_0, hc1⟩ := l00From_ok code
    have hsrc : okSrc s'_1 := ⟨by rw [hx1_0.1]; exact hc.1, by rw [hx1_0.2]; decide, by rw [hx1_0.1]; exact hc.2⟩
    have hat0 := hx1_0.2
    refine x_r [(1, .lend [] [(7001, bxl00Src s'_1)] [(true, .any)] false (.ref 7001 0))] [2, 3, 4] [2, 3, 7001] [.ref 2 0, .ref 3 0, .ref 7001 0] [some (.box [nilA, nilA]), some (.box [nilA, nilA]), some (bxl00Src s'_1)] [CallOK Try.prog 28 [slU8 false code] (lookO []) false (.ref 7001 0) (lookO [(7001, bxl00Src s'_1)]) ∧ True] ⟨⟨hc1, trivial⟩, trivial⟩ ?_
    refine xe_then ?_
    refine x_seq ?_
    obtain ⟨s'_2, ls_2, ws_2, hx2_0, hx2_1, hx2_2, hx2_3, hc2⟩ := l12Draw_ok s'_1 (by first | assumption | (simp only [okSrc] at *; simp_all; done)) (by omega)
    have hok := hx2_3
    have hpn : 1 ≤ ls_2.length ∧ ls_2.length ≤ 12 ∧ ws_2.length = ls_2.length := okP_n hok
    have hr0 : (at_ ws_2 0).length = 25 ∧ ∀ k, k < 25 → -1000000 ≤ at_ (at_ ws_2 0) k ∧ at_ (at_ ws_2 0) k ≤ 1000000 := (okRows_at (okPerc_iff.1 hok).2.2 (j := 0) (by show 0 < ws_2.length; omega))
    have hz0 := (okP_dr hok).2.1 _ (at_mem (xs := ls_2) (i := 0) (by omega))
    refine x_r [(1, .lend [(7001, bxl00Src s'_1, bxl00Src s'_2)] [(9231, .arr 1 ls_2.length (fS ls_2)), (9203, .fam ws_2.length 1 (mLI ws_2) (gLI ws_2)), (9232, .oar [9203] 1 ws_2.length (oLI 9203 ws_2))] [(true, .any)] false (.agg [.arr 9231, .arr 9232])), (2, .new 5)] [2, 3, 4, 5] [2, 3, 5, 7001, 9203, 9231, 9232] [.ref 2 0, .ref 3 0, .ref 7001 0, .ref 5 0] [some (.box [nilA, nilA]), some (.box [nilA, nilA]), some (.box [.arr 9231, .arr 9232]), some (bxl00Src s'_2), some (.fam ws_2.length 1 (mLI ws_2) (gLI ws_2)), some (.arr 1 ls_2.length (fS ls_2)), some (.oar [9203] 1 ws_2.length (oLI 9203 ws_2))] [CallOK Try.prog 51 [.ref 7001 0] (lookO [(7001, bxl00Src s'_1)]) false (.agg [.arr 9231, .arr 9232]) (lookO [(7001, bxl00Src s'_2), (9231, .arr 1 ls_2.length (fS ls_2)), (9203, .fam ws_2.length 1 (mLI ws_2) (gLI ws_2)), (9232, .oar [9203] 1 ws_2.length (oLI 9203 ws_2))]) ∧ (((bxl00Src s'_1 : Ob) = bxl00Src s'_1 ∨ obLe noOb true (bxl00Src s'_1) (bxl00Src s'_1)) ∧ taggedO false (bxl00Src s'_1)) ∧ True] ⟨⟨hc2, ⟨.inl rfl, (by simp [taggedO, taggedL, tagged, tagU8])⟩, trivial⟩, trivial⟩ ?_
    refine xe_then ?_
    refine x_seq ?_
    refine x_weak [] (T := [(2, .ref 2 0), (3, .ref 3 0), (4, .ref 7001 0), (5, .ref 5 0)]) (O := [(2, .box [nilA, nilA]), (3, .box [nilA, nilA]), (5, .box [slS true ls_2, slLI true ws_2]), (7001, bxl00Src s'_2)]) rfl (⟨.inl rfl, .inl rfl, .inl rfl, .inl rfl, trivial⟩) (⟨.inl rfl, .inl rfl, .inr ⟨⟨(fun _ => rfl), rfl, rfl, fun i _ => .inl rfl⟩, ⟨⟨(fun _ => rfl), rfl, rfl, oleLI _ _ rfl⟩, rfl⟩⟩, .inl rfl, trivial⟩) ?_
    refine x_weak [] (T := [(2, .ref 2 0), (3, .ref 3 0), (4, .ref 7001 0), (5, .ptr true [slS true ls_2, slLI true ws_2])]) (O := [(2, .box [nilA, nilA]), (3, .box [nilA, nilA]), (7001, bxl00Src s'_2)]) rfl (⟨.inl rfl, .inl rfl, .inl rfl, .inr ⟨(fun _ => rfl), rfl, ⟨⟨(fun _ => rfl), rfl, rfl, fun i _ => .inl rfl⟩, ⟨⟨(fun _ => rfl), rfl, rfl, fun i _ => .inl rfl⟩, rfl⟩⟩⟩, trivial⟩) (⟨.inl rfl, .inl rfl, .inl rfl, trivial⟩) ?_
    obtain ⟨ls_3, ws_3, hx3_0, hx3_1, hc3⟩ := l12Own_ok (Perceptron.mk ls_2 ws_2) (okP_bd hok)
    have hls2 := hx3_0
    have hws2 := hx3_1
    simp only at hls2 hws2
    rw [← hws2] at hr0 hpn
    rw [← hls2] at hz0
    have hll2 : ls_3.length = ls_2.length := by rw [hls2]
    refine x_r [(0, .lend [] [(9201, .arr 1 ls_3.length (fS ls_3)), (9202, .oar [9203] 1 ws_3.length (oLI 9203 ws_3)), (9203, .fam ws_3.length 1 (mLI ws_3) (gLI ws_3))] [(false, .ptr false [slS false ls_2, slLI false ws_2])] false (.agg [.arr 9201, .arr 9202])), (1, .new 6)] [2, 3, 4, 5, 6] [2, 3, 6, 7001, 9201, 9202, 9203] [.ref 2 0, .ref 3 0, .ref 7001 0, .ptr true [slS true ls_2, slLI true ws_2], .ref 6 0] [some (.box [nilA, nilA]), some (.box [nilA, nilA]), some (.box [.arr 9201, .arr 9202]), some (bxl00Src s'_2), some (.arr 1 ls_3.length (fS ls_3)), some (.oar [9203] 1 ws_3.length (oLI 9203 ws_3)), some (.fam ws_3.length 1 (mLI ws_3) (gLI ws_3))] [CallOK Try.prog 52 [.ptr false [slS false ls_2, slLI false ws_2]] (lookO []) false (.agg [.arr 9201, .arr 9202]) (lookO [(9201, .arr 1 ls_3.length (fS ls_3)), (9202, .oar [9203] 1 ws_3.length (oLI 9203 ws_3)), (9203, .fam ws_3.length 1 (mLI ws_3) (gLI ws_3))]) ∧ ((false = true → true = true) ∧ AV.idsL [slS false ls_2, slLI false ws_2] = [] ∧ ((false = true → true = true) ∧ 1 = 1 ∧ ls_2.length = ls_2.length ∧ ∀ i_, i_ < ls_2.length → (fS ls_2) i_ = (fS ls_2) i_ ∨ (AV.idsL ((fS ls_2) i_) = [] ∧ leL (fun _ => none) false ((fS ls_2) i_) ((fS ls_2) i_))) ∧ ((false = true → true = true) ∧ 1 = 1 ∧ ws_2.length = ws_2.length ∧ ∀ i_, i_ < ws_2.length → (fLI true ws_2) i_ = (fLI false ws_2) i_ ∨ (AV.idsL ((fLI false ws_2) i_) = [] ∧ leL (fun _ => none) false ((fLI true ws_2) i_) ((fLI false ws_2) i_))) ∧ ([] : List AV) = []) ∧ True] ⟨⟨hc3, ⟨(fun h => by cases h), rfl, ⟨⟨(fun h => by cases h), rfl, rfl, fun i _ => .inl rfl⟩, ⟨⟨(fun h => by cases h), rfl, rfl, fun i _ => .inr ⟨idsLI _ _, leLI _ _ _⟩⟩, rfl⟩⟩⟩, trivial⟩, trivial⟩ ?_
    refine xe_then ?_
    refine x_seq ?_
    refine x_seq ?_
    obtain ⟨v_4, s'_4, hx4_0, hx4_1, hx4_2, hx4_3, hc4⟩ := pick_ok s'_2 3 (by first | assumption | (simp only [okSrc] at *; simp_all; done)) (by omega)
    refine x_r [(1, .lend [(7001, bxl00Src s'_2, bxl00Src s'_4)] [] [(true, .any), (true, .any)] true (I v_4))] [2, 3, 4, 5, 6, 14] [2, 3, 6, 7001, 9201, 9202, 9203] [.ref 2 0, .ref 3 0, .ref 7001 0, .ptr true [slS true ls_2, slLI true ws_2], .ref 6 0, I v_4] [some (.box [nilA, nilA]), some (.box [nilA, nilA]), some (.box [.arr 9201, .arr 9202]), some (bxl00Src s'_4), some (.arr 1 ls_3.length (fS ls_3)), some (.oar [9203] 1 ws_3.length (oLI 9203 ws_3)), some (.fam ws_3.length 1 (mLI ws_3) (gLI ws_3))] [CallOK Try.prog 32 [.ref 7001 0, I 3] (lookO [(7001, bxl00Src s'_2)]) true (I v_4) (lookO [(7001, bxl00Src s'_4)]) ∧ (((bxl00Src s'_2 : Ob) = bxl00Src s'_2 ∨ obLe noOb true (bxl00Src s'_2) (bxl00Src s'_2)) ∧ taggedO false (bxl00Src s'_2)) ∧ True] ⟨⟨hc4, ⟨.inl rfl, (by simp [taggedO, taggedL, tagged, tagU8])⟩, trivial⟩, trivial⟩ ?_
    refine xe_then ?_
    refine x_block ?_
    refine x_seq ?_
    by_cases h1 : v_4 = 0
    ·refine x_r [(0, .dec true)] [2, 3, 4, 5, 6, 14, 15] [2, 3, 6, 7001, 9201, 9202, 9203] [.ref 2 0, .ref 3 0, .ref 7001 0, .ptr true [slS true ls_2, slLI true ws_2], .ref 6 0, I v_4, Bv true] [some (.box [nilA, nilA]), some (.box [nilA, nilA]), some (.box [.arr 9201, .arr 9202]), some (bxl00Src s'_4), some (.arr 1 ls_3.length (fS ls_3)), some (.oar [9203] 1 ws_3.length (oLI 9203 ws_3)), some (.fam ws_3.length 1 (mLI ws_3) (gLI ws_3))] [v_4 = 0] ⟨h1, trivial⟩ ?_
     refine xe_then ?_
     refine x_true rfl ?_
     refine x_seq ?_
     obtain ⟨v_5, s'_5, hx5_0, hx5_1, hx5_2, hx5_3, hc5⟩ := pick_ok s'_4 25 (by first | assumption | (simp only [okSrc] at *; simp_all; done)) (by omega)
     have hpk := hr0.2 v_5.toNat (by omega)
     refine x_r [(1, .lend [(7001, bxl00Src s'_4, bxl00Src s'_5)] [] [(true, .any), (true, .any)] true (I v_5))] [2, 3, 5, 6, 7] [2, 3, 6, 9201, 9202, 9203] [.ref 2 0, .ref 3 0, .ptr true [slS true ls_2, slLI true ws_2], .ref 6 0, I v_5] [some (.box [nilA, nilA]), some (.box [nilA, nilA]), some (.box [.arr 9201, .arr 9202]), some (.arr 1 ls_3.length (fS ls_3)), some (.oar [9203] 1 ws_3.length (oLI 9203 ws_3)), some (.fam ws_3.length 1 (mLI ws_3) (gLI ws_3))] [CallOK Try.prog 32 [.ref 7001 0, I 25] (lookO [(7001, bxl00Src s'_4)]) true (I v_5) (lookO [(7001, bxl00Src s'_5)]) ∧ (((bxl00Src s'_4 : Ob) = bxl00Src s'_4 ∨ obLe noOb true (bxl00Src s'_4) (bxl00Src s'_4)) ∧ taggedO false (bxl00Src s'_4)) ∧ True] ⟨⟨hc5, ⟨.inl rfl, (by simp [taggedO, taggedL, tagged, tagU8])⟩, trivial⟩, trivial⟩ ?_
     refine xe_then ?_
     refine x_r [] [2, 3, 5, 6] [2, 3, 6, 9201, 9202, 9203] [.ref 2 0, .ref 3 0, .ptr true [slS true ls_2, slLI true ws_2], .ref 6 0] [some (.box [nilA, nilA]), some (.box [nilA, nilA]), some (.box [.arr 9201, .arr 9202]), some (.arr 1 ls_3.length (fS ls_3)), some (.oar [9203] 1 ws_3.length (oLI 9203 ws_3)), some (.fam ws_3.length 1 (mLI ws_3) (fun q => bif Nat.beq q 0 then (fun q => bif Nat.beq q v_5.toNat then [I ((at_ (at_ ws_3 0) v_5.toNat) + 1)] else (gLI ws_3) 0 q) else (gLI ws_3) q))] [(0 : Int) ≤ 0 ∧ 0 < (ws_3.length : Int), 0 < ws_3.length, 0 < ws_3.length ∧ (0 : Int) ≤ v_5 ∧ v_5 < (((at_ ws_3 0).length) : Int), 0 < ws_3.length ∧ v_5.toNat < (at_ ws_3 0).length, inR .i64 ((at_ (at_ ws_3 0) v_5.toNat) + 1), 0 < ws_3.length ∧ (0 : Int) ≤ v_5 ∧ v_5 < (((at_ ws_3 0).length) : Int), 0 < ws_3.length ∧ v_5.toNat < (at_ ws_3 0).length] ⟨⟨(by omega), (by omega)⟩, (by omega), ⟨(by omega), (by omega), (by omega)⟩, ⟨(by omega), (by omega)⟩, (inR_i64 (by omega) (by omega)), ⟨(by omega), (by omega), (by omega)⟩, ⟨(by omega), (by omega)⟩, trivial⟩ ?_
     refine xe_block 0 ?_
     refine xe_then ?_
     refine x_seq ?_
     refine x_weak [] (T := [(2, .ref 2 0), (3, .ref 3 0), (5, .ptr true [slS true ls_2, slLI true ws_2]), (6, .ref 6 0)]) (O := [(2, .box [nilA, nilA]), (3, .box [nilA, nilA]), (6, .box [.arr 9201, .arr 9202]), (9201, .arr 1 ls_3.length (fS ls_3)), (9202, .oar [9203] 1 ((ws_3.set 0 ((at_ ws_3 0).set v_5.toNat ((at_ (at_ ws_3 0) v_5.toNat) + 1))).length) (oLI 9203 (ws_3.set 0 ((at_ ws_3 0).set v_5.toNat ((at_ (at_ ws_3 0) v_5.toNat) + 1))))), (9203, .fam (ws_3.set 0 ((at_ ws_3 0).set v_5.toNat ((at_ (at_ ws_3 0) v_5.toNat) + 1))).length 1 (mLI (ws_3.set 0 ((at_ ws_3 0).set v_5.toNat ((at_ (at_ ws_3 0) v_5.toNat) + 1)))) (gLI (ws_3.set 0 ((at_ ws_3 0).set v_5.toNat ((at_ (at_ ws_3 0) v_5.toNat) + 1)))))]) rfl (⟨.inl rfl, .inl rfl, .inl rfl, .inl rfl, trivial⟩) (⟨.inl rfl, .inl rfl, .inl rfl, .inl rfl, .inr ⟨rfl, rfl, (by first | rfl | (simp; done) | omega), fun i_ hi_ => .inl (osetLI 9203 0 ws_3 ((at_ ws_3 0).set v_5.toNat ((at_ (at_ ws_3 0) v_5.toNat) + 1)) i_)⟩, .inr (fsetLI (P := 0) (k := v_5.toNat) ((by omega)) ((by omega)) (by simp only [Nat.beq_refl, cond_true]; try rfl) (by intro i hi; simp only [Nat.beq_refl, cond_true, beq_ne hi, cond_false]; try rfl) (by intro p hp; simp only [beq_ne hp, cond_false])), trivial⟩) ?_
     refine x_r [] [2, 3] [2, 3, 9201, 9202, 9203] [.ref 2 0, .ref 3 0] [some (.box [slS true ls_2, slLI true ws_2]), some (.box [.arr 9201, .arr 9202]), some (.arr 1 ls_3.length (fS ls_3)), some (.oar [9203] 1 ((ws_3.set 0 ((at_ ws_3 0).set v_5.toNat ((at_ (at_ ws_3 0) v_5.toNat) + 1))).length) (oLI 9203 (ws_3.set 0 ((at_ ws_3 0).set v_5.toNat ((at_ (at_ ws_3 0) v_5.toNat) + 1))))), some (.fam (ws_3.set 0 ((at_ ws_3 0).set v_5.toNat ((at_ (at_ ws_3 0) v_5.toNat) + 1))).length 1 (mLI (ws_3.set 0 ((at_ ws_3 0).set v_5.toNat ((at_ (at_ ws_3 0) v_5.toNat) + 1)))) (gLI (ws_3.set 0 ((at_ ws_3 0).set v_5.toNat ((at_ (at_ ws_3 0) v_5.toNat) + 1)))))] [] trivial ?_
     refine xe_then ?_
     refine x_ret ?_
     refine xe_end ((Perceptron.mk ls_2 ws_2), (Perceptron.mk ls_3 (ws_3.set 0 ((at_ ws_3 0).set v_5.toNat ((at_ (at_ ws_3 0) v_5.toNat) + 1))))) trivial (trivial) (.tup [.agg [slS true ls_2, slLI true ws_2], .agg [.arr 9201, .arr 9202]]) (by kernel_rfl) (.inr ⟨⟨⟨(fun _ => rfl), rfl, rfl, fun i _ => .inl rfl⟩, ⟨⟨(fun _ => rfl), rfl, rfl, fun i _ => .inl rfl⟩, rfl⟩⟩, ⟨⟨⟨(fun _ => rfl), rfl, rfl, fun i _ => .inl rfl⟩, ⟨⟨(fun _ => rfl), rfl, rfl, oleLI _ _ rfl⟩, rfl⟩⟩, rfl⟩⟩) (fun _ => rfl) (fun _ => (by simp [tagged, taggedL, tagLI, tagS]))
    refine x_r [(0, .dec false)] [2, 3, 4, 5, 6, 14, 15] [2, 3, 6, 7001, 9201, 9202, 9203] [.ref 2 0, .ref 3 0, .ref 7001 0, .ptr true [slS true ls_2, slLI true ws_2], .ref 6 0, I v_4, Bv false] [some (.box [nilA, nilA]), some (.box [nilA, nilA]), some (.box [.arr 9201, .arr 9202]), some (bxl00Src s'_4), some (.arr 1 ls_3.length (fS ls_3)), some (.oar [9203] 1 ws_3.length (oLI 9203 ws_3)), some (.fam ws_3.length 1 (mLI ws_3) (gLI ws_3))] [¬ (v_4 = 0)] ⟨h1, trivial⟩ ?_
    refine xe_then ?_
    refine x_false rfl ?_
    refine x_seq ?_
    by_cases h2 : v_4 = 1
    ·refine x_r [(0, .dec true)] [2, 3, 5, 6, 28] [2, 3, 6, 9201, 9202, 9203] [.ref 2 0, .ref 3 0, .ptr true [slS true ls_2, slLI true ws_2], .ref 6 0, Bv true] [some (.box [nilA, nilA]), some (.box [nilA, nilA]), some (.box [.arr 9201, .arr 9202]), some (.arr 1 ls_3.length (fS ls_3)), some (.oar [9203] 1 ws_3.length (oLI 9203 ws_3)), some (.fam ws_3.length 1 (mLI ws_3) (gLI ws_3))] [v_4 = 1] ⟨h2, trivial⟩ ?_
     refine xe_then ?_
     refine x_true rfl ?_
     refine x_r [] [2, 3, 5, 6] [2, 3, 6, 9201, 9202, 9203] [.ref 2 0, .ref 3 0, .ptr true [slS true ls_2, slLI true ws_2], .ref 6 0] [some (.box [nilA, nilA]), some (.box [nilA, nilA]), some (.box [.arr 9201, .arr 9202]), some (.arr 1 ls_3.length (fun q => bif Nat.beq q 0 then [Sv ((at_ ls_3 0) ++ (⟨#[120]⟩ : ByteArray))] else (fS ls_3) q)), some (.oar [9203] 1 ws_3.length (oLI 9203 ws_3)), some (.fam ws_3.length 1 (mLI ws_3) (gLI ws_3))] [(0 : Int) ≤ 0 ∧ 0 < (ls_3.length : Int), 0 < ls_3.length, (at_ ls_3 0).size + (⟨#[120]⟩ : ByteArray).size ≤ 9223372036854775807, (0 : Int) ≤ 0 ∧ 0 < (ls_3.length : Int), 0 < ls_3.length] ⟨⟨(by omega), (by omega)⟩, (by omega), (by have e0 : (⟨#[120]⟩ : ByteArray).size = 1 := rfl; first | omega | (simp only [ByteArray.size_append, ByteArray.size_extract]; omega)), ⟨(by omega), (by omega)⟩, (by omega), trivial⟩ ?_
     refine xe_block 0 ?_
     refine xe_then ?_
     refine xR [] [2, 3] [2, 3, 9201, 9202, 9203] [.ref 2 0, .ref 3 0] [some (.box [slS true ls_2, slLI true ws_2]), some (.box [.arr 9201, .arr 9202]), some (.arr 1 ls_3.length (fun q => bif Nat.beq q 0 then [Sv ((at_ ls_3 0) ++ (⟨#[120]⟩ : ByteArray))] else (fS ls_3) q)), some (.oar [9203] 1 ws_3.length (oLI 9203 ws_3)), some (.fam ws_3.length 1 (mLI ws_3) (gLI ws_3))] [] trivial ?_
     refine x_ret ?_
     refine xe_end ((Perceptron.mk ls_2 ws_2), (Perceptron.mk (ls_3.set 0 ((at_ ls_3 0) ++ (⟨#[120]⟩ : ByteArray))) ws_3)) trivial (trivial) (.tup [.agg [slS true ls_2, slLI true ws_2], .agg [.arr 9201, .arr 9202]]) (by kernel_rfl) (.inr ⟨⟨⟨(fun _ => rfl), rfl, rfl, fun i _ => .inl rfl⟩, ⟨⟨(fun _ => rfl), rfl, rfl, fun i _ => .inl rfl⟩, rfl⟩⟩, ⟨⟨⟨(fun _ => rfl), rfl, (by first | rfl | (simp; done) | (simp; omega) | omega), fun i_ hi_ => .inl (upd_enc (enc := cS) rfl i_ hi_)⟩, ⟨⟨(fun _ => rfl), rfl, rfl, oleLI _ _ rfl⟩, rfl⟩⟩, rfl⟩⟩) (fun _ => rfl) (fun _ => (by simp [tagged, taggedL, tagLI, tagS]))
    refine x_r [(0, .dec false)] [2, 3, 5, 6, 28] [2, 3, 6, 9201, 9202, 9203] [.ref 2 0, .ref 3 0, .ptr true [slS true ls_2, slLI true ws_2], .ref 6 0, Bv false] [some (.box [nilA, nilA]), some (.box [nilA, nilA]), some (.box [.arr 9201, .arr 9202]), some (.arr 1 ls_3.length (fS ls_3)), some (.oar [9203] 1 ws_3.length (oLI 9203 ws_3)), some (.fam ws_3.length 1 (mLI ws_3) (gLI ws_3))] [¬ (v_4 = 1)] ⟨h2, trivial⟩ ?_
    refine xe_then ?_
    refine x_false rfl ?_
    refine x_skip ?_
    refine xe_block 0 ?_
    refine xe_then ?_
    refine xR [] [2, 3] [2, 3, 9201, 9202, 9203] [.ref 2 0, .ref 3 0] [some (.box [slS true ls_2, slLI true ws_2]), some (.box [.arr 9201, .arr 9202]), some (.arr 1 ls_3.length (fS ls_3)), some (.oar [9203] 1 ws_3.length (oLI 9203 ws_3)), some (.fam ws_3.length 1 (mLI ws_3) (gLI ws_3))] [] trivial ?_
    refine x_ret ?_
    refine xe_end ((Perceptron.mk ls_2 ws_2), (Perceptron.mk ls_3 ws_3)) trivial (trivial) (.tup [.agg [slS true ls_2, slLI true ws_2], .agg [.arr 9201, .arr 9202]]) (by kernel_rfl) (.inr ⟨⟨⟨(fun _ => rfl), rfl, rfl, fun i _ => .inl rfl⟩, ⟨⟨(fun _ => rfl), rfl, rfl, fun i _ => .inl rfl⟩, rfl⟩⟩, ⟨⟨⟨(fun _ => rfl), rfl, rfl, fun i _ => .inl rfl⟩, ⟨⟨(fun _ => rfl), rfl, rfl, oleLI _ _ rfl⟩, rfl⟩⟩, rfl⟩⟩) (fun _ => rfl) (fun _ => (by simp [tagged, taggedL, tagLI, tagS]))
  obtain ⟨⟨a, b⟩, _, hc⟩ := hh
  exact ⟨a, b, hc⟩


-- laws.f6ints
theorem f6ints_ok (a : List Int) (b : List Int) : Con Try.prog 15 [slI false a, slI false b] true (Bv (sameL a b)) := by
  refine fn_ok (fn := Try.f15) (nt := 26) Try.func15 rfl rfl rfl rfl (by simp [taggedL, tagged, tagI]) fun B hB => ?_
  refine aw_lens (x := slI false a) 0 rfl (fun len_a => ?_)
  simp [LenOK, LenL, cI, fI, slI] at len_a
  refine aw_lens (x := slI false b) 1 rfl (fun len_b => ?_)
  simp [LenOK, LenL, cI, fI, slI] at len_b
  refine aR [] [0, 1] [] [slI false a, slI false b] [] [] hB trivial ?_
  refine aw_seq ?_
  refine aw_seq ?_
  by_cases h1 : (a.length : Int) = (b.length : Int)
  ·have hlen : a.length = b.length := by omega
   refine aw_r [(4, .dec false)] [0, 1, 10] [] [slI false a, slI false b, Bv false] [] [¬ ((a.length : Int) ≠ (b.length : Int))] hB ⟨(fun hq => hq h1), trivial⟩ ?_
   refine ae_then ?_
   refine aw_false rfl ?_
   refine aw_skip ?_
   refine ae_then ?_
   refine aw_seq ?_
   refine aR [] [0, 1, 5] [] [slI false a, slI false b, I 0] [] [] hB trivial ?_
   refine aw_block ?_
   refine aw_loop (fun gn gσ => ∃ (i : Int), gn = ((a.length : Int) - i).toNat ∧ (0 ≤ i ∧ i ≤ (a.length : Int)) ∧ (∀ j : Nat, (j : Int) < i → decide (at_ a j = at_ b j) = true) ∧ gσ = mkS [(0, slI false a), (1, slI false b), (5, I i)] []) (((a.length : Int) - 0).toNat) ⟨0, rfl, (by omega), (by intro j hj; omega), rfl⟩ (fun gn gσ hI => ?_)
   obtain ⟨i, rfl, hi0, hall0, rfl⟩ := hI
   refine aw_seq ?_
   refine aw_seq ?_
   by_cases h2 : i < (a.length : Int)
   ·have hi : i.toNat < a.length := by omega
    refine aw_r [(3, .dec true)] [0, 1, 5, 14] [] [slI false a, slI false b, I i, Bv true] [] [i < (a.length : Int)] hB ⟨h2, trivial⟩ ?_
    refine ae_then ?_
    refine aw_true rfl ?_
    refine aw_skip ?_
    refine ae_then ?_
    refine aw_seq ?_
    refine aw_block ?_
    refine aw_seq ?_
    by_cases h3 : (at_ a i.toNat) = (at_ b i.toNat)
    ·have hok : decide (at_ a i.toNat = at_ b i.toNat) = true := decide_eq_true h3
     refine aw_r [(8, .dec false)] [0, 1, 5, 25] [] [slI false a, slI false b, I i, Bv false] [] [(0 : Int) ≤ i ∧ i < (a.length : Int), (0 : Int) ≤ i ∧ i < (b.length : Int), ¬ ((at_ a i.toNat) ≠ (at_ b i.toNat))] hB ⟨⟨(by omega), (by omega)⟩, ⟨(by omega), (by omega)⟩, (fun hq => hq h3), trivial⟩ ?_
     refine ae_then ?_
     refine aw_false rfl ?_
     refine aw_skip ?_
     refine ae_block 1 ?_
     refine ae_then ?_
     refine aw_r [] [0, 1, 5] [] [slI false a, slI false b, I (i + 1)] [] [inR .i64 (i + 1)] hB ⟨(inR_i64 (by omega) (by omega)), trivial⟩ ?_
     exact ae_again _ (by omega) ⟨(i + 1), rfl, (by omega), (by intro j hj; by_cases ej : j = i.toNat; (subst ej; first | assumption | exact hok); exact hall0 j (by omega)), rfl⟩
    have hall : allN a.length (fun j => decide (at_ a j = at_ b j)) = false := allN_not hi (decide_eq_false h3)
    refine aw_r [(8, .dec true)] [0, 1, 5, 25] [] [slI false a, slI false b, I i, Bv true] [] [(0 : Int) ≤ i ∧ i < (a.length : Int), (0 : Int) ≤ i ∧ i < (b.length : Int), (at_ a i.toNat) ≠ (at_ b i.toNat)] hB ⟨⟨(by omega), (by omega)⟩, ⟨(by omega), (by omega)⟩, h3, trivial⟩ ?_
    refine ae_then ?_
    refine aw_true rfl ?_
    refine aR [] [4] [] [Bv false] [] [] hB trivial ?_
    refine aw_ret ?_
    refine ae_ret_block (ae_ret_then (ae_ret_then (ae_ret_block (ae_ret_then ?_))))
    refine ae_ret hB (Bv false) (by kernel_rfl) (.inl (by first | (simp [sameL, hlen]; done) | (unfold sameL; rw [hall]; simp [hlen]))) rfl (fun _ => trivial)
   have hall : allN a.length (fun j => decide (at_ a j = at_ b j)) = true := allN_at (fun j hj => hall0 j (by omega))
   refine aw_r [(3, .dec false)] [0, 1, 5, 14] [] [slI false a, slI false b, I i, Bv false] [] [¬ (i < (a.length : Int))] hB ⟨h2, trivial⟩ ?_
   refine ae_then ?_
   refine aw_false rfl ?_
   refine aw_exit ?_
   refine ae_exit_then ?_
   refine ae_exit_then ?_
   refine ae_exit_same ?_
   refine ae_then ?_
   refine aR [] [4] [] [Bv true] [] [] hB trivial ?_
   refine aw_ret ?_
   refine ae_ret hB (Bv true) (by kernel_rfl) (.inl (by first | (simp [sameL, hlen]; done) | (unfold sameL; rw [hall]; simp [hlen]))) rfl (fun _ => trivial)
  have hlen : ¬ a.length = b.length := by omega
  refine aw_r [(4, .dec true)] [0, 1, 10] [] [slI false a, slI false b, Bv true] [] [(a.length : Int) ≠ (b.length : Int)] hB ⟨h1, trivial⟩ ?_
  refine ae_then ?_
  refine aw_true rfl ?_
  refine aR [] [4] [] [Bv false] [] [] hB trivial ?_
  refine aw_ret ?_
  refine ae_ret_then ?_
  refine ae_ret hB (Bv false) (by kernel_rfl) (.inl (by first | (simp [sameL, hlen]; done) | (unfold sameL; rw [hall]; simp [hlen]))) rfl (fun _ => trivial)


-- spec.l00Same
theorem l00Same_ok (a : List Int) (b : List Int) : Con Try.prog 53 [slI false a, slI false b] true (Bv (sameL a b)) := by
  refine fn_ok (fn := Try.f53) (nt := 26) Try.func53 rfl rfl rfl rfl (by simp [taggedL, tagged, tagI]) fun B hB => ?_
  refine aw_lens (x := slI false a) 0 rfl (fun len_a => ?_)
  simp [LenOK, LenL, cI, fI, slI] at len_a
  refine aw_lens (x := slI false b) 1 rfl (fun len_b => ?_)
  simp [LenOK, LenL, cI, fI, slI] at len_b
  refine aR [] [0, 1] [] [slI false a, slI false b] [] [] hB trivial ?_
  refine aw_seq ?_
  refine aw_seq ?_
  by_cases h1 : (a.length : Int) = (b.length : Int)
  ·have hlen : a.length = b.length := by omega
   refine aw_r [(4, .dec false)] [0, 1, 10] [] [slI false a, slI false b, Bv false] [] [¬ ((a.length : Int) ≠ (b.length : Int))] hB ⟨(fun hq => hq h1), trivial⟩ ?_
   refine ae_then ?_
   refine aw_false rfl ?_
   refine aw_skip ?_
   refine ae_then ?_
   refine aw_seq ?_
   refine aR [] [0, 1, 5] [] [slI false a, slI false b, I 0] [] [] hB trivial ?_
   refine aw_block ?_
   refine aw_loop (fun gn gσ => ∃ (i : Int), gn = ((a.length : Int) - i).toNat ∧ (0 ≤ i ∧ i ≤ (a.length : Int)) ∧ (∀ j : Nat, (j : Int) < i → decide (at_ a j = at_ b j) = true) ∧ gσ = mkS [(0, slI false a), (1, slI false b), (5, I i)] []) (((a.length : Int) - 0).toNat) ⟨0, rfl, (by omega), (by intro j hj; omega), rfl⟩ (fun gn gσ hI => ?_)
   obtain ⟨i, rfl, hi0, hall0, rfl⟩ := hI
   refine aw_seq ?_
   refine aw_seq ?_
   by_cases h2 : i < (a.length : Int)
   ·have hi : i.toNat < a.length := by omega
    refine aw_r [(3, .dec true)] [0, 1, 5, 14] [] [slI false a, slI false b, I i, Bv true] [] [i < (a.length : Int)] hB ⟨h2, trivial⟩ ?_
    refine ae_then ?_
    refine aw_true rfl ?_
    refine aw_skip ?_
    refine ae_then ?_
    refine aw_seq ?_
    refine aw_block ?_
    refine aw_seq ?_
    by_cases h3 : (at_ a i.toNat) = (at_ b i.toNat)
    ·have hok : decide (at_ a i.toNat = at_ b i.toNat) = true := decide_eq_true h3
     refine aw_r [(8, .dec false)] [0, 1, 5, 25] [] [slI false a, slI false b, I i, Bv false] [] [(0 : Int) ≤ i ∧ i < (a.length : Int), (0 : Int) ≤ i ∧ i < (b.length : Int), ¬ ((at_ a i.toNat) ≠ (at_ b i.toNat))] hB ⟨⟨(by omega), (by omega)⟩, ⟨(by omega), (by omega)⟩, (fun hq => hq h3), trivial⟩ ?_
     refine ae_then ?_
     refine aw_false rfl ?_
     refine aw_skip ?_
     refine ae_block 1 ?_
     refine ae_then ?_
     refine aw_r [] [0, 1, 5] [] [slI false a, slI false b, I (i + 1)] [] [inR .i64 (i + 1)] hB ⟨(inR_i64 (by omega) (by omega)), trivial⟩ ?_
     exact ae_again _ (by omega) ⟨(i + 1), rfl, (by omega), (by intro j hj; by_cases ej : j = i.toNat; (subst ej; first | assumption | exact hok); exact hall0 j (by omega)), rfl⟩
    have hall : allN a.length (fun j => decide (at_ a j = at_ b j)) = false := allN_not hi (decide_eq_false h3)
    refine aw_r [(8, .dec true)] [0, 1, 5, 25] [] [slI false a, slI false b, I i, Bv true] [] [(0 : Int) ≤ i ∧ i < (a.length : Int), (0 : Int) ≤ i ∧ i < (b.length : Int), (at_ a i.toNat) ≠ (at_ b i.toNat)] hB ⟨⟨(by omega), (by omega)⟩, ⟨(by omega), (by omega)⟩, h3, trivial⟩ ?_
    refine ae_then ?_
    refine aw_true rfl ?_
    refine aR [] [4] [] [Bv false] [] [] hB trivial ?_
    refine aw_ret ?_
    refine ae_ret_block (ae_ret_then (ae_ret_then (ae_ret_block (ae_ret_then ?_))))
    refine ae_ret hB (Bv false) (by kernel_rfl) (.inl (by first | (simp [sameL, hlen]; done) | (unfold sameL; rw [hall]; simp [hlen]))) rfl (fun _ => trivial)
   have hall : allN a.length (fun j => decide (at_ a j = at_ b j)) = true := allN_at (fun j hj => hall0 j (by omega))
   refine aw_r [(3, .dec false)] [0, 1, 5, 14] [] [slI false a, slI false b, I i, Bv false] [] [¬ (i < (a.length : Int))] hB ⟨h2, trivial⟩ ?_
   refine ae_then ?_
   refine aw_false rfl ?_
   refine aw_exit ?_
   refine ae_exit_then ?_
   refine ae_exit_then ?_
   refine ae_exit_same ?_
   refine ae_then ?_
   refine aR [] [4] [] [Bv true] [] [] hB trivial ?_
   refine aw_ret ?_
   refine ae_ret hB (Bv true) (by kernel_rfl) (.inl (by first | (simp [sameL, hlen]; done) | (unfold sameL; rw [hall]; simp [hlen]))) rfl (fun _ => trivial)
  have hlen : ¬ a.length = b.length := by omega
  refine aw_r [(4, .dec true)] [0, 1, 10] [] [slI false a, slI false b, Bv true] [] [(a.length : Int) ≠ (b.length : Int)] hB ⟨h1, trivial⟩ ?_
  refine ae_then ?_
  refine aw_true rfl ?_
  refine aR [] [4] [] [Bv false] [] [] hB trivial ?_
  refine aw_ret ?_
  refine ae_ret_then ?_
  refine ae_ret hB (Bv false) (by kernel_rfl) (.inl (by first | (simp [sameL, hlen]; done) | (unfold sameL; rw [hall]; simp [hlen]))) rfl (fun _ => trivial)


-- spec.SamePerceptron
theorem specSamePerceptron_ok (a : Perceptron) (b : Perceptron) : Con Try.prog 16 [agPerceptron a, agPerceptron b] true (Bv (sameP a b)) := by
  refine fn_ok (fn := Try.f16) (nt := 60) Try.func16 rfl rfl rfl rfl (by simp [taggedL, tagged, tagLI, tagS]) fun B hB => ?_
  refine aw_lens (x := agPerceptron a) 0 rfl (fun len_a => ?_)
  simp [LenOK, LenL, cI, cLI, cS, fI, fLI, fS, slI, slLI, slS] at len_a
  refine aw_lens (x := agPerceptron b) 1 rfl (fun len_b => ?_)
  simp [LenOK, LenL, cI, cLI, cS, fI, fLI, fS, slI, slLI, slS] at len_b
  refine aR [(0, .new 2), (1, .new 3)] [2, 3] [2, 3] [.ref 2 0, .ref 3 0] [some (bxPerceptron a), some (bxPerceptron b)] [] hB trivial ?_
  refine aw_seq ?_
  refine aw_seq ?_
  by_cases h1 : (a.Labels.length : Int) = (b.Labels.length : Int)
  ·have hl1 : a.Labels.length = b.Labels.length := by omega
   by_cases h2 : (a.Weights.length : Int) = (b.Weights.length : Int)
   ·have hl2 : a.Weights.length = b.Weights.length := by omega
    refine aw_r [(6, .dec false), (14, .dec false)] [2, 3, 22] [2, 3] [.ref 2 0, .ref 3 0, Bv false] [some (bxPerceptron a), some (bxPerceptron b)] [¬ ((a.Labels.length : Int) ≠ (b.Labels.length : Int)), ¬ ((a.Weights.length : Int) ≠ (b.Weights.length : Int))] hB ⟨(fun hq => hq h1), (fun hq => hq h2), trivial⟩ ?_
    refine ae_then ?_
    refine aw_false rfl ?_
    refine aw_skip ?_
    refine ae_then ?_
    refine aw_seq ?_
    refine aR [] [2, 3, 5] [2, 3] [.ref 2 0, .ref 3 0, I 0] [some (bxPerceptron a), some (bxPerceptron b)] [] hB trivial ?_
    refine aw_block ?_
    refine aw_loop (fun gn gσ => ∃ (i : Int), gn = ((a.Labels.length : Int) - i).toNat ∧ (0 ≤ i ∧ i ≤ (a.Labels.length : Int)) ∧ (∀ j : Nat, (j : Int) < i → decide (at_ a.Labels j = at_ b.Labels j) = true) ∧ gσ = mkS [(2, .ref 2 0), (3, .ref 3 0), (5, I i)] [(2, bxPerceptron a), (3, bxPerceptron b)]) (((a.Labels.length : Int) - 0).toNat) ⟨0, rfl, (by omega), (by intro j hj; omega), rfl⟩ (fun gn gσ hI => ?_)
    obtain ⟨i, rfl, hi0, hall0, rfl⟩ := hI
    refine aw_seq ?_
    refine aw_seq ?_
    by_cases h3 : i < (a.Labels.length : Int)
    ·have hi : i.toNat < a.Labels.length := by omega
     refine aw_r [(4, .dec true)] [2, 3, 5, 27] [2, 3] [.ref 2 0, .ref 3 0, I i, Bv true] [some (bxPerceptron a), some (bxPerceptron b)] [i < (a.Labels.length : Int)] hB ⟨h3, trivial⟩ ?_
     refine ae_then ?_
     refine aw_true rfl ?_
     refine aw_skip ?_
     refine ae_then ?_
     refine aw_seq ?_
     refine aw_block ?_
     refine aw_seq ?_
     by_cases h4 : (at_ a.Labels i.toNat) = (at_ b.Labels i.toNat)
     ·have hok : decide (at_ a.Labels i.toNat = at_ b.Labels i.toNat) = true := decide_eq_true h4
      refine aw_r [(10, .dec false)] [2, 3, 5, 40] [2, 3] [.ref 2 0, .ref 3 0, I i, Bv false] [some (bxPerceptron a), some (bxPerceptron b)] [(0 : Int) ≤ i ∧ i < (a.Labels.length : Int), (0 : Int) ≤ i ∧ i < (b.Labels.length : Int), ¬ ((at_ a.Labels i.toNat) ≠ (at_ b.Labels i.toNat))] hB ⟨⟨(by omega), (by omega)⟩, ⟨(by omega), (by omega)⟩, (fun hq => hq h4), trivial⟩ ?_
      refine ae_then ?_
      refine aw_false rfl ?_
      refine aw_skip ?_
      refine ae_block 1 ?_
      refine ae_then ?_
      refine aw_r [] [2, 3, 5] [2, 3] [.ref 2 0, .ref 3 0, I (i + 1)] [some (bxPerceptron a), some (bxPerceptron b)] [inR .i64 (i + 1)] hB ⟨(inR_i64 (by omega) (by omega)), trivial⟩ ?_
      exact ae_again _ (by omega) ⟨(i + 1), rfl, (by omega), (by intro j hj; by_cases ej : j = i.toNat; (subst ej; first | assumption | exact hok); exact hall0 j (by omega)), rfl⟩
     have hst : sameP a b = false := by unfold sameP sameL; rw [allN_not hi (decide_eq_false h4)]; simp
     refine aw_r [(10, .dec true)] [2, 3, 5, 40] [2, 3] [.ref 2 0, .ref 3 0, I i, Bv true] [some (bxPerceptron a), some (bxPerceptron b)] [(0 : Int) ≤ i ∧ i < (a.Labels.length : Int), (0 : Int) ≤ i ∧ i < (b.Labels.length : Int), (at_ a.Labels i.toNat) ≠ (at_ b.Labels i.toNat)] hB ⟨⟨(by omega), (by omega)⟩, ⟨(by omega), (by omega)⟩, h4, trivial⟩ ?_
     refine ae_then ?_
     refine aw_true rfl ?_
     refine aR [] [4] [] [Bv false] [] [] hB trivial ?_
     refine aw_ret ?_
     refine ae_ret_block (ae_ret_then (ae_ret_then (ae_ret_block (ae_ret_then ?_))))
     refine ae_ret hB (Bv false) (by kernel_rfl) (.inl (by exact congrArg Bv hst.symm)) rfl (fun _ => trivial)
    have hs1 : sameL a.Labels b.Labels = true := by unfold sameL; rw [decide_eq_true hl1, allN_at (fun j hj => hall0 j (by omega))]; rfl
    refine aw_r [(4, .dec false)] [2, 3, 5, 27] [2, 3] [.ref 2 0, .ref 3 0, I i, Bv false] [some (bxPerceptron a), some (bxPerceptron b)] [¬ (i < (a.Labels.length : Int))] hB ⟨h3, trivial⟩ ?_
    refine ae_then ?_
    refine aw_false rfl ?_
    refine aw_exit ?_
    refine ae_exit_then ?_
    refine ae_exit_then ?_
    refine ae_exit_same ?_
    refine ae_then ?_
    refine aw_seq ?_
    refine aR [] [2, 3, 6] [2, 3] [.ref 2 0, .ref 3 0, I 0] [some (bxPerceptron a), some (bxPerceptron b)] [] hB trivial ?_
    refine aw_block ?_
    refine aw_loop (fun gn gσ => ∃ (i' : Int), gn = ((a.Weights.length : Int) - i').toNat ∧ (0 ≤ i' ∧ i' ≤ (a.Weights.length : Int)) ∧ (∀ j : Nat, (j : Int) < i' → sameL (at_ a.Weights j) (at_ b.Weights j) = true) ∧ gσ = mkS [(2, .ref 2 0), (3, .ref 3 0), (6, I i')] [(2, bxPerceptron a), (3, bxPerceptron b)]) (((a.Weights.length : Int) - 0).toNat) ⟨0, rfl, (by omega), (by intro j hj; omega), rfl⟩ (fun gn gσ hI => ?_)
    obtain ⟨i', rfl, hj0, hall1, rfl⟩ := hI
    refine aw_seq ?_
    refine aw_seq ?_
    by_cases h5 : i' < (a.Weights.length : Int)
    ·have hi2 : i'.toNat < a.Weights.length := by omega
     refine aw_r [(4, .dec true)] [2, 3, 6, 45] [2, 3] [.ref 2 0, .ref 3 0, I i', Bv true] [some (bxPerceptron a), some (bxPerceptron b)] [i' < (a.Weights.length : Int)] hB ⟨h5, trivial⟩ ?_
     refine ae_then ?_
     refine aw_true rfl ?_
     refine aw_skip ?_
     refine ae_then ?_
     refine aw_seq ?_
     refine aw_block ?_
     refine aw_seq ?_
     rcases Bool.eq_false_or_eq_true (sameL (at_ a.Weights i'.toNat) (at_ b.Weights i'.toNat)) with h6 | h6
     ·have hok2 : sameL (at_ a.Weights i'.toNat) (at_ b.Weights i'.toNat) = true := h6
      refine aw_r [(10, .call [(true, .any), (true, .any)] true (Bv true))] [2, 3, 6, 59] [2, 3] [.ref 2 0, .ref 3 0, I i', Bv false] [some (bxPerceptron a), some (bxPerceptron b)] [(0 : Int) ≤ i' ∧ i' < (a.Weights.length : Int), (0 : Int) ≤ i' ∧ i' < (b.Weights.length : Int), Con Try.prog 53 [slI false (at_ a.Weights i'.toNat), slI false (at_ b.Weights i'.toNat)] true (Bv true) ∧ True] hB ⟨⟨(by omega), (by omega)⟩, ⟨(by omega), (by omega)⟩, ⟨(con_bool h6 (l00Same_ok (at_ a.Weights i'.toNat) (at_ b.Weights i'.toNat))), trivial⟩, trivial⟩ ?_
      refine ae_then ?_
      refine aw_false rfl ?_
      refine aw_skip ?_
      refine ae_block 3 ?_
      refine ae_then ?_
      refine aw_r [] [2, 3, 6] [2, 3] [.ref 2 0, .ref 3 0, I (i' + 1)] [some (bxPerceptron a), some (bxPerceptron b)] [inR .i64 (i' + 1)] hB ⟨(inR_i64 (by omega) (by omega)), trivial⟩ ?_
      exact ae_again _ (by omega) ⟨(i' + 1), rfl, (by omega), (by intro j hj; by_cases ej : j = i'.toNat; (subst ej; exact hok2); exact hall1 j (by omega)), rfl⟩
     have hst : sameP a b = false := by unfold sameP; rw [allN_not hi2 (by simpa using h6)]; simp
     refine aw_r [(10, .call [(true, .any), (true, .any)] true (Bv false))] [2, 3, 6, 59] [2, 3] [.ref 2 0, .ref 3 0, I i', Bv true] [some (bxPerceptron a), some (bxPerceptron b)] [(0 : Int) ≤ i' ∧ i' < (a.Weights.length : Int), (0 : Int) ≤ i' ∧ i' < (b.Weights.length : Int), Con Try.prog 53 [slI false (at_ a.Weights i'.toNat), slI false (at_ b.Weights i'.toNat)] true (Bv false) ∧ True] hB ⟨⟨(by omega), (by omega)⟩, ⟨(by omega), (by omega)⟩, ⟨(con_bool h6 (l00Same_ok (at_ a.Weights i'.toNat) (at_ b.Weights i'.toNat))), trivial⟩, trivial⟩ ?_
     refine ae_then ?_
     refine aw_true rfl ?_
     refine aR [] [4] [] [Bv false] [] [] hB trivial ?_
     refine aw_ret ?_
     refine ae_ret_block (ae_ret_then (ae_ret_then (ae_ret_block (ae_ret_then ?_))))
     refine ae_ret hB (Bv false) (by kernel_rfl) (.inl (by exact congrArg Bv hst.symm)) rfl (fun _ => trivial)
    have hst : sameP a b = true := by unfold sameP; rw [hs1, decide_eq_true hl2, allN_at (fun j hj => hall1 j (by omega))]; rfl
    refine aw_r [(4, .dec false)] [2, 3, 6, 45] [2, 3] [.ref 2 0, .ref 3 0, I i', Bv false] [some (bxPerceptron a), some (bxPerceptron b)] [¬ (i' < (a.Weights.length : Int))] hB ⟨h5, trivial⟩ ?_
    refine ae_then ?_
    refine aw_false rfl ?_
    refine aw_exit ?_
    refine ae_exit_then ?_
    refine ae_exit_then ?_
    refine ae_exit_same ?_
    refine ae_then ?_
    refine aR [] [4] [] [Bv true] [] [] hB trivial ?_
    refine aw_ret ?_
    refine ae_ret hB (Bv true) (by kernel_rfl) (.inl (by exact congrArg Bv hst.symm)) rfl (fun _ => trivial)
   have hl2 : ¬ a.Weights.length = b.Weights.length := by omega
   have hst : sameP a b = false := by unfold sameP; rw [decide_eq_false hl2]; simp
   refine aw_r [(6, .dec false), (14, .dec true)] [2, 3, 22] [2, 3] [.ref 2 0, .ref 3 0, Bv true] [some (bxPerceptron a), some (bxPerceptron b)] [¬ ((a.Labels.length : Int) ≠ (b.Labels.length : Int)), (a.Weights.length : Int) ≠ (b.Weights.length : Int)] hB ⟨(fun hq => hq h1), h2, trivial⟩ ?_
   refine ae_then ?_
   refine aw_true rfl ?_
   refine aR [] [4] [] [Bv false] [] [] hB trivial ?_
   refine aw_ret ?_
   refine ae_ret_then ?_
   refine ae_ret hB (Bv false) (by kernel_rfl) (.inl (by exact congrArg Bv hst.symm)) rfl (fun _ => trivial)
  have hl1 : ¬ a.Labels.length = b.Labels.length := by omega
  have hst : sameP a b = false := by unfold sameP sameL; rw [decide_eq_false hl1]; rfl
  refine aw_r [(6, .dec true)] [2, 3, 22] [2, 3] [.ref 2 0, .ref 3 0, Bv true] [some (bxPerceptron a), some (bxPerceptron b)] [(a.Labels.length : Int) ≠ (b.Labels.length : Int)] hB ⟨h1, trivial⟩ ?_
  refine ae_then ?_
  refine aw_true rfl ?_
  refine aR [] [4] [] [Bv false] [] [] hB trivial ?_
  refine aw_ret ?_
  refine ae_ret_then ?_
  refine ae_ret hB (Bv false) (by kernel_rfl) (.inl (by exact congrArg Bv hst.symm)) rfl (fun _ => trivial)


-- slices.Equal[[]string,string]
theorem equalS_ok (a : List ByteArray) (b : List ByteArray) : Con Try.prog 54 [slS false a, slS false b] true (Bv (sameL a b)) := by
  refine fn_ok (fn := Try.f54) (nt := 26) Try.func54 rfl rfl rfl rfl (by simp [taggedL, tagged, tagS]) fun B hB => ?_
  refine aw_lens (x := slS false a) 0 rfl (fun len_a => ?_)
  simp [LenOK, LenL, cS, fS, slS] at len_a
  refine aw_lens (x := slS false b) 1 rfl (fun len_b => ?_)
  simp [LenOK, LenL, cS, fS, slS] at len_b
  refine aR [] [0, 1] [] [slS false a, slS false b] [] [] hB trivial ?_
  refine aw_seq ?_
  refine aw_seq ?_
  by_cases h1 : (a.length : Int) = (b.length : Int)
  ·have hlen : a.length = b.length := by omega
   refine aw_r [(4, .dec false)] [0, 1, 10] [] [slS false a, slS false b, Bv false] [] [¬ ((a.length : Int) ≠ (b.length : Int))] hB ⟨(fun hq => hq h1), trivial⟩ ?_
   refine ae_then ?_
   refine aw_false rfl ?_
   refine aw_skip ?_
   refine ae_then ?_
   refine aw_seq ?_
   refine aR [] [0, 1, 12, 13] [] [slS false a, slS false b, I (a.length : Int), I 0] [] [] hB trivial ?_
   refine aw_block ?_
   refine aw_loop (fun gn gσ => ∃ (t13 : Int), gn = ((a.length : Int) - t13).toNat ∧ (0 ≤ t13 ∧ t13 ≤ (a.length : Int)) ∧ (∀ j : Nat, (j : Int) < t13 → decide (at_ a j = at_ b j) = true) ∧ gσ = mkS [(0, slS false a), (1, slS false b), (12, I (a.length : Int)), (13, I t13)] []) (((a.length : Int) - 0).toNat) ⟨0, rfl, (by omega), (by intro j hj; omega), rfl⟩ (fun gn gσ hI => ?_)
   obtain ⟨t13, rfl, hi0, hall0, rfl⟩ := hI
   refine aw_seq ?_
   by_cases h2 : t13 < (a.length : Int)
   ·have hi : t13.toNat < a.length := by omega
    refine aw_r [(0, .dec true)] [0, 1, 12, 13, 14] [] [slS false a, slS false b, I (a.length : Int), I t13, Bv true] [] [t13 < (a.length : Int)] hB ⟨h2, trivial⟩ ?_
    refine ae_then ?_
    refine aw_seq ?_
    refine aw_true rfl ?_
    refine aw_skip ?_
    refine ae_then ?_
    refine aw_seq ?_
    refine aw_block ?_
    refine aR [] [0, 1, 5, 12, 13] [] [slS false a, slS false b, I t13, I (a.length : Int), I t13] [] [] hB trivial ?_
    refine aw_seq ?_
    by_cases h3 : (at_ a t13.toNat) = (at_ b t13.toNat)
    ·have hok : decide (at_ a t13.toNat = at_ b t13.toNat) = true := decide_eq_true h3
     refine aw_r [(8, .dec false)] [0, 1, 12, 13, 24] [] [slS false a, slS false b, I (a.length : Int), I t13, Bv false] [] [(0 : Int) ≤ t13 ∧ t13 < (a.length : Int), (0 : Int) ≤ t13 ∧ t13 < (b.length : Int), ¬ ((at_ a t13.toNat) ≠ (at_ b t13.toNat))] hB ⟨⟨(by omega), (by omega)⟩, ⟨(by omega), (by omega)⟩, (fun hq => hq h3), trivial⟩ ?_
     refine ae_then ?_
     refine aw_false rfl ?_
     refine aw_skip ?_
     refine ae_block 1 ?_
     refine ae_then ?_
     refine aw_r [] [0, 1, 12, 13] [] [slS false a, slS false b, I (a.length : Int), I (t13 + 1)] [] [inR .i64 (t13 + 1)] hB ⟨(inR_i64 (by omega) (by omega)), trivial⟩ ?_
     exact ae_again _ (by omega) ⟨(t13 + 1), rfl, (by omega), (by intro j hj; by_cases ej : j = t13.toNat; (subst ej; first | assumption | exact hok); exact hall0 j (by omega)), rfl⟩
    have hall : allN a.length (fun j => decide (at_ a j = at_ b j)) = false := allN_not hi (decide_eq_false h3)
    refine aw_r [(8, .dec true)] [0, 1, 12, 13, 24] [] [slS false a, slS false b, I (a.length : Int), I t13, Bv true] [] [(0 : Int) ≤ t13 ∧ t13 < (a.length : Int), (0 : Int) ≤ t13 ∧ t13 < (b.length : Int), (at_ a t13.toNat) ≠ (at_ b t13.toNat)] hB ⟨⟨(by omega), (by omega)⟩, ⟨(by omega), (by omega)⟩, h3, trivial⟩ ?_
    refine ae_then ?_
    refine aw_true rfl ?_
    refine aR [] [4] [] [Bv false] [] [] hB trivial ?_
    refine aw_ret ?_
    refine ae_ret_block (ae_ret_then (ae_ret_then (ae_ret_block (ae_ret_then ?_))))
    refine ae_ret hB (Bv false) (by kernel_rfl) (.inl (by first | (simp [sameL, hlen]; done) | (unfold sameL; rw [hall]; simp [hlen]))) rfl (fun _ => trivial)
   have hall : allN a.length (fun j => decide (at_ a j = at_ b j)) = true := allN_at (fun j hj => hall0 j (by omega))
   refine aw_r [(0, .dec false)] [0, 1, 12, 13, 14] [] [slS false a, slS false b, I (a.length : Int), I t13, Bv false] [] [¬ (t13 < (a.length : Int))] hB ⟨h2, trivial⟩ ?_
   refine ae_then ?_
   refine aw_seq ?_
   refine aw_false rfl ?_
   refine aw_exit ?_
   refine ae_exit_then ?_
   refine ae_exit_then ?_
   refine ae_exit_same ?_
   refine ae_then ?_
   refine aR [] [4] [] [Bv true] [] [] hB trivial ?_
   refine aw_ret ?_
   refine ae_ret hB (Bv true) (by kernel_rfl) (.inl (by first | (simp [sameL, hlen]; done) | (unfold sameL; rw [hall]; simp [hlen]))) rfl (fun _ => trivial)
  have hlen : ¬ a.length = b.length := by omega
  refine aw_r [(4, .dec true)] [0, 1, 10] [] [slS false a, slS false b, Bv true] [] [(a.length : Int) ≠ (b.length : Int)] hB ⟨h1, trivial⟩ ?_
  refine ae_then ?_
  refine aw_true rfl ?_
  refine aR [] [4] [] [Bv false] [] [] hB trivial ?_
  refine aw_ret ?_
  refine ae_ret_then ?_
  refine ae_ret hB (Bv false) (by kernel_rfl) (.inl (by first | (simp [sameL, hlen]; done) | (unfold sameL; rw [hall]; simp [hlen]))) rfl (fun _ => trivial)


-- slices.Equal[[]int64,int64]
theorem equalI_ok (a : List Int) (b : List Int) : Con Try.prog 56 [slI false a, slI false b] true (Bv (sameL a b)) := by
  refine fn_ok (fn := Try.f56) (nt := 26) Try.func56 rfl rfl rfl rfl (by simp [taggedL, tagged, tagI]) fun B hB => ?_
  refine aw_lens (x := slI false a) 0 rfl (fun len_a => ?_)
  simp [LenOK, LenL, cI, fI, slI] at len_a
  refine aw_lens (x := slI false b) 1 rfl (fun len_b => ?_)
  simp [LenOK, LenL, cI, fI, slI] at len_b
  refine aR [] [0, 1] [] [slI false a, slI false b] [] [] hB trivial ?_
  refine aw_seq ?_
  refine aw_seq ?_
  by_cases h1 : (a.length : Int) = (b.length : Int)
  ·have hlen : a.length = b.length := by omega
   refine aw_r [(4, .dec false)] [0, 1, 10] [] [slI false a, slI false b, Bv false] [] [¬ ((a.length : Int) ≠ (b.length : Int))] hB ⟨(fun hq => hq h1), trivial⟩ ?_
   refine ae_then ?_
   refine aw_false rfl ?_
   refine aw_skip ?_
   refine ae_then ?_
   refine aw_seq ?_
   refine aR [] [0, 1, 12, 13] [] [slI false a, slI false b, I (a.length : Int), I 0] [] [] hB trivial ?_
   refine aw_block ?_
   refine aw_loop (fun gn gσ => ∃ (t13 : Int), gn = ((a.length : Int) - t13).toNat ∧ (0 ≤ t13 ∧ t13 ≤ (a.length : Int)) ∧ (∀ j : Nat, (j : Int) < t13 → decide (at_ a j = at_ b j) = true) ∧ gσ = mkS [(0, slI false a), (1, slI false b), (12, I (a.length : Int)), (13, I t13)] []) (((a.length : Int) - 0).toNat) ⟨0, rfl, (by omega), (by intro j hj; omega), rfl⟩ (fun gn gσ hI => ?_)
   obtain ⟨t13, rfl, hi0, hall0, rfl⟩ := hI
   refine aw_seq ?_
   by_cases h2 : t13 < (a.length : Int)
   ·have hi : t13.toNat < a.length := by omega
    refine aw_r [(0, .dec true)] [0, 1, 12, 13, 14] [] [slI false a, slI false b, I (a.length : Int), I t13, Bv true] [] [t13 < (a.length : Int)] hB ⟨h2, trivial⟩ ?_
    refine ae_then ?_
    refine aw_seq ?_
    refine aw_true rfl ?_
    refine aw_skip ?_
    refine ae_then ?_
    refine aw_seq ?_
    refine aw_block ?_
    refine aR [] [0, 1, 5, 12, 13] [] [slI false a, slI false b, I t13, I (a.length : Int), I t13] [] [] hB trivial ?_
    refine aw_seq ?_
    by_cases h3 : (at_ a t13.toNat) = (at_ b t13.toNat)
    ·have hok : decide (at_ a t13.toNat = at_ b t13.toNat) = true := decide_eq_true h3
     refine aw_r [(8, .dec false)] [0, 1, 12, 13, 24] [] [slI false a, slI false b, I (a.length : Int), I t13, Bv false] [] [(0 : Int) ≤ t13 ∧ t13 < (a.length : Int), (0 : Int) ≤ t13 ∧ t13 < (b.length : Int), ¬ ((at_ a t13.toNat) ≠ (at_ b t13.toNat))] hB ⟨⟨(by omega), (by omega)⟩, ⟨(by omega), (by omega)⟩, (fun hq => hq h3), trivial⟩ ?_
     refine ae_then ?_
     refine aw_false rfl ?_
     refine aw_skip ?_
     refine ae_block 1 ?_
     refine ae_then ?_
     refine aw_r [] [0, 1, 12, 13] [] [slI false a, slI false b, I (a.length : Int), I (t13 + 1)] [] [inR .i64 (t13 + 1)] hB ⟨(inR_i64 (by omega) (by omega)), trivial⟩ ?_
     exact ae_again _ (by omega) ⟨(t13 + 1), rfl, (by omega), (by intro j hj; by_cases ej : j = t13.toNat; (subst ej; first | assumption | exact hok); exact hall0 j (by omega)), rfl⟩
    have hall : allN a.length (fun j => decide (at_ a j = at_ b j)) = false := allN_not hi (decide_eq_false h3)
    refine aw_r [(8, .dec true)] [0, 1, 12, 13, 24] [] [slI false a, slI false b, I (a.length : Int), I t13, Bv true] [] [(0 : Int) ≤ t13 ∧ t13 < (a.length : Int), (0 : Int) ≤ t13 ∧ t13 < (b.length : Int), (at_ a t13.toNat) ≠ (at_ b t13.toNat)] hB ⟨⟨(by omega), (by omega)⟩, ⟨(by omega), (by omega)⟩, h3, trivial⟩ ?_
    refine ae_then ?_
    refine aw_true rfl ?_
    refine aR [] [4] [] [Bv false] [] [] hB trivial ?_
    refine aw_ret ?_
    refine ae_ret_block (ae_ret_then (ae_ret_then (ae_ret_block (ae_ret_then ?_))))
    refine ae_ret hB (Bv false) (by kernel_rfl) (.inl (by first | (simp [sameL, hlen]; done) | (unfold sameL; rw [hall]; simp [hlen]))) rfl (fun _ => trivial)
   have hall : allN a.length (fun j => decide (at_ a j = at_ b j)) = true := allN_at (fun j hj => hall0 j (by omega))
   refine aw_r [(0, .dec false)] [0, 1, 12, 13, 14] [] [slI false a, slI false b, I (a.length : Int), I t13, Bv false] [] [¬ (t13 < (a.length : Int))] hB ⟨h2, trivial⟩ ?_
   refine ae_then ?_
   refine aw_seq ?_
   refine aw_false rfl ?_
   refine aw_exit ?_
   refine ae_exit_then ?_
   refine ae_exit_then ?_
   refine ae_exit_same ?_
   refine ae_then ?_
   refine aR [] [4] [] [Bv true] [] [] hB trivial ?_
   refine aw_ret ?_
   refine ae_ret hB (Bv true) (by kernel_rfl) (.inl (by first | (simp [sameL, hlen]; done) | (unfold sameL; rw [hall]; simp [hlen]))) rfl (fun _ => trivial)
  have hlen : ¬ a.length = b.length := by omega
  refine aw_r [(4, .dec true)] [0, 1, 10] [] [slI false a, slI false b, Bv true] [] [(a.length : Int) ≠ (b.length : Int)] hB ⟨h1, trivial⟩ ?_
  refine ae_then ?_
  refine aw_true rfl ?_
  refine aR [] [4] [] [Bv false] [] [] hB trivial ?_
  refine aw_ret ?_
  refine ae_ret_then ?_
  refine ae_ret hB (Bv false) (by kernel_rfl) (.inl (by first | (simp [sameL, hlen]; done) | (unfold sameL; rw [hall]; simp [hlen]))) rfl (fun _ => trivial)


-- impl.SamePerceptron
theorem equalRows_ok (s1 : List (List Int)) (s2 : List (List Int)) : Con Try.prog 55 [slLI false s1, slLI false s2, .fn 56 []] true (Bv (decide (s1.length = s2.length) && allN s1.length (fun j => sameL (at_ s1 j) (at_ s2 j)))) := by
  refine fn_ok (fn := Try.f55) (nt := 32) Try.func55 rfl rfl rfl rfl (by simp [taggedL, tagged, tagLI]) fun B hB => ?_
  refine aw_lens (x := slLI false s1) 0 rfl (fun len_s1 => ?_)
  simp [LenOK, LenL, cI, cLI, fI, fLI, slI, slLI] at len_s1
  refine aw_lens (x := slLI false s2) 1 rfl (fun len_s2 => ?_)
  simp [LenOK, LenL, cI, cLI, fI, fLI, slI, slLI] at len_s2
  refine aR [] [0, 1, 2] [] [slLI false s1, slLI false s2, .fn 56 []] [] [] hB trivial ?_
  refine aw_seq ?_
  refine aw_seq ?_
  by_cases h1 : (s1.length : Int) = (s2.length : Int)
  ·have hle :  s1.length = s2.length := by omega
   refine aw_r [(4, .dec false)] [0, 1, 2, 14] [] [slLI false s1, slLI false s2, .fn 56 [], Bv false] [] [¬ ((s1.length : Int) ≠ (s2.length : Int))] hB ⟨(fun hq => hq h1), trivial⟩ ?_
   refine ae_then ?_
   refine aw_false rfl ?_
   refine aw_skip ?_
   refine ae_then ?_
   refine aw_seq ?_
   refine aR [] [1, 2, 15, 16, 17] [] [slLI false s2, .fn 56 [], slLI false s1, I (s1.length : Int), I 0] [] [] hB trivial ?_
   refine aw_block ?_
   refine aw_loop (fun gn gσ => ∃ (t17 : Int), gn = ((s1.length : Int) - t17).toNat ∧ (0 ≤ t17 ∧ t17 ≤ (s1.length : Int)) ∧ (∀ j : Nat, (j : Int) < t17 → sameL (at_ s1 j) (at_ s2 j) = true) ∧ gσ = mkS [(1, slLI false s2), (2, .fn 56 []), (15, slLI false s1), (16, I (s1.length : Int)), (17, I t17)] []) (((s1.length : Int) - 0).toNat) ⟨0, rfl, (by omega), (by intro j hj; omega), rfl⟩ (fun gn gσ hI => ?_)
   obtain ⟨t17, rfl, hi0, hall0, rfl⟩ := hI
   refine aw_seq ?_
   by_cases h2 : t17 < (s1.length : Int)
   ·have hi : t17.toNat < s1.length := by omega
    have hi2 : t17.toNat < s2.length := by omega
    refine aw_r [(0, .dec true)] [1, 2, 15, 16, 17, 18] [] [slLI false s2, .fn 56 [], slLI false s1, I (s1.length : Int), I t17, Bv true] [] [t17 < (s1.length : Int)] hB ⟨h2, trivial⟩ ?_
    refine ae_then ?_
    refine aw_seq ?_
    refine aw_true rfl ?_
    refine aw_skip ?_
    refine ae_then ?_
    refine aw_seq ?_
    refine aw_block ?_
    refine aR [] [1, 2, 7, 8, 15, 16, 17] [] [slLI false s2, .fn 56 [], I t17, slI false (at_ s1 t17.toNat), slLI false s1, I (s1.length : Int), I t17] [] [(0 : Int) ≤ t17 ∧ t17 < (s1.length : Int)] hB ⟨⟨(by omega), (by omega)⟩, trivial⟩ ?_
    refine aR [] [1, 2, 8, 9, 15, 16, 17] [] [slLI false s2, .fn 56 [], slI false (at_ s1 t17.toNat), slI false (at_ s2 t17.toNat), slLI false s1, I (s1.length : Int), I t17] [] [(0 : Int) ≤ t17 ∧ t17 < (s2.length : Int)] hB ⟨⟨(by omega), (by omega)⟩, trivial⟩ ?_
    refine aw_seq ?_
    rcases Bool.eq_false_or_eq_true (sameL (at_ s1 t17.toNat) (at_ s2 t17.toNat)) with h3 | h3
    ·refine aw_r [(3, .call [(true, .any), (true, .any)] true (Bv true))] [1, 2, 15, 16, 17, 30] [] [slLI false s2, .fn 56 [], slLI false s1, I (s1.length : Int), I t17, Bv false] [] [Con Try.prog 56 [slI false (at_ s1 t17.toNat), slI false (at_ s2 t17.toNat)] true (Bv true) ∧ True] hB ⟨⟨(con_bool h3 (equalI_ok (at_ s1 t17.toNat) (at_ s2 t17.toNat))), trivial⟩, trivial⟩ ?_
     refine ae_then ?_
     refine aw_false rfl ?_
     refine aw_skip ?_
     refine ae_block 1 ?_
     refine ae_then ?_
     refine aw_r [] [1, 2, 15, 16, 17] [] [slLI false s2, .fn 56 [], slLI false s1, I (s1.length : Int), I (t17 + 1)] [] [inR .i64 (t17 + 1)] hB ⟨(inR_i64 (by omega) (by omega)), trivial⟩ ?_
     exact ae_again _ (by omega) ⟨(t17 + 1), rfl, (by omega), (by intro j hj; by_cases ej : j = t17.toNat; (subst ej; assumption); exact hall0 j (by omega)), rfl⟩
    have hfin : allN s1.length (fun j => sameL (at_ s1 j) (at_ s2 j)) = false := allN_not hi h3
    refine aw_r [(3, .call [(true, .any), (true, .any)] true (Bv false))] [1, 2, 15, 16, 17, 30] [] [slLI false s2, .fn 56 [], slLI false s1, I (s1.length : Int), I t17, Bv true] [] [Con Try.prog 56 [slI false (at_ s1 t17.toNat), slI false (at_ s2 t17.toNat)] true (Bv false) ∧ True] hB ⟨⟨(con_bool h3 (equalI_ok (at_ s1 t17.toNat) (at_ s2 t17.toNat))), trivial⟩, trivial⟩ ?_
    refine ae_then ?_
    refine aw_true rfl ?_
    refine aR [] [6] [] [Bv false] [] [] hB trivial ?_
    refine aw_ret ?_
    refine ae_ret_block (ae_ret_then (ae_ret_then (ae_ret_block (ae_ret_then ?_))))
    refine ae_ret hB (Bv false) (by kernel_rfl) (.inl (by refine congrArg Bv ?_; first | (rw [hfin, decide_eq_true hle]; rfl) | (rw [hfin, Bool.and_false]) | (rw [decide_eq_false hle, Bool.false_and]))) rfl (fun _ => trivial)
   have hfin : allN s1.length (fun j => sameL (at_ s1 j) (at_ s2 j)) = true := allN_at (fun j hj => hall0 j (by omega))
   have hle : s1.length = s2.length := by omega
   refine aw_r [(0, .dec false)] [1, 2, 15, 16, 17, 18] [] [slLI false s2, .fn 56 [], slLI false s1, I (s1.length : Int), I t17, Bv false] [] [¬ (t17 < (s1.length : Int))] hB ⟨h2, trivial⟩ ?_
   refine ae_then ?_
   refine aw_seq ?_
   refine aw_false rfl ?_
   refine aw_exit ?_
   refine ae_exit_then ?_
   refine ae_exit_then ?_
   refine ae_exit_same ?_
   refine ae_then ?_
   refine aR [] [6] [] [Bv true] [] [] hB trivial ?_
   refine aw_ret ?_
   refine ae_ret hB (Bv true) (by kernel_rfl) (.inl (by refine congrArg Bv ?_; first | (rw [hfin, decide_eq_true hle]; rfl) | (rw [hfin, Bool.and_false]) | (rw [decide_eq_false hle, Bool.false_and]))) rfl (fun _ => trivial)
  have hle : ¬ s1.length = s2.length := by omega
  refine aw_r [(4, .dec true)] [0, 1, 2, 14] [] [slLI false s1, slLI false s2, .fn 56 [], Bv true] [] [(s1.length : Int) ≠ (s2.length : Int)] hB ⟨h1, trivial⟩ ?_
  refine ae_then ?_
  refine aw_true rfl ?_
  refine aR [] [6] [] [Bv false] [] [] hB trivial ?_
  refine aw_ret ?_
  refine ae_ret_then ?_
  refine ae_ret hB (Bv false) (by kernel_rfl) (.inl (by refine congrArg Bv ?_; first | (rw [hfin, decide_eq_true hle]; rfl) | (rw [hfin, Bool.and_false]) | (rw [decide_eq_false hle, Bool.false_and]))) rfl (fun _ => trivial)

theorem implSamePerceptron_ok (a : Perceptron) (b : Perceptron) : Con Try.prog 17 [agPerceptron a, agPerceptron b] true (Bv (sameP a b)) := by
  refine fn_ok (fn := Try.f17) (nt := 17) Try.func17 rfl rfl rfl rfl (by simp [taggedL, tagged, tagLI, tagS]) fun B hB => ?_
  refine aw_lens (x := agPerceptron a) 0 rfl (fun len_a => ?_)
  simp [LenOK, LenL, cI, cLI, cS, fI, fLI, fS, slI, slLI, slS] at len_a
  refine aw_lens (x := agPerceptron b) 1 rfl (fun len_b => ?_)
  simp [LenOK, LenL, cI, cLI, cS, fI, fLI, fS, slI, slLI, slS] at len_b
  refine aR [(0, .new 2), (1, .new 3)] [2, 3] [2, 3] [.ref 2 0, .ref 3 0] [some (bxPerceptron a), some (bxPerceptron b)] [] hB trivial ?_
  refine aw_seq ?_
  rcases Bool.eq_false_or_eq_true (sameL a.Labels b.Labels) with h1 | h1
  ·refine aw_r [(4, .call [(true, .any), (true, .any)] true (Bv true)), (10, .call [(true, .any), (true, .any), (true, .any)] true (Bv (decide (a.Weights.length = b.Weights.length) && allN a.Weights.length (fun j => sameL (at_ a.Weights j) (at_ b.Weights j)))))] [4] [] [Bv (decide (a.Weights.length = b.Weights.length) && allN a.Weights.length (fun j => sameL (at_ a.Weights j) (at_ b.Weights j)))] [] [Con Try.prog 54 [slS false a.Labels, slS false b.Labels] true (Bv true) ∧ True, Con Try.prog 55 [slLI false a.Weights, slLI false b.Weights, .fn 56 []] true (Bv (decide (a.Weights.length = b.Weights.length) && allN a.Weights.length (fun j => sameL (at_ a.Weights j) (at_ b.Weights j)))) ∧ True] hB ⟨⟨(con_bool h1 (equalS_ok a.Labels b.Labels)), trivial⟩, ⟨(equalRows_ok a.Weights b.Weights), trivial⟩, trivial⟩ ?_
   refine ae_then ?_
   refine aw_ret ?_
   refine ae_ret hB (Bv (decide (a.Weights.length = b.Weights.length) && allN a.Weights.length (fun j => sameL (at_ a.Weights j) (at_ b.Weights j)))) (by kernel_rfl) (.inl (by refine congrArg Bv ?_; unfold sameP; first | (rw [show sameL a.Labels b.Labels = false from by assumption]; rfl) | (rw [show sameL a.Labels b.Labels = true from by assumption]; rfl))) rfl (fun _ => trivial)
  refine aw_r [(4, .call [(true, .any), (true, .any)] true (Bv false))] [4] [] [Bv false] [] [Con Try.prog 54 [slS false a.Labels, slS false b.Labels] true (Bv false) ∧ True] hB ⟨⟨(con_bool h1 (equalS_ok a.Labels b.Labels)), trivial⟩, trivial⟩ ?_
  refine ae_then ?_
  refine aw_ret ?_
  refine ae_ret hB (Bv false) (by kernel_rfl) (.inl (by refine congrArg Bv ?_; unfold sameP; first | (rw [show sameL a.Labels b.Labels = false from by assumption]; rfl) | (rw [show sameL a.Labels b.Labels = true from by assumption]; rfl))) rfl (fun _ => trivial)


-- impl.InputOf
theorem implInputOf_ok (feats : List Feat) : ∃ (v : List Int) (c : Int), ((v, c) = inoR feats) ∧ Con Try.prog 18 [slFeat false feats] true (.tup [slI true v, I c]) := by
  have hh : ∃ r : (List Int) × Int, (((r.1, r.2) = inoR feats) ∧ (True)) ∧ CallOK Try.prog 18 [slFeat false feats] (lookO []) true (.tup [slI true r.1, I r.2]) (lookO []) := by
    refine fn_okX (Φ := fun r : (List Int) × Int => ((r.1, r.2) = inoR feats) ∧ (True)) [] (fun r => []) (fn := Try.f18) (nt := 9) Try.func18 rfl rfl (args := [slFeat false feats]) rfl (allcons (.inl ⟨rfl, tagFeat false _⟩) allnil) (res := fun r => .tup [slI true r.1, I r.2]) ?_
    refine xR [] [0] [] [slFeat false feats] [] [] trivial ?_
    refine x_seq ?_
    refine x_seq ?_
    rcases Bool.eq_false_or_eq_true (okFeats feats 384) with h1 | h1
    ·refine x_r [(1, .call [(true, .any)] true (Bv true))] [0, 6] [] [slFeat false feats, Bv false] [] [Con Try.prog 35 [slFeat false feats] true (Bv true) ∧ True] ⟨⟨(con_bool h1 (ValidFeats_ok feats)), trivial⟩, trivial⟩ ?_
     refine xe_then ?_
     refine x_false rfl ?_
     refine x_skip ?_
     refine xe_then ?_
     refine x_seq ?_
     obtain ⟨v_1, hx1_0, hc1⟩ := inputOf_ok feats (by assumption)
     refine x_r [(1, .call [(true, .any)] true (slI true v_1))] [2, 3] [] [slI true v_1, I 0] [] [Con Try.prog 37 [slFeat false feats] true (slI true v_1) ∧ True] ⟨⟨hc1, trivial⟩, trivial⟩ ?_
     refine xe_then ?_
     refine x_ret ?_
     refine xe_end (v_1, 0) (show ((v_1, 0) = inoR feats) ∧ (True) from ⟨(by first | (rw [hx1_0]; exact (if_pos (by assumption)).symm) | exact (if_neg (fun q => by simp_all)).symm), trivial⟩) (trivial) (.tup [slI true v_1, I 0]) (by kernel_rfl) (.inl rfl) (fun _ => rfl) (fun _ => (by simp [tagged, taggedL, tagI]))
    refine x_r [(1, .call [(true, .any)] true (Bv false))] [0, 6] [] [slFeat false feats, Bv true] [] [Con Try.prog 35 [slFeat false feats] true (Bv false) ∧ True] ⟨⟨(con_bool h1 (ValidFeats_ok feats)), trivial⟩, trivial⟩ ?_
    refine xe_then ?_
    refine x_true rfl ?_
    refine xR [] [2, 3] [] [nilA, I 1] [] [] trivial ?_
    refine x_ret ?_
    refine xe_ret_then ?_
    refine xe_end (([] : List Int), 1) (show ((([] : List Int), 1) = inoR feats) ∧ (True) from ⟨(by first | (rw [hx1_0]; exact (if_pos (by assumption)).symm) | exact (if_neg (fun q => by simp_all)).symm), trivial⟩) (trivial) (.tup [nilA, I 1]) (by kernel_rfl) (.inr ⟨⟨rfl, rfl⟩, ⟨rfl, rfl⟩⟩) (fun _ => rfl) (fun _ => (by simp [tagged, taggedL, tagI]))
  obtain ⟨⟨v, c⟩, ⟨hh0, _⟩, hc⟩ := hh
  exact ⟨v, c, hh0, hc⟩


-- spec.InputOf
theorem specInputOf_ok (feats : List Feat) : ∃ (v : List Int) (c : Int), ((v, c) = inoR feats) ∧ Con Try.prog 19 [slFeat false feats] true (.tup [slI true v, I c]) := by
  have hh : ∃ r : (List Int) × Int, (((r.1, r.2) = inoR feats) ∧ (True)) ∧ CallOK Try.prog 19 [slFeat false feats] (lookO []) true (.tup [slI true r.1, I r.2]) (lookO []) := by
    refine fn_okX (Φ := fun r : (List Int) × Int => ((r.1, r.2) = inoR feats) ∧ (True)) [] (fun r => []) (fn := Try.f19) (nt := 9) Try.func19 rfl rfl (args := [slFeat false feats]) rfl (allcons (.inl ⟨rfl, tagFeat false _⟩) allnil) (res := fun r => .tup [slI true r.1, I r.2]) ?_
    refine xR [] [0] [] [slFeat false feats] [] [] trivial ?_
    refine x_seq ?_
    refine x_seq ?_
    rcases Bool.eq_false_or_eq_true (okFeats feats 384) with h1 | h1
    ·refine x_r [(1, .call [(true, .any)] true (Bv true))] [0, 6] [] [slFeat false feats, Bv false] [] [Con Try.prog 39 [slFeat false feats] true (Bv true) ∧ True] ⟨⟨(con_bool h1 (l08Ok_ok feats)), trivial⟩, trivial⟩ ?_
     refine xe_then ?_
     refine x_false rfl ?_
     refine x_skip ?_
     refine xe_then ?_
     refine x_seq ?_
     obtain ⟨v_1, hx1_0, hc1⟩ := l12Input_ok feats (by assumption)
     refine x_r [(1, .call [(true, .any)] true (slI true v_1))] [2, 3] [] [slI true v_1, I 0] [] [Con Try.prog 41 [slFeat false feats] true (slI true v_1) ∧ True] ⟨⟨hc1, trivial⟩, trivial⟩ ?_
     refine xe_then ?_
     refine x_ret ?_
     refine xe_end (v_1, 0) (show ((v_1, 0) = inoR feats) ∧ (True) from ⟨(by first | (rw [hx1_0]; exact (if_pos (by assumption)).symm) | exact (if_neg (fun q => by simp_all)).symm), trivial⟩) (trivial) (.tup [slI true v_1, I 0]) (by kernel_rfl) (.inl rfl) (fun _ => rfl) (fun _ => (by simp [tagged, taggedL, tagI]))
    refine x_r [(1, .call [(true, .any)] true (Bv false))] [0, 6] [] [slFeat false feats, Bv true] [] [Con Try.prog 39 [slFeat false feats] true (Bv false) ∧ True] ⟨⟨(con_bool h1 (l08Ok_ok feats)), trivial⟩, trivial⟩ ?_
    refine xe_then ?_
    refine x_true rfl ?_
    refine xR [] [2, 3] [] [nilA, I 1] [] [] trivial ?_
    refine x_ret ?_
    refine xe_ret_then ?_
    refine xe_end (([] : List Int), 1) (show ((([] : List Int), 1) = inoR feats) ∧ (True) from ⟨(by first | (rw [hx1_0]; exact (if_pos (by assumption)).symm) | exact (if_neg (fun q => by simp_all)).symm), trivial⟩) (trivial) (.tup [nilA, I 1]) (by kernel_rfl) (.inr ⟨⟨rfl, rfl⟩, ⟨rfl, rfl⟩⟩) (fun _ => rfl) (fun _ => (by simp [tagged, taggedL, tagI]))
  obtain ⟨⟨v, c⟩, ⟨hh0, _⟩, hc⟩ := hh
  exact ⟨v, c, hh0, hc⟩


theorem two_eq {α β : Type} {a c : α} {b d : β} {z : α × β} (h1 : (a, b) = z) (h2 : (c, d) = z) : a = c ∧ b = d := by
  subst h1; exact ⟨(congrArg Prod.fst h2).symm, (congrArg Prod.snd h2).symm⟩
theorem three_eq {α β γ : Type} {a c : α} {a' c' : β} {b d : γ} {z : (α × β) × γ} (h1 : ((a, a'), b) = z) (h2 : ((c, c'), d) = z) : a = c ∧ a' = c' ∧ b = d := by
  subst h1; exact ⟨(congrArg (fun q => q.1.1) h2).symm, (congrArg (fun q => q.1.2) h2).symm, (congrArg Prod.snd h2).symm⟩
theorem sameL_of {α : Type} [Inhabited α] [DecidableEq α] {a b : List α} (h : a = b) : sameL a b = true := by subst h; exact sameL_refl _
theorem sameP_of {a b : Perceptron} (h : a = b) : sameP a b = true := by subst h; exact sameP_refl _
theorem ino_ok {fs : List Feat} {v : List Int} {c : Int} (e : (v, c) = inoR fs) (h : okFeats fs 384 = true) : v = inpR fs := by
  unfold inoR at e
  rw [if_pos h, Prod.mk.injEq] at e
  exact e.1
theorem cls_nn {p : Perceptron} {fs : List Feat} {l : ByteArray} {m c : Int} (e : ((l, m), c) = clsR p fs) : 0 ≤ m := by
  have : m = (clsR p fs).1.2 := by rw [← e]
  rw [this]
  unfold clsR
  split
  · show 0 ≤ mgI _; unfold mgI; omega
  · exact Int.le_refl _

-- laws.FnClasses
theorem fnClasses_con (code : List Int) (ok_code : ∀ y ∈ code, inR .u8 y) : Con Try.prog 3 [slU8 false code] true (Bv true) := by
  refine fn_ok (fn := Try.f3) (nt := 179) Try.func3 rfl rfl rfl rfl (by simp [taggedL, tagged, tagU8]) fun B hB => ?_
  refine aw_lens (x := slU8 false code) 0 rfl (fun len_code => ?_)
  simp [LenOK, LenL, cU8, fU8, slU8] at len_code
  refine aR [] [0] [] [slU8 false code] [] [] hB trivial ?_
  refine aw_seq ?_
  refine aw_seq ?_
  rcases Bool.eq_false_or_eq_true (decide (4096 < (code.length : Int))) with h1 | h1
  ·refine aw_r [(1, .call [(true, .any)] true (Bv true))] [0, 30] [] [slU8 false code, Bv true] [] [Con Try.prog 5 [slU8 false code] true (Bv true) ∧ True] hB ⟨⟨(con_bool h1 (f6big_ok code)), trivial⟩, trivial⟩ ?_
   refine ae_then ?_
   refine aw_true rfl ?_
   refine aR [] [2] [] [Bv true] [] [] hB trivial ?_
   refine aw_ret ?_
   refine ae_ret_then ?_
   refine ae_ret hB (Bv true) (by kernel_rfl) (.inl rfl) rfl (fun _ => trivial)
  have hc : (∀ j, j < code.length → 0 ≤ at_ code j ∧ at_ code j ≤ 255) ∧ code.length ≤ 4611686018427387904 := ⟨fun j hj => ok_code _ (at_mem hj), by first | omega | (simp at h1; omega)⟩
  refine aw_r [(1, .call [(true, .any)] true (Bv false))] [0, 30] [] [slU8 false code, Bv false] [] [Con Try.prog 5 [slU8 false code] true (Bv false) ∧ True] hB ⟨⟨(con_bool h1 (f6big_ok code)), trivial⟩, trivial⟩ ?_
  refine ae_then ?_
  refine aw_false rfl ?_
  refine aw_skip ?_
  refine ae_then ?_
  refine aw_seq ?_
  obtain ⟨p_1, fs_1, hx1_0, hx1_1, hc1⟩ := DrawScoresOf_ok code (by assumption)
  have hdr := hx1_0
  have hfl := hx1_1
  have hsz : ∀ y ∈ p_1.Labels, y.size ≤ 9223372036854775807 := fun y hy => by have := hdr.2.1 y hy; omega
  refine aw_r [(1, .call [(true, .any)] true (.tup [agPerceptronT p_1, slFeat true fs_1])), (5, .new 3)] [0, 3, 4] [3] [slU8 false code, .ref 3 0, slFeat true fs_1] [some (bxPerceptronT p_1)] [Con Try.prog 6 [slU8 false code] true (.tup [agPerceptronT p_1, slFeat true fs_1]) ∧ True] hB ⟨⟨hc1, trivial⟩, trivial⟩ ?_
  refine ae_then ?_
  refine aw_seq ?_
  obtain ⟨v_2, c_2, hx2_0, hc2⟩ := implScoresOf_ok p_1 fs_1 hsz
  have hsc := hx2_0
  refine aw_r [(2, .call [(false, agPerceptron p_1), (false, slFeat false fs_1)] true (.tup [slI true v_2, I c_2]))] [0, 3, 4, 5, 6] [3] [slU8 false code, .ref 3 0, slFeat true fs_1, slI true v_2, I c_2] [some (bxPerceptronT p_1)] [Con Try.prog 7 [agPerceptron p_1, slFeat false fs_1] true (.tup [slI true v_2, I c_2]) ∧ (((false = true → true = true) ∧ 1 = 1 ∧ p_1.Labels.length = p_1.Labels.length ∧ ∀ i_, i_ < p_1.Labels.length → (fS p_1.Labels) i_ = (fS p_1.Labels) i_ ∨ (AV.idsL ((fS p_1.Labels) i_) = [] ∧ leL (fun _ => none) false ((fS p_1.Labels) i_) ((fS p_1.Labels) i_))) ∧ ((false = true → true = true) ∧ 1 = 1 ∧ p_1.Weights.length = p_1.Weights.length ∧ ∀ i_, i_ < p_1.Weights.length → (fLI true p_1.Weights) i_ = (fLI false p_1.Weights) i_ ∨ (AV.idsL ((fLI false p_1.Weights) i_) = [] ∧ leL (fun _ => none) false ((fLI true p_1.Weights) i_) ((fLI false p_1.Weights) i_))) ∧ ([] : List AV) = []) ∧ ((false = true → true = true) ∧ 3 = 3 ∧ fs_1.length = fs_1.length ∧ ∀ i_, i_ < fs_1.length → (fFeat fs_1) i_ = (fFeat fs_1) i_ ∨ (AV.idsL ((fFeat fs_1) i_) = [] ∧ leL (fun _ => none) false ((fFeat fs_1) i_) ((fFeat fs_1) i_))) ∧ True] hB ⟨⟨hc2, ⟨⟨(fun h => by cases h), rfl, rfl, fun i _ => .inl rfl⟩, ⟨⟨(fun h => by cases h), rfl, rfl, fun i _ => .inr ⟨idsLI _ _, leLI _ _ _⟩⟩, rfl⟩⟩, ⟨(fun h => by cases h), rfl, rfl, fun i _ => .inl rfl⟩, trivial⟩, trivial⟩ ?_
  refine ae_then ?_
  refine aw_seq ?_
  obtain ⟨v_3, c_3, hx3_0, hc3⟩ := specScoresOf_ok p_1 fs_1 hsz
  have he1 := two_eq hsc hx3_0
  refine aw_r [(2, .call [(false, agPerceptron p_1), (false, slFeat false fs_1)] true (.tup [slI true v_3, I c_3]))] [0, 3, 4, 5, 6, 7, 8] [3] [slU8 false code, .ref 3 0, slFeat true fs_1, slI true v_2, I c_2, slI true v_3, I c_3] [some (bxPerceptronT p_1)] [Con Try.prog 8 [agPerceptron p_1, slFeat false fs_1] true (.tup [slI true v_3, I c_3]) ∧ (((false = true → true = true) ∧ 1 = 1 ∧ p_1.Labels.length = p_1.Labels.length ∧ ∀ i_, i_ < p_1.Labels.length → (fS p_1.Labels) i_ = (fS p_1.Labels) i_ ∨ (AV.idsL ((fS p_1.Labels) i_) = [] ∧ leL (fun _ => none) false ((fS p_1.Labels) i_) ((fS p_1.Labels) i_))) ∧ ((false = true → true = true) ∧ 1 = 1 ∧ p_1.Weights.length = p_1.Weights.length ∧ ∀ i_, i_ < p_1.Weights.length → (fLI true p_1.Weights) i_ = (fLI false p_1.Weights) i_ ∨ (AV.idsL ((fLI false p_1.Weights) i_) = [] ∧ leL (fun _ => none) false ((fLI true p_1.Weights) i_) ((fLI false p_1.Weights) i_))) ∧ ([] : List AV) = []) ∧ ((false = true → true = true) ∧ 3 = 3 ∧ fs_1.length = fs_1.length ∧ ∀ i_, i_ < fs_1.length → (fFeat fs_1) i_ = (fFeat fs_1) i_ ∨ (AV.idsL ((fFeat fs_1) i_) = [] ∧ leL (fun _ => none) false ((fFeat fs_1) i_) ((fFeat fs_1) i_))) ∧ True] hB ⟨⟨hc3, ⟨⟨(fun h => by cases h), rfl, rfl, fun i _ => .inl rfl⟩, ⟨⟨(fun h => by cases h), rfl, rfl, fun i _ => .inr ⟨idsLI _ _, leLI _ _ _⟩⟩, rfl⟩⟩, ⟨(fun h => by cases h), rfl, rfl, fun i _ => .inl rfl⟩, trivial⟩, trivial⟩ ?_
  refine ae_then ?_
  refine aw_seq ?_
  obtain ⟨l_4, m_4, c_4, hx4_0, hc4⟩ := implClassify_ok p_1 fs_1 hsz
  have hcl := hx4_0
  have hnn := cls_nn hcl
  refine aw_r [(2, .call [(false, agPerceptron p_1), (false, slFeat false fs_1)] true (.tup [Sv l_4, I m_4, I c_4]))] [0, 3, 4, 5, 6, 7, 8, 9, 10, 11] [3] [slU8 false code, .ref 3 0, slFeat true fs_1, slI true v_2, I c_2, slI true v_3, I c_3, Sv l_4, I m_4, I c_4] [some (bxPerceptronT p_1)] [Con Try.prog 9 [agPerceptron p_1, slFeat false fs_1] true (.tup [Sv l_4, I m_4, I c_4]) ∧ (((false = true → true = true) ∧ 1 = 1 ∧ p_1.Labels.length = p_1.Labels.length ∧ ∀ i_, i_ < p_1.Labels.length → (fS p_1.Labels) i_ = (fS p_1.Labels) i_ ∨ (AV.idsL ((fS p_1.Labels) i_) = [] ∧ leL (fun _ => none) false ((fS p_1.Labels) i_) ((fS p_1.Labels) i_))) ∧ ((false = true → true = true) ∧ 1 = 1 ∧ p_1.Weights.length = p_1.Weights.length ∧ ∀ i_, i_ < p_1.Weights.length → (fLI true p_1.Weights) i_ = (fLI false p_1.Weights) i_ ∨ (AV.idsL ((fLI false p_1.Weights) i_) = [] ∧ leL (fun _ => none) false ((fLI true p_1.Weights) i_) ((fLI false p_1.Weights) i_))) ∧ ([] : List AV) = []) ∧ ((false = true → true = true) ∧ 3 = 3 ∧ fs_1.length = fs_1.length ∧ ∀ i_, i_ < fs_1.length → (fFeat fs_1) i_ = (fFeat fs_1) i_ ∨ (AV.idsL ((fFeat fs_1) i_) = [] ∧ leL (fun _ => none) false ((fFeat fs_1) i_) ((fFeat fs_1) i_))) ∧ True] hB ⟨⟨hc4, ⟨⟨(fun h => by cases h), rfl, rfl, fun i _ => .inl rfl⟩, ⟨⟨(fun h => by cases h), rfl, rfl, fun i _ => .inr ⟨idsLI _ _, leLI _ _ _⟩⟩, rfl⟩⟩, ⟨(fun h => by cases h), rfl, rfl, fun i _ => .inl rfl⟩, trivial⟩, trivial⟩ ?_
  refine ae_then ?_
  refine aw_seq ?_
  obtain ⟨l_5, m_5, c_5, hx5_0, hc5⟩ := specClassify_ok p_1 fs_1 hsz
  have he2 := three_eq hcl hx5_0
  refine aw_r [(2, .call [(false, agPerceptron p_1), (false, slFeat false fs_1)] true (.tup [Sv l_5, I m_5, I c_5]))] [0, 3, 4, 5, 6, 7, 8, 9, 10, 11, 12, 13, 14] [3] [slU8 false code, .ref 3 0, slFeat true fs_1, slI true v_2, I c_2, slI true v_3, I c_3, Sv l_4, I m_4, I c_4, Sv l_5, I m_5, I c_5] [some (bxPerceptronT p_1)] [Con Try.prog 10 [agPerceptron p_1, slFeat false fs_1] true (.tup [Sv l_5, I m_5, I c_5]) ∧ (((false = true → true = true) ∧ 1 = 1 ∧ p_1.Labels.length = p_1.Labels.length ∧ ∀ i_, i_ < p_1.Labels.length → (fS p_1.Labels) i_ = (fS p_1.Labels) i_ ∨ (AV.idsL ((fS p_1.Labels) i_) = [] ∧ leL (fun _ => none) false ((fS p_1.Labels) i_) ((fS p_1.Labels) i_))) ∧ ((false = true → true = true) ∧ 1 = 1 ∧ p_1.Weights.length = p_1.Weights.length ∧ ∀ i_, i_ < p_1.Weights.length → (fLI true p_1.Weights) i_ = (fLI false p_1.Weights) i_ ∨ (AV.idsL ((fLI false p_1.Weights) i_) = [] ∧ leL (fun _ => none) false ((fLI true p_1.Weights) i_) ((fLI false p_1.Weights) i_))) ∧ ([] : List AV) = []) ∧ ((false = true → true = true) ∧ 3 = 3 ∧ fs_1.length = fs_1.length ∧ ∀ i_, i_ < fs_1.length → (fFeat fs_1) i_ = (fFeat fs_1) i_ ∨ (AV.idsL ((fFeat fs_1) i_) = [] ∧ leL (fun _ => none) false ((fFeat fs_1) i_) ((fFeat fs_1) i_))) ∧ True] hB ⟨⟨hc5, ⟨⟨(fun h => by cases h), rfl, rfl, fun i _ => .inl rfl⟩, ⟨⟨(fun h => by cases h), rfl, rfl, fun i _ => .inr ⟨idsLI _ _, leLI _ _ _⟩⟩, rfl⟩⟩, ⟨(fun h => by cases h), rfl, rfl, fun i _ => .inl rfl⟩, trivial⟩, trivial⟩ ?_
  refine ae_then ?_
  refine aw_seq ?_
  obtain ⟨v_6, hx6_0, hc6⟩ := DrawNewPerceptron_ok code (by assumption)
  have hsn : ∀ y ∈ v_6, y.size ≤ 9223372036854775807 := fun y hy => by have := hx6_0.2 y hy; omega
  refine aw_r [(1, .call [(true, .any)] true (slS true v_6))] [0, 3, 4, 5, 6, 7, 8, 9, 10, 11, 12, 13, 14, 15] [3] [slU8 false code, .ref 3 0, slFeat true fs_1, slI true v_2, I c_2, slI true v_3, I c_3, Sv l_4, I m_4, I c_4, Sv l_5, I m_5, I c_5, slS true v_6] [some (bxPerceptronT p_1)] [Con Try.prog 11 [slU8 false code] true (slS true v_6) ∧ True] hB ⟨⟨hc6, trivial⟩, trivial⟩ ?_
  refine ae_then ?_
  refine aw_seq ?_
  obtain ⟨v_7, c_7, hx7_0, hc7⟩ := implNewPerceptron_ok v_6 hsn
  have hnp := hx7_0
  refine aw_r [(1, .call [(false, slS false v_6)] true (.tup [agPerceptronT v_7, I c_7])), (5, .new 16)] [0, 3, 4, 5, 6, 7, 8, 9, 10, 11, 12, 13, 14, 15, 16, 17] [3, 16] [slU8 false code, .ref 3 0, slFeat true fs_1, slI true v_2, I c_2, slI true v_3, I c_3, Sv l_4, I m_4, I c_4, Sv l_5, I m_5, I c_5, slS true v_6, .ref 16 0, I c_7] [some (bxPerceptronT p_1), some (bxPerceptronT v_7)] [Con Try.prog 12 [slS false v_6] true (.tup [agPerceptronT v_7, I c_7]) ∧ ((false = true → true = true) ∧ 1 = 1 ∧ v_6.length = v_6.length ∧ ∀ i_, i_ < v_6.length → (fS v_6) i_ = (fS v_6) i_ ∨ (AV.idsL ((fS v_6) i_) = [] ∧ leL (fun _ => none) false ((fS v_6) i_) ((fS v_6) i_))) ∧ True] hB ⟨⟨hc7, ⟨(fun h => by cases h), rfl, rfl, fun i _ => .inl rfl⟩, trivial⟩, trivial⟩ ?_
  refine ae_then ?_
  refine aw_seq ?_
  obtain ⟨v_8, c_8, hx8_0, hc8⟩ := specNewPerceptron_ok v_6 hsn
  have he3 := two_eq hnp hx8_0
  refine aw_r [(1, .call [(false, slS false v_6)] true (.tup [agPerceptronT v_8, I c_8])), (5, .new 18)] [0, 3, 4, 5, 6, 7, 8, 9, 10, 11, 12, 13, 14, 16, 17, 18, 19] [3, 16, 18] [slU8 false code, .ref 3 0, slFeat true fs_1, slI true v_2, I c_2, slI true v_3, I c_3, Sv l_4, I m_4, I c_4, Sv l_5, I m_5, I c_5, .ref 16 0, I c_7, .ref 18 0, I c_8] [some (bxPerceptronT p_1), some (bxPerceptronT v_7), some (bxPerceptronT v_8)] [Con Try.prog 13 [slS false v_6] true (.tup [agPerceptronT v_8, I c_8]) ∧ ((false = true → true = true) ∧ 1 = 1 ∧ v_6.length = v_6.length ∧ ∀ i_, i_ < v_6.length → (fS v_6) i_ = (fS v_6) i_ ∨ (AV.idsL ((fS v_6) i_) = [] ∧ leL (fun _ => none) false ((fS v_6) i_) ((fS v_6) i_))) ∧ True] hB ⟨⟨hc8, ⟨(fun h => by cases h), rfl, rfl, fun i _ => .inl rfl⟩, trivial⟩, trivial⟩ ?_
  refine ae_then ?_
  refine aw_seq ?_
  obtain ⟨a_9, b_9, hc9⟩ := DrawSamePerceptron_ok code (by assumption)
  refine aw_r [(1, .call [(true, .any)] true (.tup [agPerceptronT a_9, agPerceptronT b_9])), (5, .new 20), (6, .new 21)] [3, 4, 5, 6, 7, 8, 9, 10, 11, 12, 13, 14, 16, 17, 18, 19, 20, 21] [3, 16, 18, 20, 21] [.ref 3 0, slFeat true fs_1, slI true v_2, I c_2, slI true v_3, I c_3, Sv l_4, I m_4, I c_4, Sv l_5, I m_5, I c_5, .ref 16 0, I c_7, .ref 18 0, I c_8, .ref 20 0, .ref 21 0] [some (bxPerceptronT p_1), some (bxPerceptronT v_7), some (bxPerceptronT v_8), some (bxPerceptronT a_9), some (bxPerceptronT b_9)] [Con Try.prog 14 [slU8 false code] true (.tup [agPerceptronT a_9, agPerceptronT b_9]) ∧ True] hB ⟨⟨hc9, trivial⟩, trivial⟩ ?_
  refine ae_then ?_
  refine aw_seq ?_
  refine aw_seq ?_
  rcases Bool.eq_false_or_eq_true (sameP a_9 b_9) with h2 | h2
  ·refine aw_r [(2, .dec false), (6, .call [(false, slI false v_2), (false, slI false v_3)] true (Bv true)), (12, .dec false), (17, .dec false), (22, .dec false), (27, .dec false), (32, .call [(false, agPerceptron v_7), (false, agPerceptron v_8)] true (Bv true)), (38, .call [(false, agPerceptron a_9), (false, agPerceptron b_9)] true (Bv true)), (41, .call [(false, agPerceptron a_9), (false, agPerceptron b_9)] true (Bv true))] [3, 4, 5, 6, 10, 122] [3] [.ref 3 0, slFeat true fs_1, slI true v_2, I c_2, I m_4, Bv false] [some (bxPerceptronT p_1)] [¬ (c_2 ≠ c_3), Con Try.prog 15 [slI false v_2, slI false v_3] true (Bv true) ∧ ((false = true → true = true) ∧ 1 = 1 ∧ v_2.length = v_2.length ∧ ∀ i_, i_ < v_2.length → (fI v_2) i_ = (fI v_2) i_ ∨ (AV.idsL ((fI v_2) i_) = [] ∧ leL (fun _ => none) false ((fI v_2) i_) ((fI v_2) i_))) ∧ ((false = true → true = true) ∧ 1 = 1 ∧ v_3.length = v_3.length ∧ ∀ i_, i_ < v_3.length → (fI v_3) i_ = (fI v_3) i_ ∨ (AV.idsL ((fI v_3) i_) = [] ∧ leL (fun _ => none) false ((fI v_3) i_) ((fI v_3) i_))) ∧ True, ¬ (c_4 ≠ c_5), ¬ (l_4 ≠ l_5), ¬ (m_4 ≠ m_5), ¬ (c_7 ≠ c_8), Con Try.prog 16 [agPerceptron v_7, agPerceptron v_8] true (Bv true) ∧ (((false = true → true = true) ∧ 1 = 1 ∧ v_7.Labels.length = v_7.Labels.length ∧ ∀ i_, i_ < v_7.Labels.length → (fS v_7.Labels) i_ = (fS v_7.Labels) i_ ∨ (AV.idsL ((fS v_7.Labels) i_) = [] ∧ leL (fun _ => none) false ((fS v_7.Labels) i_) ((fS v_7.Labels) i_))) ∧ ((false = true → true = true) ∧ 1 = 1 ∧ v_7.Weights.length = v_7.Weights.length ∧ ∀ i_, i_ < v_7.Weights.length → (fLI true v_7.Weights) i_ = (fLI false v_7.Weights) i_ ∨ (AV.idsL ((fLI false v_7.Weights) i_) = [] ∧ leL (fun _ => none) false ((fLI true v_7.Weights) i_) ((fLI false v_7.Weights) i_))) ∧ ([] : List AV) = []) ∧ (((false = true → true = true) ∧ 1 = 1 ∧ v_8.Labels.length = v_8.Labels.length ∧ ∀ i_, i_ < v_8.Labels.length → (fS v_8.Labels) i_ = (fS v_8.Labels) i_ ∨ (AV.idsL ((fS v_8.Labels) i_) = [] ∧ leL (fun _ => none) false ((fS v_8.Labels) i_) ((fS v_8.Labels) i_))) ∧ ((false = true → true = true) ∧ 1 = 1 ∧ v_8.Weights.length = v_8.Weights.length ∧ ∀ i_, i_ < v_8.Weights.length → (fLI true v_8.Weights) i_ = (fLI false v_8.Weights) i_ ∨ (AV.idsL ((fLI false v_8.Weights) i_) = [] ∧ leL (fun _ => none) false ((fLI true v_8.Weights) i_) ((fLI false v_8.Weights) i_))) ∧ ([] : List AV) = []) ∧ True, Con Try.prog 17 [agPerceptron a_9, agPerceptron b_9] true (Bv true) ∧ (((false = true → true = true) ∧ 1 = 1 ∧ a_9.Labels.length = a_9.Labels.length ∧ ∀ i_, i_ < a_9.Labels.length → (fS a_9.Labels) i_ = (fS a_9.Labels) i_ ∨ (AV.idsL ((fS a_9.Labels) i_) = [] ∧ leL (fun _ => none) false ((fS a_9.Labels) i_) ((fS a_9.Labels) i_))) ∧ ((false = true → true = true) ∧ 1 = 1 ∧ a_9.Weights.length = a_9.Weights.length ∧ ∀ i_, i_ < a_9.Weights.length → (fLI true a_9.Weights) i_ = (fLI false a_9.Weights) i_ ∨ (AV.idsL ((fLI false a_9.Weights) i_) = [] ∧ leL (fun _ => none) false ((fLI true a_9.Weights) i_) ((fLI false a_9.Weights) i_))) ∧ ([] : List AV) = []) ∧ (((false = true → true = true) ∧ 1 = 1 ∧ b_9.Labels.length = b_9.Labels.length ∧ ∀ i_, i_ < b_9.Labels.length → (fS b_9.Labels) i_ = (fS b_9.Labels) i_ ∨ (AV.idsL ((fS b_9.Labels) i_) = [] ∧ leL (fun _ => none) false ((fS b_9.Labels) i_) ((fS b_9.Labels) i_))) ∧ ((false = true → true = true) ∧ 1 = 1 ∧ b_9.Weights.length = b_9.Weights.length ∧ ∀ i_, i_ < b_9.Weights.length → (fLI true b_9.Weights) i_ = (fLI false b_9.Weights) i_ ∨ (AV.idsL ((fLI false b_9.Weights) i_) = [] ∧ leL (fun _ => none) false ((fLI true b_9.Weights) i_) ((fLI false b_9.Weights) i_))) ∧ ([] : List AV) = []) ∧ True, Con Try.prog 16 [agPerceptron a_9, agPerceptron b_9] true (Bv true) ∧ (((false = true → true = true) ∧ 1 = 1 ∧ a_9.Labels.length = a_9.Labels.length ∧ ∀ i_, i_ < a_9.Labels.length → (fS a_9.Labels) i_ = (fS a_9.Labels) i_ ∨ (AV.idsL ((fS a_9.Labels) i_) = [] ∧ leL (fun _ => none) false ((fS a_9.Labels) i_) ((fS a_9.Labels) i_))) ∧ ((false = true → true = true) ∧ 1 = 1 ∧ a_9.Weights.length = a_9.Weights.length ∧ ∀ i_, i_ < a_9.Weights.length → (fLI true a_9.Weights) i_ = (fLI false a_9.Weights) i_ ∨ (AV.idsL ((fLI false a_9.Weights) i_) = [] ∧ leL (fun _ => none) false ((fLI true a_9.Weights) i_) ((fLI false a_9.Weights) i_))) ∧ ([] : List AV) = []) ∧ (((false = true → true = true) ∧ 1 = 1 ∧ b_9.Labels.length = b_9.Labels.length ∧ ∀ i_, i_ < b_9.Labels.length → (fS b_9.Labels) i_ = (fS b_9.Labels) i_ ∨ (AV.idsL ((fS b_9.Labels) i_) = [] ∧ leL (fun _ => none) false ((fS b_9.Labels) i_) ((fS b_9.Labels) i_))) ∧ ((false = true → true = true) ∧ 1 = 1 ∧ b_9.Weights.length = b_9.Weights.length ∧ ∀ i_, i_ < b_9.Weights.length → (fLI true b_9.Weights) i_ = (fLI false b_9.Weights) i_ ∨ (AV.idsL ((fLI false b_9.Weights) i_) = [] ∧ leL (fun _ => none) false ((fLI true b_9.Weights) i_) ((fLI false b_9.Weights) i_))) ∧ ([] : List AV) = []) ∧ True] hB ⟨(fun hq => hq he1.2), ⟨(con_bool (sameL_of he1.1) (f6ints_ok v_2 v_3)), ⟨(fun h => by cases h), rfl, rfl, fun i _ => .inl rfl⟩, ⟨(fun h => by cases h), rfl, rfl, fun i _ => .inl rfl⟩, trivial⟩, (fun hq => hq he2.2.2), (fun hq => hq he2.1), (fun hq => hq he2.2.1), (fun hq => hq he3.2), ⟨(con_bool (sameP_of he3.1) (specSamePerceptron_ok v_7 v_8)), ⟨⟨(fun h => by cases h), rfl, rfl, fun i _ => .inl rfl⟩, ⟨⟨(fun h => by cases h), rfl, rfl, fun i _ => .inr ⟨idsLI _ _, leLI _ _ _⟩⟩, rfl⟩⟩, ⟨⟨(fun h => by cases h), rfl, rfl, fun i _ => .inl rfl⟩, ⟨⟨(fun h => by cases h), rfl, rfl, fun i _ => .inr ⟨idsLI _ _, leLI _ _ _⟩⟩, rfl⟩⟩, trivial⟩, ⟨(con_bool h2 (implSamePerceptron_ok a_9 b_9)), ⟨⟨(fun h => by cases h), rfl, rfl, fun i _ => .inl rfl⟩, ⟨⟨(fun h => by cases h), rfl, rfl, fun i _ => .inr ⟨idsLI _ _, leLI _ _ _⟩⟩, rfl⟩⟩, ⟨⟨(fun h => by cases h), rfl, rfl, fun i _ => .inl rfl⟩, ⟨⟨(fun h => by cases h), rfl, rfl, fun i _ => .inr ⟨idsLI _ _, leLI _ _ _⟩⟩, rfl⟩⟩, trivial⟩, ⟨(con_bool h2 (specSamePerceptron_ok a_9 b_9)), ⟨⟨(fun h => by cases h), rfl, rfl, fun i _ => .inl rfl⟩, ⟨⟨(fun h => by cases h), rfl, rfl, fun i _ => .inr ⟨idsLI _ _, leLI _ _ _⟩⟩, rfl⟩⟩, ⟨⟨(fun h => by cases h), rfl, rfl, fun i _ => .inl rfl⟩, ⟨⟨(fun h => by cases h), rfl, rfl, fun i _ => .inr ⟨idsLI _ _, leLI _ _ _⟩⟩, rfl⟩⟩, trivial⟩, trivial⟩ ?_
   refine ae_then ?_
   refine aw_false rfl ?_
   refine aw_skip ?_
   refine ae_then ?_
   refine aw_seq ?_
   obtain ⟨v_10, c_10, hx10_0, hc10⟩ := implInputOf_ok fs_1
   have hin := hx10_0
   refine aw_r [(1, .call [(false, slFeat false fs_1)] true (.tup [slI true v_10, I c_10]))] [3, 4, 5, 6, 10, 22, 23] [3] [.ref 3 0, slFeat true fs_1, slI true v_2, I c_2, I m_4, slI true v_10, I c_10] [some (bxPerceptronT p_1)] [Con Try.prog 18 [slFeat false fs_1] true (.tup [slI true v_10, I c_10]) ∧ ((false = true → true = true) ∧ 3 = 3 ∧ fs_1.length = fs_1.length ∧ ∀ i_, i_ < fs_1.length → (fFeat fs_1) i_ = (fFeat fs_1) i_ ∨ (AV.idsL ((fFeat fs_1) i_) = [] ∧ leL (fun _ => none) false ((fFeat fs_1) i_) ((fFeat fs_1) i_))) ∧ True] hB ⟨⟨hc10, ⟨(fun h => by cases h), rfl, rfl, fun i _ => .inl rfl⟩, trivial⟩, trivial⟩ ?_
   refine ae_then ?_
   refine aw_seq ?_
   obtain ⟨v_11, c_11, hx11_0, hc11⟩ := specInputOf_ok fs_1
   have he4 := two_eq hin hx11_0
   refine aw_r [(1, .call [(false, slFeat false fs_1)] true (.tup [slI true v_11, I c_11]))] [3, 5, 6, 10, 22, 23, 24, 25] [3] [.ref 3 0, slI true v_2, I c_2, I m_4, slI true v_10, I c_10, slI true v_11, I c_11] [some (bxPerceptronT p_1)] [Con Try.prog 19 [slFeat false fs_1] true (.tup [slI true v_11, I c_11]) ∧ ((false = true → true = true) ∧ 3 = 3 ∧ fs_1.length = fs_1.length ∧ ∀ i_, i_ < fs_1.length → (fFeat fs_1) i_ = (fFeat fs_1) i_ ∨ (AV.idsL ((fFeat fs_1) i_) = [] ∧ leL (fun _ => none) false ((fFeat fs_1) i_) ((fFeat fs_1) i_))) ∧ True] hB ⟨⟨hc11, ⟨(fun h => by cases h), rfl, rfl, fun i _ => .inl rfl⟩, trivial⟩, trivial⟩ ?_
   refine ae_then ?_
   refine aw_seq ?_
   refine aR [(2, .dec false), (6, .call [(false, slI false v_10), (false, slI false v_11)] true (Bv true))] [3, 5, 6, 10, 22, 141] [3] [.ref 3 0, slI true v_2, I c_2, I m_4, slI true v_10, Bv false] [some (bxPerceptronT p_1)] [¬ (c_10 ≠ c_11), Con Try.prog 15 [slI false v_10, slI false v_11] true (Bv true) ∧ ((false = true → true = true) ∧ 1 = 1 ∧ v_10.length = v_10.length ∧ ∀ i_, i_ < v_10.length → (fI v_10) i_ = (fI v_10) i_ ∨ (AV.idsL ((fI v_10) i_) = [] ∧ leL (fun _ => none) false ((fI v_10) i_) ((fI v_10) i_))) ∧ ((false = true → true = true) ∧ 1 = 1 ∧ v_11.length = v_11.length ∧ ∀ i_, i_ < v_11.length → (fI v_11) i_ = (fI v_11) i_ ∨ (AV.idsL ((fI v_11) i_) = [] ∧ leL (fun _ => none) false ((fI v_11) i_) ((fI v_11) i_))) ∧ True] hB ⟨(fun hq => hq he4.2), ⟨(con_bool (sameL_of he4.1) (f6ints_ok v_10 v_11)), ⟨(fun h => by cases h), rfl, rfl, fun i _ => .inl rfl⟩, ⟨(fun h => by cases h), rfl, rfl, fun i _ => .inl rfl⟩, trivial⟩, trivial⟩ ?_
   refine aw_false rfl ?_
   refine aw_skip ?_
   refine ae_then ?_
   refine aw_seq ?_
   refine aw_seq ?_
   by_cases h3 : c_2 = 0
   ·have hok := scoR_ok hsc h3
    have hlv := hok.2.2
    have hiv := ino_ok hin hok.2.1
    have hib := inp_ok hok.2.1 hiv
    have hq := okPerc_iff.1 hok.1
    have hpn := okP_n hok.1
    have hll : v_2.length = p_1.Weights.length := by rw [hlv, scR_len]
    refine aw_r [(1, .dec false)] [3, 5, 10, 22, 143] [3] [.ref 3 0, slI true v_2, I m_4, slI true v_10, Bv false] [some (bxPerceptronT p_1)] [¬ (c_2 ≠ 0)] hB ⟨(fun hq => hq h3), trivial⟩ ?_
    refine ae_then ?_
    refine aw_false rfl ?_
    refine aw_skip ?_
    refine ae_then ?_
    refine aw_seq ?_
    refine aR [] [3, 5, 10, 22, 26] [3] [.ref 3 0, slI true v_2, I m_4, slI true v_10, I 0] [some (bxPerceptronT p_1)] [] hB trivial ?_
    refine aw_block ?_
    refine aw_loop (fun gn gσ => ∃ (i : Int), gn = ((v_2.length : Int) - i).toNat ∧ (0 ≤ i ∧ i ≤ (v_2.length : Int)) ∧ gσ = mkS [(3, .ref 3 0), (5, slI true v_2), (10, I m_4), (22, slI true v_10), (26, I i)] [(3, bxPerceptronT p_1)]) (((v_2.length : Int) - 0).toNat) ⟨0, rfl, (by omega), rfl⟩ (fun gn gσ hI => ?_)
    obtain ⟨i, rfl, hi0, rfl⟩ := hI
    refine aw_seq ?_
    refine aw_seq ?_
    by_cases h4 : i < (v_2.length : Int)
    ·have hi : i.toNat < v_2.length := by omega
     have hwi : i.toNat < p_1.Weights.length := by omega
     have hrw := okRows_at hq.2.2 hwi
     refine aw_r [(3, .dec true)] [3, 5, 10, 22, 26, 147] [3] [.ref 3 0, slI true v_2, I m_4, slI true v_10, I i, Bv true] [some (bxPerceptronT p_1)] [i < (v_2.length : Int)] hB ⟨h4, trivial⟩ ?_
     refine ae_then ?_
     refine aw_true rfl ?_
     refine aw_skip ?_
     refine ae_then ?_
     refine aw_seq ?_
     refine aw_block ?_
     refine aR [] [3, 5, 10, 22, 26, 27] [3] [.ref 3 0, slI true v_2, I m_4, slI true v_10, I i, I 0] [some (bxPerceptronT p_1)] [] hB trivial ?_
     refine aw_seq ?_
     refine aR [] [3, 5, 10, 22, 26, 27, 28] [3] [.ref 3 0, slI true v_2, I m_4, slI true v_10, I i, I 0, I 0] [some (bxPerceptronT p_1)] [] hB trivial ?_
     refine aw_block ?_
     refine aw_loop (fun gn gσ => ∃ (sum : Int) (k : Int), gn = ((25 : Int) - k).toNat ∧ (0 ≤ k ∧ k ≤ 25) ∧ (sum = scT (at_ p_1.Weights i.toNat) v_10 k.toNat) ∧ gσ = mkS [(3, .ref 3 0), (5, slI true v_2), (10, I m_4), (22, slI true v_10), (26, I i), (27, I sum), (28, I k)] [(3, bxPerceptronT p_1)]) (((25 : Int) - 0).toNat) ⟨0, 0, rfl, (by omega), (by rfl), rfl⟩ (fun gn gσ hI => ?_)
     obtain ⟨sum, k, rfl, hk0, hsum, rfl⟩ := hI
     refine aw_seq ?_
     refine aw_seq ?_
     by_cases h5 : k < (v_10.length : Int)
     ·have hk : k.toNat < 25 := by omega
      have hmx := mulX_bd (hrw.2 k.toNat hk) (hib.1 k.toNat)
      have hsb := scT_bd hrw.2 hib.1 k.toNat (by omega)
      refine aw_r [(3, .dec true)] [3, 5, 10, 22, 26, 27, 28, 153] [3] [.ref 3 0, slI true v_2, I m_4, slI true v_10, I i, I sum, I k, Bv true] [some (bxPerceptronT p_1)] [k < (v_10.length : Int)] hB ⟨h5, trivial⟩ ?_
      refine ae_then ?_
      refine aw_true rfl ?_
      refine aw_skip ?_
      refine ae_then ?_
      refine aw_seq ?_
      refine aw_block ?_
      refine aw_r [] [3, 5, 10, 22, 26, 27, 28] [3] [.ref 3 0, slI true v_2, I m_4, slI true v_10, I i, I (sum + ((at_ (at_ p_1.Weights i.toNat) k.toNat) * (at_ v_10 k.toNat))), I k] [some (bxPerceptronT p_1)] [(0 : Int) ≤ i ∧ i < (p_1.Weights.length : Int), (0 : Int) ≤ k ∧ k < (((at_ p_1.Weights i.toNat).length) : Int), (0 : Int) ≤ k ∧ k < (v_10.length : Int), inR .i64 ((at_ (at_ p_1.Weights i.toNat) k.toNat) * (at_ v_10 k.toNat)), inR .i64 (sum + ((at_ (at_ p_1.Weights i.toNat) k.toNat) * (at_ v_10 k.toNat)))] hB ⟨⟨(by omega), (by omega)⟩, ⟨(by omega), (by omega)⟩, ⟨(by omega), (by omega)⟩, (inR_i64 (by omega) (by omega)), (inR_i64 (by omega) (by omega)), trivial⟩ ?_
      refine ae_block 3 ?_
      refine ae_then ?_
      refine aw_r [] [3, 5, 10, 22, 26, 27, 28] [3] [.ref 3 0, slI true v_2, I m_4, slI true v_10, I i, I (sum + ((at_ (at_ p_1.Weights i.toNat) k.toNat) * (at_ v_10 k.toNat))), I (k + 1)] [some (bxPerceptronT p_1)] [inR .i64 (k + 1)] hB ⟨(inR_i64 (by omega) (by omega)), trivial⟩ ?_
      exact ae_again _ (by omega) ⟨(sum + ((at_ (at_ p_1.Weights i.toNat) k.toNat) * (at_ v_10 k.toNat))), (k + 1), rfl, (by omega), (by rw [scT_1 hk0.1, ← hsum]), rfl⟩
     have hke : k.toNat = 25 := by omega
     rw [hke] at hsum
     refine aw_r [(3, .dec false)] [3, 5, 10, 22, 26, 27, 28, 153] [3] [.ref 3 0, slI true v_2, I m_4, slI true v_10, I i, I sum, I k, Bv false] [some (bxPerceptronT p_1)] [¬ (k < (v_10.length : Int))] hB ⟨h5, trivial⟩ ?_
     refine ae_then ?_
     refine aw_false rfl ?_
     refine aw_exit ?_
     refine ae_exit_then ?_
     refine ae_exit_then ?_
     refine ae_exit_same ?_
     refine ae_then ?_
     refine aR [(5, .dec false)] [3, 5, 10, 22, 26, 176] [3] [.ref 3 0, slI true v_2, I m_4, slI true v_10, I i, Bv false] [some (bxPerceptronT p_1)] [(0 : Int) ≤ i ∧ i < (v_2.length : Int), ¬ ((at_ v_2 i.toNat) ≠ sum)] hB ⟨⟨(by omega), (by omega)⟩, (fun hq => hq (by rw [hsum, hlv, scR_at hwi, hiv])), trivial⟩ ?_
     refine aw_false rfl ?_
     refine aw_skip ?_
     refine ae_block 1 ?_
     refine ae_then ?_
     refine aw_r [] [3, 5, 10, 22, 26] [3] [.ref 3 0, slI true v_2, I m_4, slI true v_10, I (i + 1)] [some (bxPerceptronT p_1)] [inR .i64 (i + 1)] hB ⟨(inR_i64 (by omega) (by omega)), trivial⟩ ?_
     exact ae_again _ (by omega) ⟨(i + 1), rfl, (by omega), rfl⟩
    refine aw_r [(3, .dec false)] [3, 5, 10, 22, 26, 147] [3] [.ref 3 0, slI true v_2, I m_4, slI true v_10, I i, Bv false] [some (bxPerceptronT p_1)] [¬ (i < (v_2.length : Int))] hB ⟨h4, trivial⟩ ?_
    refine ae_then ?_
    refine aw_false rfl ?_
    refine aw_exit ?_
    refine ae_exit_then ?_
    refine ae_exit_then ?_
    refine ae_exit_same ?_
    refine ae_then ?_
    refine aR [] [2] [] [Bv (decide (0 ≤ m_4))] [] [] hB trivial ?_
    refine aw_ret ?_
    refine ae_ret hB (Bv (decide (0 ≤ m_4))) (by kernel_rfl) (.inl (by first | rfl | (refine congrArg Bv ?_; exact decide_eq_true hnn))) rfl (fun _ => trivial)
   refine aw_r [(1, .dec true)] [3, 5, 10, 22, 143] [3] [.ref 3 0, slI true v_2, I m_4, slI true v_10, Bv true] [some (bxPerceptronT p_1)] [c_2 ≠ 0] hB ⟨h3, trivial⟩ ?_
   refine ae_then ?_
   refine aw_true rfl ?_
   refine aR [] [2] [] [Bv true] [] [] hB trivial ?_
   refine aw_ret ?_
   refine ae_ret_then ?_
   refine ae_ret hB (Bv true) (by kernel_rfl) (.inl rfl) rfl (fun _ => trivial)
  refine aw_r [(2, .dec false), (6, .call [(false, slI false v_2), (false, slI false v_3)] true (Bv true)), (12, .dec false), (17, .dec false), (22, .dec false), (27, .dec false), (32, .call [(false, agPerceptron v_7), (false, agPerceptron v_8)] true (Bv true)), (38, .call [(false, agPerceptron a_9), (false, agPerceptron b_9)] true (Bv false)), (41, .call [(false, agPerceptron a_9), (false, agPerceptron b_9)] true (Bv false))] [3, 4, 5, 6, 10, 122] [3] [.ref 3 0, slFeat true fs_1, slI true v_2, I c_2, I m_4, Bv false] [some (bxPerceptronT p_1)] [¬ (c_2 ≠ c_3), Con Try.prog 15 [slI false v_2, slI false v_3] true (Bv true) ∧ ((false = true → true = true) ∧ 1 = 1 ∧ v_2.length = v_2.length ∧ ∀ i_, i_ < v_2.length → (fI v_2) i_ = (fI v_2) i_ ∨ (AV.idsL ((fI v_2) i_) = [] ∧ leL (fun _ => none) false ((fI v_2) i_) ((fI v_2) i_))) ∧ ((false = true → true = true) ∧ 1 = 1 ∧ v_3.length = v_3.length ∧ ∀ i_, i_ < v_3.length → (fI v_3) i_ = (fI v_3) i_ ∨ (AV.idsL ((fI v_3) i_) = [] ∧ leL (fun _ => none) false ((fI v_3) i_) ((fI v_3) i_))) ∧ True, ¬ (c_4 ≠ c_5), ¬ (l_4 ≠ l_5), ¬ (m_4 ≠ m_5), ¬ (c_7 ≠ c_8), Con Try.prog 16 [agPerceptron v_7, agPerceptron v_8] true (Bv true) ∧ (((false = true → true = true) ∧ 1 = 1 ∧ v_7.Labels.length = v_7.Labels.length ∧ ∀ i_, i_ < v_7.Labels.length → (fS v_7.Labels) i_ = (fS v_7.Labels) i_ ∨ (AV.idsL ((fS v_7.Labels) i_) = [] ∧ leL (fun _ => none) false ((fS v_7.Labels) i_) ((fS v_7.Labels) i_))) ∧ ((false = true → true = true) ∧ 1 = 1 ∧ v_7.Weights.length = v_7.Weights.length ∧ ∀ i_, i_ < v_7.Weights.length → (fLI true v_7.Weights) i_ = (fLI false v_7.Weights) i_ ∨ (AV.idsL ((fLI false v_7.Weights) i_) = [] ∧ leL (fun _ => none) false ((fLI true v_7.Weights) i_) ((fLI false v_7.Weights) i_))) ∧ ([] : List AV) = []) ∧ (((false = true → true = true) ∧ 1 = 1 ∧ v_8.Labels.length = v_8.Labels.length ∧ ∀ i_, i_ < v_8.Labels.length → (fS v_8.Labels) i_ = (fS v_8.Labels) i_ ∨ (AV.idsL ((fS v_8.Labels) i_) = [] ∧ leL (fun _ => none) false ((fS v_8.Labels) i_) ((fS v_8.Labels) i_))) ∧ ((false = true → true = true) ∧ 1 = 1 ∧ v_8.Weights.length = v_8.Weights.length ∧ ∀ i_, i_ < v_8.Weights.length → (fLI true v_8.Weights) i_ = (fLI false v_8.Weights) i_ ∨ (AV.idsL ((fLI false v_8.Weights) i_) = [] ∧ leL (fun _ => none) false ((fLI true v_8.Weights) i_) ((fLI false v_8.Weights) i_))) ∧ ([] : List AV) = []) ∧ True, Con Try.prog 17 [agPerceptron a_9, agPerceptron b_9] true (Bv false) ∧ (((false = true → true = true) ∧ 1 = 1 ∧ a_9.Labels.length = a_9.Labels.length ∧ ∀ i_, i_ < a_9.Labels.length → (fS a_9.Labels) i_ = (fS a_9.Labels) i_ ∨ (AV.idsL ((fS a_9.Labels) i_) = [] ∧ leL (fun _ => none) false ((fS a_9.Labels) i_) ((fS a_9.Labels) i_))) ∧ ((false = true → true = true) ∧ 1 = 1 ∧ a_9.Weights.length = a_9.Weights.length ∧ ∀ i_, i_ < a_9.Weights.length → (fLI true a_9.Weights) i_ = (fLI false a_9.Weights) i_ ∨ (AV.idsL ((fLI false a_9.Weights) i_) = [] ∧ leL (fun _ => none) false ((fLI true a_9.Weights) i_) ((fLI false a_9.Weights) i_))) ∧ ([] : List AV) = []) ∧ (((false = true → true = true) ∧ 1 = 1 ∧ b_9.Labels.length = b_9.Labels.length ∧ ∀ i_, i_ < b_9.Labels.length → (fS b_9.Labels) i_ = (fS b_9.Labels) i_ ∨ (AV.idsL ((fS b_9.Labels) i_) = [] ∧ leL (fun _ => none) false ((fS b_9.Labels) i_) ((fS b_9.Labels) i_))) ∧ ((false = true → true = true) ∧ 1 = 1 ∧ b_9.Weights.length = b_9.Weights.length ∧ ∀ i_, i_ < b_9.Weights.length → (fLI true b_9.Weights) i_ = (fLI false b_9.Weights) i_ ∨ (AV.idsL ((fLI false b_9.Weights) i_) = [] ∧ leL (fun _ => none) false ((fLI true b_9.Weights) i_) ((fLI false b_9.Weights) i_))) ∧ ([] : List AV) = []) ∧ True, Con Try.prog 16 [agPerceptron a_9, agPerceptron b_9] true (Bv false) ∧ (((false = true → true = true) ∧ 1 = 1 ∧ a_9.Labels.length = a_9.Labels.length ∧ ∀ i_, i_ < a_9.Labels.length → (fS a_9.Labels) i_ = (fS a_9.Labels) i_ ∨ (AV.idsL ((fS a_9.Labels) i_) = [] ∧ leL (fun _ => none) false ((fS a_9.Labels) i_) ((fS a_9.Labels) i_))) ∧ ((false = true → true = true) ∧ 1 = 1 ∧ a_9.Weights.length = a_9.Weights.length ∧ ∀ i_, i_ < a_9.Weights.length → (fLI true a_9.Weights) i_ = (fLI false a_9.Weights) i_ ∨ (AV.idsL ((fLI false a_9.Weights) i_) = [] ∧ leL (fun _ => none) false ((fLI true a_9.Weights) i_) ((fLI false a_9.Weights) i_))) ∧ ([] : List AV) = []) ∧ (((false = true → true = true) ∧ 1 = 1 ∧ b_9.Labels.length = b_9.Labels.length ∧ ∀ i_, i_ < b_9.Labels.length → (fS b_9.Labels) i_ = (fS b_9.Labels) i_ ∨ (AV.idsL ((fS b_9.Labels) i_) = [] ∧ leL (fun _ => none) false ((fS b_9.Labels) i_) ((fS b_9.Labels) i_))) ∧ ((false = true → true = true) ∧ 1 = 1 ∧ b_9.Weights.length = b_9.Weights.length ∧ ∀ i_, i_ < b_9.Weights.length → (fLI true b_9.Weights) i_ = (fLI false b_9.Weights) i_ ∨ (AV.idsL ((fLI false b_9.Weights) i_) = [] ∧ leL (fun _ => none) false ((fLI true b_9.Weights) i_) ((fLI false b_9.Weights) i_))) ∧ ([] : List AV) = []) ∧ True] hB ⟨(fun hq => hq he1.2), ⟨(con_bool (sameL_of he1.1) (f6ints_ok v_2 v_3)), ⟨(fun h => by cases h), rfl, rfl, fun i _ => .inl rfl⟩, ⟨(fun h => by cases h), rfl, rfl, fun i _ => .inl rfl⟩, trivial⟩, (fun hq => hq he2.2.2), (fun hq => hq he2.1), (fun hq => hq he2.2.1), (fun hq => hq he3.2), ⟨(con_bool (sameP_of he3.1) (specSamePerceptron_ok v_7 v_8)), ⟨⟨(fun h => by cases h), rfl, rfl, fun i _ => .inl rfl⟩, ⟨⟨(fun h => by cases h), rfl, rfl, fun i _ => .inr ⟨idsLI _ _, leLI _ _ _⟩⟩, rfl⟩⟩, ⟨⟨(fun h => by cases h), rfl, rfl, fun i _ => .inl rfl⟩, ⟨⟨(fun h => by cases h), rfl, rfl, fun i _ => .inr ⟨idsLI _ _, leLI _ _ _⟩⟩, rfl⟩⟩, trivial⟩, ⟨(con_bool h2 (implSamePerceptron_ok a_9 b_9)), ⟨⟨(fun h => by cases h), rfl, rfl, fun i _ => .inl rfl⟩, ⟨⟨(fun h => by cases h), rfl, rfl, fun i _ => .inr ⟨idsLI _ _, leLI _ _ _⟩⟩, rfl⟩⟩, ⟨⟨(fun h => by cases h), rfl, rfl, fun i _ => .inl rfl⟩, ⟨⟨(fun h => by cases h), rfl, rfl, fun i _ => .inr ⟨idsLI _ _, leLI _ _ _⟩⟩, rfl⟩⟩, trivial⟩, ⟨(con_bool h2 (specSamePerceptron_ok a_9 b_9)), ⟨⟨(fun h => by cases h), rfl, rfl, fun i _ => .inl rfl⟩, ⟨⟨(fun h => by cases h), rfl, rfl, fun i _ => .inr ⟨idsLI _ _, leLI _ _ _⟩⟩, rfl⟩⟩, ⟨⟨(fun h => by cases h), rfl, rfl, fun i _ => .inl rfl⟩, ⟨⟨(fun h => by cases h), rfl, rfl, fun i _ => .inr ⟨idsLI _ _, leLI _ _ _⟩⟩, rfl⟩⟩, trivial⟩, trivial⟩ ?_
  refine ae_then ?_
  refine aw_false rfl ?_
  refine aw_skip ?_
  refine ae_then ?_
  refine aw_seq ?_
  obtain ⟨v_12, c_12, hx12_0, hc12⟩ := implInputOf_ok fs_1
  have hin := hx12_0
  refine aw_r [(1, .call [(false, slFeat false fs_1)] true (.tup [slI true v_12, I c_12]))] [3, 4, 5, 6, 10, 22, 23] [3] [.ref 3 0, slFeat true fs_1, slI true v_2, I c_2, I m_4, slI true v_12, I c_12] [some (bxPerceptronT p_1)] [Con Try.prog 18 [slFeat false fs_1] true (.tup [slI true v_12, I c_12]) ∧ ((false = true → true = true) ∧ 3 = 3 ∧ fs_1.length = fs_1.length ∧ ∀ i_, i_ < fs_1.length → (fFeat fs_1) i_ = (fFeat fs_1) i_ ∨ (AV.idsL ((fFeat fs_1) i_) = [] ∧ leL (fun _ => none) false ((fFeat fs_1) i_) ((fFeat fs_1) i_))) ∧ True] hB ⟨⟨hc12, ⟨(fun h => by cases h), rfl, rfl, fun i _ => .inl rfl⟩, trivial⟩, trivial⟩ ?_
  refine ae_then ?_
  refine aw_seq ?_
  obtain ⟨v_13, c_13, hx13_0, hc13⟩ := specInputOf_ok fs_1
  have he4 := two_eq hin hx13_0
  refine aw_r [(1, .call [(false, slFeat false fs_1)] true (.tup [slI true v_13, I c_13]))] [3, 5, 6, 10, 22, 23, 24, 25] [3] [.ref 3 0, slI true v_2, I c_2, I m_4, slI true v_12, I c_12, slI true v_13, I c_13] [some (bxPerceptronT p_1)] [Con Try.prog 19 [slFeat false fs_1] true (.tup [slI true v_13, I c_13]) ∧ ((false = true → true = true) ∧ 3 = 3 ∧ fs_1.length = fs_1.length ∧ ∀ i_, i_ < fs_1.length → (fFeat fs_1) i_ = (fFeat fs_1) i_ ∨ (AV.idsL ((fFeat fs_1) i_) = [] ∧ leL (fun _ => none) false ((fFeat fs_1) i_) ((fFeat fs_1) i_))) ∧ True] hB ⟨⟨hc13, ⟨(fun h => by cases h), rfl, rfl, fun i _ => .inl rfl⟩, trivial⟩, trivial⟩ ?_
  refine ae_then ?_
  refine aw_seq ?_
  refine aR [(2, .dec false), (6, .call [(false, slI false v_12), (false, slI false v_13)] true (Bv true))] [3, 5, 6, 10, 22, 141] [3] [.ref 3 0, slI true v_2, I c_2, I m_4, slI true v_12, Bv false] [some (bxPerceptronT p_1)] [¬ (c_12 ≠ c_13), Con Try.prog 15 [slI false v_12, slI false v_13] true (Bv true) ∧ ((false = true → true = true) ∧ 1 = 1 ∧ v_12.length = v_12.length ∧ ∀ i_, i_ < v_12.length → (fI v_12) i_ = (fI v_12) i_ ∨ (AV.idsL ((fI v_12) i_) = [] ∧ leL (fun _ => none) false ((fI v_12) i_) ((fI v_12) i_))) ∧ ((false = true → true = true) ∧ 1 = 1 ∧ v_13.length = v_13.length ∧ ∀ i_, i_ < v_13.length → (fI v_13) i_ = (fI v_13) i_ ∨ (AV.idsL ((fI v_13) i_) = [] ∧ leL (fun _ => none) false ((fI v_13) i_) ((fI v_13) i_))) ∧ True] hB ⟨(fun hq => hq he4.2), ⟨(con_bool (sameL_of he4.1) (f6ints_ok v_12 v_13)), ⟨(fun h => by cases h), rfl, rfl, fun i _ => .inl rfl⟩, ⟨(fun h => by cases h), rfl, rfl, fun i _ => .inl rfl⟩, trivial⟩, trivial⟩ ?_
  refine aw_false rfl ?_
  refine aw_skip ?_
  refine ae_then ?_
  refine aw_seq ?_
  refine aw_seq ?_
  by_cases h6 : c_2 = 0
  ·have hok := scoR_ok hsc h6
   have hlv := hok.2.2
   have hiv := ino_ok hin hok.2.1
   have hib := inp_ok hok.2.1 hiv
   have hq := okPerc_iff.1 hok.1
   have hpn := okP_n hok.1
   have hll : v_2.length = p_1.Weights.length := by rw [hlv, scR_len]
   refine aw_r [(1, .dec false)] [3, 5, 10, 22, 143] [3] [.ref 3 0, slI true v_2, I m_4, slI true v_12, Bv false] [some (bxPerceptronT p_1)] [¬ (c_2 ≠ 0)] hB ⟨(fun hq => hq h6), trivial⟩ ?_
   refine ae_then ?_
   refine aw_false rfl ?_
   refine aw_skip ?_
   refine ae_then ?_
   refine aw_seq ?_
   refine aR [] [3, 5, 10, 22, 26] [3] [.ref 3 0, slI true v_2, I m_4, slI true v_12, I 0] [some (bxPerceptronT p_1)] [] hB trivial ?_
   refine aw_block ?_
   refine aw_loop (fun gn gσ => ∃ (i : Int), gn = ((v_2.length : Int) - i).toNat ∧ (0 ≤ i ∧ i ≤ (v_2.length : Int)) ∧ gσ = mkS [(3, .ref 3 0), (5, slI true v_2), (10, I m_4), (22, slI true v_12), (26, I i)] [(3, bxPerceptronT p_1)]) (((v_2.length : Int) - 0).toNat) ⟨0, rfl, (by omega), rfl⟩ (fun gn gσ hI => ?_)
   obtain ⟨i, rfl, hi0, rfl⟩ := hI
   refine aw_seq ?_
   refine aw_seq ?_
   by_cases h7 : i < (v_2.length : Int)
   ·have hi : i.toNat < v_2.length := by omega
    have hwi : i.toNat < p_1.Weights.length := by omega
    have hrw := okRows_at hq.2.2 hwi
    refine aw_r [(3, .dec true)] [3, 5, 10, 22, 26, 147] [3] [.ref 3 0, slI true v_2, I m_4, slI true v_12, I i, Bv true] [some (bxPerceptronT p_1)] [i < (v_2.length : Int)] hB ⟨h7, trivial⟩ ?_
    refine ae_then ?_
    refine aw_true rfl ?_
    refine aw_skip ?_
    refine ae_then ?_
    refine aw_seq ?_
    refine aw_block ?_
    refine aR [] [3, 5, 10, 22, 26, 27] [3] [.ref 3 0, slI true v_2, I m_4, slI true v_12, I i, I 0] [some (bxPerceptronT p_1)] [] hB trivial ?_
    refine aw_seq ?_
    refine aR [] [3, 5, 10, 22, 26, 27, 28] [3] [.ref 3 0, slI true v_2, I m_4, slI true v_12, I i, I 0, I 0] [some (bxPerceptronT p_1)] [] hB trivial ?_
    refine aw_block ?_
    refine aw_loop (fun gn gσ => ∃ (sum : Int) (k : Int), gn = ((25 : Int) - k).toNat ∧ (0 ≤ k ∧ k ≤ 25) ∧ (sum = scT (at_ p_1.Weights i.toNat) v_12 k.toNat) ∧ gσ = mkS [(3, .ref 3 0), (5, slI true v_2), (10, I m_4), (22, slI true v_12), (26, I i), (27, I sum), (28, I k)] [(3, bxPerceptronT p_1)]) (((25 : Int) - 0).toNat) ⟨0, 0, rfl, (by omega), (by rfl), rfl⟩ (fun gn gσ hI => ?_)
    obtain ⟨sum, k, rfl, hk0, hsum, rfl⟩ := hI
    refine aw_seq ?_
    refine aw_seq ?_
    by_cases h8 : k < (v_12.length : Int)
    ·have hk : k.toNat < 25 := by omega
     have hmx := mulX_bd (hrw.2 k.toNat hk) (hib.1 k.toNat)
     have hsb := scT_bd hrw.2 hib.1 k.toNat (by omega)
     refine aw_r [(3, .dec true)] [3, 5, 10, 22, 26, 27, 28, 153] [3] [.ref 3 0, slI true v_2, I m_4, slI true v_12, I i, I sum, I k, Bv true] [some (bxPerceptronT p_1)] [k < (v_12.length : Int)] hB ⟨h8, trivial⟩ ?_
     refine ae_then ?_
     refine aw_true rfl ?_
     refine aw_skip ?_
     refine ae_then ?_
     refine aw_seq ?_
     refine aw_block ?_
     refine aw_r [] [3, 5, 10, 22, 26, 27, 28] [3] [.ref 3 0, slI true v_2, I m_4, slI true v_12, I i, I (sum + ((at_ (at_ p_1.Weights i.toNat) k.toNat) * (at_ v_12 k.toNat))), I k] [some (bxPerceptronT p_1)] [(0 : Int) ≤ i ∧ i < (p_1.Weights.length : Int), (0 : Int) ≤ k ∧ k < (((at_ p_1.Weights i.toNat).length) : Int), (0 : Int) ≤ k ∧ k < (v_12.length : Int), inR .i64 ((at_ (at_ p_1.Weights i.toNat) k.toNat) * (at_ v_12 k.toNat)), inR .i64 (sum + ((at_ (at_ p_1.Weights i.toNat) k.toNat) * (at_ v_12 k.toNat)))] hB ⟨⟨(by omega), (by omega)⟩, ⟨(by omega), (by omega)⟩, ⟨(by omega), (by omega)⟩, (inR_i64 (by omega) (by omega)), (inR_i64 (by omega) (by omega)), trivial⟩ ?_
     refine ae_block 3 ?_
     refine ae_then ?_
     refine aw_r [] [3, 5, 10, 22, 26, 27, 28] [3] [.ref 3 0, slI true v_2, I m_4, slI true v_12, I i, I (sum + ((at_ (at_ p_1.Weights i.toNat) k.toNat) * (at_ v_12 k.toNat))), I (k + 1)] [some (bxPerceptronT p_1)] [inR .i64 (k + 1)] hB ⟨(inR_i64 (by omega) (by omega)), trivial⟩ ?_
     exact ae_again _ (by omega) ⟨(sum + ((at_ (at_ p_1.Weights i.toNat) k.toNat) * (at_ v_12 k.toNat))), (k + 1), rfl, (by omega), (by rw [scT_1 hk0.1, ← hsum]), rfl⟩
    have hke : k.toNat = 25 := by omega
    rw [hke] at hsum
    refine aw_r [(3, .dec false)] [3, 5, 10, 22, 26, 27, 28, 153] [3] [.ref 3 0, slI true v_2, I m_4, slI true v_12, I i, I sum, I k, Bv false] [some (bxPerceptronT p_1)] [¬ (k < (v_12.length : Int))] hB ⟨h8, trivial⟩ ?_
    refine ae_then ?_
    refine aw_false rfl ?_
    refine aw_exit ?_
    refine ae_exit_then ?_
    refine ae_exit_then ?_
    refine ae_exit_same ?_
    refine ae_then ?_
    refine aR [(5, .dec false)] [3, 5, 10, 22, 26, 176] [3] [.ref 3 0, slI true v_2, I m_4, slI true v_12, I i, Bv false] [some (bxPerceptronT p_1)] [(0 : Int) ≤ i ∧ i < (v_2.length : Int), ¬ ((at_ v_2 i.toNat) ≠ sum)] hB ⟨⟨(by omega), (by omega)⟩, (fun hq => hq (by rw [hsum, hlv, scR_at hwi, hiv])), trivial⟩ ?_
    refine aw_false rfl ?_
    refine aw_skip ?_
    refine ae_block 1 ?_
    refine ae_then ?_
    refine aw_r [] [3, 5, 10, 22, 26] [3] [.ref 3 0, slI true v_2, I m_4, slI true v_12, I (i + 1)] [some (bxPerceptronT p_1)] [inR .i64 (i + 1)] hB ⟨(inR_i64 (by omega) (by omega)), trivial⟩ ?_
    exact ae_again _ (by omega) ⟨(i + 1), rfl, (by omega), rfl⟩
   refine aw_r [(3, .dec false)] [3, 5, 10, 22, 26, 147] [3] [.ref 3 0, slI true v_2, I m_4, slI true v_12, I i, Bv false] [some (bxPerceptronT p_1)] [¬ (i < (v_2.length : Int))] hB ⟨h7, trivial⟩ ?_
   refine ae_then ?_
   refine aw_false rfl ?_
   refine aw_exit ?_
   refine ae_exit_then ?_
   refine ae_exit_then ?_
   refine ae_exit_same ?_
   refine ae_then ?_
   refine aR [] [2] [] [Bv (decide (0 ≤ m_4))] [] [] hB trivial ?_
   refine aw_ret ?_
   refine ae_ret hB (Bv (decide (0 ≤ m_4))) (by kernel_rfl) (.inl (by first | rfl | (refine congrArg Bv ?_; exact decide_eq_true hnn))) rfl (fun _ => trivial)
  refine aw_r [(1, .dec true)] [3, 5, 10, 22, 143] [3] [.ref 3 0, slI true v_2, I m_4, slI true v_12, Bv true] [some (bxPerceptronT p_1)] [c_2 ≠ 0] hB ⟨h6, trivial⟩ ?_
  refine ae_then ?_
  refine aw_true rfl ?_
  refine aR [] [2] [] [Bv true] [] [] hB trivial ?_
  refine aw_ret ?_
  refine ae_ret_then ?_
  refine ae_ret hB (Bv true) (by kernel_rfl) (.inl rfl) rfl (fun _ => trivial)


/-! ### the row -/

theorem opens_t22 : OpensA Try.prog 22 (cLU8 false) (fun xs => ∀ y ∈ xs, inR .u8 y) :=
  opensA_slice (c := cU8) (sz := 1) Try.underlying22 (by kernel_rfl) (by decide) (fun x => ⟨rfl, by simp [oneA, cU8]⟩) (opensA_int Try.underlying5)
end Go.Proofs.Ytblhhmcplocepaa.Ax
