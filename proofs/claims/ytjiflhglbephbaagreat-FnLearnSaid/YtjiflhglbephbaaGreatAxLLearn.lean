/- The statement FnLearn: contracts of what it reaches, and its proof. No conditions. -/
import Derived.Test.YtjiflhglbephbaaGreatAxLLearn4
import Derived.Test.YtjiflhglbephbaaGreatAxR
import Derived.Test.YtjiflhglbephbaaGreatAxS
import Derived.Test.YtjiflhglbephbaaGreatSortShelf
namespace Go.Proofs.YtjiflhglbephbaaGreat.Ax
open Go.RowKit Go.ChangeShapes Go.WideShapes
set_option linter.unusedVariables false
set_option linter.unusedSimpArgs false


-- spec.l24Ok
theorem l24Ok_ok (t : Trained) (ok : okTrained t) : Con Tryz.prog 74 [.ptr false [Sv t.Label, slFeat false t.Base, slFeat false t.Feats, I t.Count]] true (Bv (okTrained' t)) := by
  refine fn_ok (fn := Tryz.f74) (nt := 69) Tryz.func74 rfl rfl rfl rfl (by simp [taggedL, tagged, tagFeat]) fun B hB => ?_
  refine aw_lens (x := .ptr false [Sv t.Label, slFeat false t.Base, slFeat false t.Feats, I t.Count]) 0 rfl (fun len_t => ?_)
  simp [LenOK, LenL, cFeat, fFeat, slFeat] at len_t
  refine aR [] [0] [] [.ptr false [Sv t.Label, slFeat false t.Base, slFeat false t.Feats, I t.Count]] [] [] hB trivial ?_
  refine aw_seq ?_
  refine aw_seq ?_
  rcases Bool.eq_false_or_eq_true (okLabel t.Label) with h1 | h1
  ·rcases Bool.eq_false_or_eq_true (okFeats t.Base 72) with h2 | h2
   ·rcases Bool.eq_false_or_eq_true (okFeats t.Feats 72) with h3 | h3
    ·by_cases h4 : (t.Base.length : Int) = (t.Feats.length : Int)
     ·refine aw_r [(4, .call [(true, .any)] true (Bv true)), (11, .call [(true, .any)] true (Bv true)), (19, .call [(true, .any)] true (Bv true)), (33, .dec false)] [0, 38] [] [.ptr false [Sv t.Label, slFeat false t.Base, slFeat false t.Feats, I t.Count], Bv false] [] [Con Tryz.prog 47 [Sv t.Label] true (Bv true) ∧ True, Con Tryz.prog 46 [slFeat false t.Base] true (Bv true) ∧ True, Con Tryz.prog 46 [slFeat false t.Feats] true (Bv true) ∧ True, ¬ ((t.Base.length : Int) ≠ (t.Feats.length : Int))] hB ⟨⟨(con_bool h1 (specIsLabel_ok t.Label ok)), trivial⟩, ⟨(con_bool h2 (l09Ok_ok t.Base)), trivial⟩, ⟨(con_bool h3 (l09Ok_ok t.Feats)), trivial⟩, (fun hq => hq h4), trivial⟩ ?_
      refine ae_then ?_
      refine aw_false rfl ?_
      refine aw_skip ?_
      refine ae_then ?_
      refine aw_seq ?_
      refine aR [] [0, 3] [] [.ptr false [Sv t.Label, slFeat false t.Base, slFeat false t.Feats, I t.Count], I 0] [] [] hB trivial ?_
      refine aw_block ?_
      refine aw_loop (fun gn gσ => ∃ (i : Int), gn = ((t.Base.length : Int) - i).toNat ∧ (0 ≤ i ∧ i ≤ (t.Base.length : Int)) ∧ (∀ j : Nat, (j : Int) < i → nearB (at_ t.Base j) (at_ t.Feats j) = true) ∧ gσ = mkS [(0, .ptr false [Sv t.Label, slFeat false t.Base, slFeat false t.Feats, I t.Count]), (3, I i)] []) (((t.Base.length : Int) - 0).toNat) ⟨0, rfl, (by omega), (by intro j hj; omega), rfl⟩ (fun gn gσ hI => ?_)
      obtain ⟨i, rfl, hir, hall0, rfl⟩ := hI
      refine aw_seq ?_
      refine aw_seq ?_
      by_cases h5 : i < (t.Base.length : Int)
      ·have hi : i.toNat < t.Base.length := by omega
       have hi0 : i.toNat < t.Feats.length := by omega
       refine aw_r [(6, .dec true)] [0, 3, 45] [] [.ptr false [Sv t.Label, slFeat false t.Base, slFeat false t.Feats, I t.Count], I i, Bv true] [] [i < (t.Base.length : Int)] hB ⟨h5, trivial⟩ ?_
       refine ae_then ?_
       refine aw_true rfl ?_
       refine aw_skip ?_
       refine ae_then ?_
       refine aw_seq ?_
       refine aw_block ?_
       refine aw_seq ?_
       rcases Bool.eq_false_or_eq_true (nearB (at_ t.Base i.toNat) (at_ t.Feats i.toNat)) with h6 | h6
       ·refine aw_r [(14, .call [(true, .any), (true, .any)] true (Bv true))] [0, 3, 63] [] [.ptr false [Sv t.Label, slFeat false t.Base, slFeat false t.Feats, I t.Count], I i, Bv false] [] [(0 : Int) ≤ i ∧ i < (t.Base.length : Int), (0 : Int) ≤ i ∧ i < (t.Feats.length : Int), Con Tryz.prog 107 [agFeat (at_ t.Base i.toNat), agFeat (at_ t.Feats i.toNat)] true (Bv true) ∧ True] hB ⟨⟨(by omega), (by omega)⟩, ⟨(by omega), (by omega)⟩, ⟨(con_bool h6 (l24Near_ok (at_ t.Base i.toNat) (at_ t.Feats i.toNat) (okFeats_at (by assumption) hi) (okFeats_at (by assumption) hi0))), trivial⟩, trivial⟩ ?_
        refine ae_then ?_
        refine aw_false rfl ?_
        refine aw_skip ?_
        refine ae_block 1 ?_
        refine ae_then ?_
        refine aw_r [] [0, 3] [] [.ptr false [Sv t.Label, slFeat false t.Base, slFeat false t.Feats, I t.Count], I (i + 1)] [] [inR .i64 (i + 1)] hB ⟨(inR_i64 (by omega) (by omega)), trivial⟩ ?_
        exact ae_again _ (by omega) ⟨(i + 1), rfl, (by omega), (by intro j hj; by_cases ej : j = i.toNat; (subst ej; first | assumption | exact hok); exact hall0 j (by omega)), rfl⟩
       have hall : allN t.Base.length (fun j => nearB (at_ t.Base j) (at_ t.Feats j)) = false := allN_not hi h6
       refine aw_r [(14, .call [(true, .any), (true, .any)] true (Bv false))] [0, 3, 63] [] [.ptr false [Sv t.Label, slFeat false t.Base, slFeat false t.Feats, I t.Count], I i, Bv true] [] [(0 : Int) ≤ i ∧ i < (t.Base.length : Int), (0 : Int) ≤ i ∧ i < (t.Feats.length : Int), Con Tryz.prog 107 [agFeat (at_ t.Base i.toNat), agFeat (at_ t.Feats i.toNat)] true (Bv false) ∧ True] hB ⟨⟨(by omega), (by omega)⟩, ⟨(by omega), (by omega)⟩, ⟨(con_bool h6 (l24Near_ok (at_ t.Base i.toNat) (at_ t.Feats i.toNat) (okFeats_at (by assumption) hi) (okFeats_at (by assumption) hi0))), trivial⟩, trivial⟩ ?_
       refine ae_then ?_
       refine aw_true rfl ?_
       refine aR [] [2] [] [Bv false] [] [] hB trivial ?_
       refine aw_ret ?_
       refine ae_ret_block (ae_ret_then (ae_ret_then (ae_ret_block (ae_ret_then ?_))))
       refine ae_ret hB (Bv false) (by kernel_rfl) (.inl (by first | rfl | (refine congrArg Bv ?_; simp [okTrained', inB, *]; done) | (refine congrArg Bv ?_; simp [okTrained', inB, *]; omega) | (refine congrArg Bv ?_; simp_all [okTrained', inB]; done) | (refine congrArg Bv ?_; simp_all [okTrained', inB]; omega))) rfl (fun _ => trivial)
      have hall : allN t.Base.length (fun j => nearB (at_ t.Base j) (at_ t.Feats j)) = true := allN_at (fun j hj => hall0 j (by omega))
      refine aw_r [(6, .dec false)] [0, 3, 45] [] [.ptr false [Sv t.Label, slFeat false t.Base, slFeat false t.Feats, I t.Count], I i, Bv false] [] [¬ (i < (t.Base.length : Int))] hB ⟨h5, trivial⟩ ?_
      refine ae_then ?_
      refine aw_false rfl ?_
      refine aw_exit ?_
      refine ae_exit_then ?_
      refine ae_exit_then ?_
      refine ae_exit_same ?_
      refine ae_then ?_
      refine aR [(4, .call [(true, .any), (true, .any), (true, .any)] true (Bv (inB t.Count 0 100)))] [2] [] [Bv (inB t.Count 0 100)] [] [Con Tryz.prog 48 [I t.Count, I 0, I 100] true (Bv (inB t.Count 0 100)) ∧ True] hB ⟨⟨(l00In_ok t.Count 0 100), trivial⟩, trivial⟩ ?_
      refine aw_ret ?_
      refine ae_ret hB (Bv (inB t.Count 0 100)) (by kernel_rfl) (.inl (by first | rfl | (refine congrArg Bv ?_; simp [okTrained', inB, *]; done) | (refine congrArg Bv ?_; simp [okTrained', inB, *]; omega) | (refine congrArg Bv ?_; simp_all [okTrained', inB]; done) | (refine congrArg Bv ?_; simp_all [okTrained', inB]; omega))) rfl (fun _ => trivial)
     refine aw_r [(4, .call [(true, .any)] true (Bv true)), (11, .call [(true, .any)] true (Bv true)), (19, .call [(true, .any)] true (Bv true)), (33, .dec true)] [0, 38] [] [.ptr false [Sv t.Label, slFeat false t.Base, slFeat false t.Feats, I t.Count], Bv true] [] [Con Tryz.prog 47 [Sv t.Label] true (Bv true) ∧ True, Con Tryz.prog 46 [slFeat false t.Base] true (Bv true) ∧ True, Con Tryz.prog 46 [slFeat false t.Feats] true (Bv true) ∧ True, (t.Base.length : Int) ≠ (t.Feats.length : Int)] hB ⟨⟨(con_bool h1 (specIsLabel_ok t.Label ok)), trivial⟩, ⟨(con_bool h2 (l09Ok_ok t.Base)), trivial⟩, ⟨(con_bool h3 (l09Ok_ok t.Feats)), trivial⟩, h4, trivial⟩ ?_
     refine ae_then ?_
     refine aw_true rfl ?_
     refine aR [] [2] [] [Bv false] [] [] hB trivial ?_
     refine aw_ret ?_
     refine ae_ret_then ?_
     refine ae_ret hB (Bv false) (by kernel_rfl) (.inl (by first | rfl | (refine congrArg Bv ?_; simp [okTrained', inB, *]; done) | (refine congrArg Bv ?_; simp [okTrained', inB, *]; omega) | (refine congrArg Bv ?_; simp_all [okTrained', inB]; done) | (refine congrArg Bv ?_; simp_all [okTrained', inB]; omega))) rfl (fun _ => trivial)
    refine aw_r [(4, .call [(true, .any)] true (Bv true)), (11, .call [(true, .any)] true (Bv true)), (19, .call [(true, .any)] true (Bv false))] [0, 38] [] [.ptr false [Sv t.Label, slFeat false t.Base, slFeat false t.Feats, I t.Count], Bv true] [] [Con Tryz.prog 47 [Sv t.Label] true (Bv true) ∧ True, Con Tryz.prog 46 [slFeat false t.Base] true (Bv true) ∧ True, Con Tryz.prog 46 [slFeat false t.Feats] true (Bv false) ∧ True] hB ⟨⟨(con_bool h1 (specIsLabel_ok t.Label ok)), trivial⟩, ⟨(con_bool h2 (l09Ok_ok t.Base)), trivial⟩, ⟨(con_bool h3 (l09Ok_ok t.Feats)), trivial⟩, trivial⟩ ?_
    refine ae_then ?_
    refine aw_true rfl ?_
    refine aR [] [2] [] [Bv false] [] [] hB trivial ?_
    refine aw_ret ?_
    refine ae_ret_then ?_
    refine ae_ret hB (Bv false) (by kernel_rfl) (.inl (by first | rfl | (refine congrArg Bv ?_; simp [okTrained', inB, *]; done) | (refine congrArg Bv ?_; simp [okTrained', inB, *]; omega) | (refine congrArg Bv ?_; simp_all [okTrained', inB]; done) | (refine congrArg Bv ?_; simp_all [okTrained', inB]; omega))) rfl (fun _ => trivial)
   refine aw_r [(4, .call [(true, .any)] true (Bv true)), (11, .call [(true, .any)] true (Bv false))] [0, 38] [] [.ptr false [Sv t.Label, slFeat false t.Base, slFeat false t.Feats, I t.Count], Bv true] [] [Con Tryz.prog 47 [Sv t.Label] true (Bv true) ∧ True, Con Tryz.prog 46 [slFeat false t.Base] true (Bv false) ∧ True] hB ⟨⟨(con_bool h1 (specIsLabel_ok t.Label ok)), trivial⟩, ⟨(con_bool h2 (l09Ok_ok t.Base)), trivial⟩, trivial⟩ ?_
   refine ae_then ?_
   refine aw_true rfl ?_
   refine aR [] [2] [] [Bv false] [] [] hB trivial ?_
   refine aw_ret ?_
   refine ae_ret_then ?_
   refine ae_ret hB (Bv false) (by kernel_rfl) (.inl (by first | rfl | (refine congrArg Bv ?_; simp [okTrained', inB, *]; done) | (refine congrArg Bv ?_; simp [okTrained', inB, *]; omega) | (refine congrArg Bv ?_; simp_all [okTrained', inB]; done) | (refine congrArg Bv ?_; simp_all [okTrained', inB]; omega))) rfl (fun _ => trivial)
  refine aw_r [(4, .call [(true, .any)] true (Bv false))] [0, 38] [] [.ptr false [Sv t.Label, slFeat false t.Base, slFeat false t.Feats, I t.Count], Bv true] [] [Con Tryz.prog 47 [Sv t.Label] true (Bv false) ∧ True] hB ⟨⟨(con_bool h1 (specIsLabel_ok t.Label ok)), trivial⟩, trivial⟩ ?_
  refine ae_then ?_
  refine aw_true rfl ?_
  refine aR [] [2] [] [Bv false] [] [] hB trivial ?_
  refine aw_ret ?_
  refine ae_ret_then ?_
  refine ae_ret hB (Bv false) (by kernel_rfl) (.inl (by first | rfl | (refine congrArg Bv ?_; simp [okTrained', inB, *]; done) | (refine congrArg Bv ?_; simp [okTrained', inB, *]; omega) | (refine congrArg Bv ?_; simp_all [okTrained', inB]; done) | (refine congrArg Bv ?_; simp_all [okTrained', inB]; omega))) rfl (fun _ => trivial)


-- spec.l24Writer
theorem l24Writer_ok (w : Writer) (ok : okWriter w) : Con Tryz.prog 38 [.ptr false [I w.Band, slTrained false w.Trained]] true (Bv (okWriter' w)) := by
  refine fn_ok (fn := Tryz.f38) (nt := 34) Tryz.func38 rfl rfl rfl rfl (by simp [taggedL, tagged, tagTrained]) fun B hB => ?_
  refine aw_lens (x := .ptr false [I w.Band, slTrained false w.Trained]) 0 rfl (fun len_w => ?_)
  simp [LenOK, LenL, cFeat, cTrained, fFeat, fTrained, slFeat, slTrained] at len_w
  refine aR [] [0] [] [.ptr false [I w.Band, slTrained false w.Trained]] [] [] hB trivial ?_
  refine aw_seq ?_
  refine aR [] [0, 3] [] [.ptr false [I w.Band, slTrained false w.Trained], I 0] [] [] hB trivial ?_
  refine aw_block ?_
  refine aw_loop (fun gn gσ => ∃ (i : Int), gn = ((w.Trained.length : Int) - i).toNat ∧ (0 ≤ i ∧ i ≤ (w.Trained.length : Int)) ∧ (∀ j : Nat, (j : Int) < i → okTrained' (at_ w.Trained j) = true) ∧ gσ = mkS [(0, .ptr false [I w.Band, slTrained false w.Trained]), (3, I i)] []) (((w.Trained.length : Int) - 0).toNat) ⟨0, rfl, (by omega), (by intro j hj; omega), rfl⟩ (fun gn gσ hI => ?_)
  obtain ⟨i, rfl, hi0, hall0, rfl⟩ := hI
  refine aw_seq ?_
  refine aw_seq ?_
  by_cases h1 : i < (w.Trained.length : Int)
  ·have hi : i.toNat < w.Trained.length := by omega
   refine aw_r [(6, .dec true)] [0, 3, 10] [] [.ptr false [I w.Band, slTrained false w.Trained], I i, Bv true] [] [i < (w.Trained.length : Int)] hB ⟨h1, trivial⟩ ?_
   refine ae_then ?_
   refine aw_true rfl ?_
   refine aw_skip ?_
   refine ae_then ?_
   refine aw_seq ?_
   refine aw_block ?_
   refine aw_seq ?_
   rcases Bool.eq_false_or_eq_true (okTrained' (at_ w.Trained i.toNat)) with h2 | h2
   ·refine aw_r [(6, .call [(true, .any)] true (Bv true))] [0, 3, 20] [] [.ptr false [I w.Band, slTrained false w.Trained], I i, Bv false] [] [(0 : Int) ≤ i ∧ i < (w.Trained.length : Int), Con Tryz.prog 74 [.ptr false [Sv ((at_ w.Trained i.toNat).Label), slFeat false ((at_ w.Trained i.toNat).Base), slFeat false ((at_ w.Trained i.toNat).Feats), I ((at_ w.Trained i.toNat).Count)]] true (Bv true) ∧ True] hB ⟨⟨(by omega), (by omega)⟩, ⟨(con_bool h2 (l24Ok_ok (at_ w.Trained i.toNat) (ok _ (at_mem hi)))), trivial⟩, trivial⟩ ?_
    refine ae_then ?_
    refine aw_false rfl ?_
    refine aw_skip ?_
    refine ae_block 1 ?_
    refine ae_then ?_
    refine aw_r [] [0, 3] [] [.ptr false [I w.Band, slTrained false w.Trained], I (i + 1)] [] [inR .i64 (i + 1)] hB ⟨(inR_i64 (by omega) (by omega)), trivial⟩ ?_
    exact ae_again _ (by omega) ⟨(i + 1), rfl, (by omega), (by intro j hj; by_cases ej : j = i.toNat; (subst ej; first | assumption | exact hok); exact hall0 j (by omega)), rfl⟩
   have hall : allN w.Trained.length (fun j => okTrained' (at_ w.Trained j)) = false := allN_not hi h2
   refine aw_r [(6, .call [(true, .any)] true (Bv false))] [0, 3, 20] [] [.ptr false [I w.Band, slTrained false w.Trained], I i, Bv true] [] [(0 : Int) ≤ i ∧ i < (w.Trained.length : Int), Con Tryz.prog 74 [.ptr false [Sv ((at_ w.Trained i.toNat).Label), slFeat false ((at_ w.Trained i.toNat).Base), slFeat false ((at_ w.Trained i.toNat).Feats), I ((at_ w.Trained i.toNat).Count)]] true (Bv false) ∧ True] hB ⟨⟨(by omega), (by omega)⟩, ⟨(con_bool h2 (l24Ok_ok (at_ w.Trained i.toNat) (ok _ (at_mem hi)))), trivial⟩, trivial⟩ ?_
   refine ae_then ?_
   refine aw_true rfl ?_
   refine aR [] [2] [] [Bv false] [] [] hB trivial ?_
   refine aw_ret ?_
   refine ae_ret_block (ae_ret_then (ae_ret_then (ae_ret_block (ae_ret_then ?_))))
   refine ae_ret hB (Bv false) (by kernel_rfl) (.inl (by first | rfl | (refine congrArg Bv ?_; simp [okWriter', inB, *]; done) | (refine congrArg Bv ?_; simp [okWriter', inB, *]; omega) | (refine congrArg Bv ?_; simp_all [okWriter', inB]; done) | (refine congrArg Bv ?_; simp_all [okWriter', inB]; omega))) rfl (fun _ => trivial)
  have hall : allN w.Trained.length (fun j => okTrained' (at_ w.Trained j)) = true := allN_at (fun j hj => hall0 j (by omega))
  refine aw_r [(6, .dec false)] [0, 3, 10] [] [.ptr false [I w.Band, slTrained false w.Trained], I i, Bv false] [] [¬ (i < (w.Trained.length : Int))] hB ⟨h1, trivial⟩ ?_
  refine ae_then ?_
  refine aw_false rfl ?_
  refine aw_exit ?_
  refine ae_exit_then ?_
  refine ae_exit_then ?_
  refine ae_exit_same ?_
  refine ae_then ?_
  refine aw_seq ?_
  rcases Bool.eq_false_or_eq_true (inB w.Band 0 72) with h3 | h3
  ·refine aw_r [(4, .call [(true, .any), (true, .any), (true, .any)] true (Bv true))] [2] [] [Bv (decide ((w.Trained.length : Int) ≤ 40))] [] [Con Tryz.prog 48 [I w.Band, I 0, I 72] true (Bv true) ∧ True] hB ⟨⟨(con_bool h3 (l00In_ok w.Band 0 72)), trivial⟩, trivial⟩ ?_
   refine ae_then ?_
   refine aw_ret ?_
   refine ae_ret hB (Bv (decide ((w.Trained.length : Int) ≤ 40))) (by kernel_rfl) (.inl (by first | rfl | (refine congrArg Bv ?_; simp [okWriter', inB, *]; done) | (refine congrArg Bv ?_; simp [okWriter', inB, *]; omega) | (refine congrArg Bv ?_; simp_all [okWriter', inB]; done) | (refine congrArg Bv ?_; simp_all [okWriter', inB]; omega))) rfl (fun _ => trivial)
  refine aw_r [(4, .call [(true, .any), (true, .any), (true, .any)] true (Bv false))] [2] [] [Bv false] [] [Con Tryz.prog 48 [I w.Band, I 0, I 72] true (Bv false) ∧ True] hB ⟨⟨(con_bool h3 (l00In_ok w.Band 0 72)), trivial⟩, trivial⟩ ?_
  refine ae_then ?_
  refine aw_ret ?_
  refine ae_ret hB (Bv false) (by kernel_rfl) (.inl (by first | rfl | (refine congrArg Bv ?_; simp [okWriter', inB, *]; done) | (refine congrArg Bv ?_; simp [okWriter', inB, *]; omega) | (refine congrArg Bv ?_; simp_all [okWriter', inB]; done) | (refine congrArg Bv ?_; simp_all [okWriter', inB]; omega))) rfl (fun _ => trivial)


-- spec.ValidWriter
theorem specValidWriter_ok (w : Writer) (ok_w : okWriter w) : Con Tryz.prog 9 [agWriter w] true (Bv (okWriter' w)) := by
  refine fn_ok (fn := Tryz.f9) (nt := 4) Tryz.func9 rfl rfl rfl rfl (by simp [taggedL, tagged, tagTrained]) fun B hB => ?_
  refine aw_lens (x := agWriter w) 0 rfl (fun len_w => ?_)
  simp [LenOK, LenL, cFeat, cTrained, fFeat, fTrained, slFeat, slTrained] at len_w
  refine aR [(0, .new 1)] [1] [1] [.ref 1 0] [some (bxWriter w)] [] hB trivial ?_
  refine aR [(0, .call [(false, .ptr false [I w.Band, slTrained false w.Trained])] true (Bv (okWriter' w)))] [2] [] [Bv (okWriter' w)] [] [Con Tryz.prog 38 [.ptr false [I w.Band, slTrained false w.Trained]] true (Bv (okWriter' w)) ∧ ((false = true → true = true) ∧ AV.idsL [I w.Band, slTrained false w.Trained] = [] ∧ (valOf (I w.Band) = valOf (I w.Band)) ∧ ((false = true → false = true) ∧ 4 = 4 ∧ w.Trained.length = w.Trained.length ∧ ∀ i_, i_ < w.Trained.length → (fTrained false w.Trained) i_ = (fTrained false w.Trained) i_ ∨ (AV.idsL ((fTrained false w.Trained) i_) = [] ∧ leL (fun _ => none) false ((fTrained false w.Trained) i_) ((fTrained false w.Trained) i_))) ∧ ([] : List AV) = []) ∧ True] hB ⟨⟨(l24Writer_ok w ok_w), ⟨(fun h => by cases h), rfl, ⟨rfl, ⟨⟨(fun h => by cases h), rfl, rfl, fun i _ => .inl rfl⟩, rfl⟩⟩⟩, trivial⟩, trivial⟩ ?_
  refine aw_ret ?_
  refine ae_ret hB (Bv (okWriter' w)) (by kernel_rfl) (.inl rfl) rfl (fun _ => trivial)


def sameL {α : Type} [Inhabited α] [DecidableEq α] (a b : List α) : Bool := decide (a.length = b.length) && allN a.length (fun j => decide (at_ a j = at_ b j))
theorem sameL_refl {α : Type} [Inhabited α] [DecidableEq α] (a : List α) : sameL a a = true := by simp [sameL, allN_iff]

theorem feat_ext {a b : Feat} (h1 : a.X = b.X) (h2 : a.Y = b.Y) (h3 : a.D = b.D) : a = b := by
  cases a; cases b; simp_all

-- spec.l11SameFeats
theorem l11SameFeats_ok (a : List Feat) (b : List Feat) : Con Tryz.prog 75 [slFeat false a, slFeat false b] true (Bv (sameL a b)) := by
  refine fn_ok (fn := Tryz.f75) (nt := 26) Tryz.func75 rfl rfl rfl rfl (by simp [taggedL, tagged, tagFeat]) fun B hB => ?_
  refine aw_lens (x := slFeat false a) 0 rfl (fun len_a => ?_)
  simp [LenOK, LenL, cFeat, fFeat, slFeat] at len_a
  refine aw_lens (x := slFeat false b) 1 rfl (fun len_b => ?_)
  simp [LenOK, LenL, cFeat, fFeat, slFeat] at len_b
  refine aR [] [0, 1] [] [slFeat false a, slFeat false b] [] [] hB trivial ?_
  refine aw_seq ?_
  refine aw_seq ?_
  by_cases h1 : (a.length : Int) = (b.length : Int)
  ·have hlen : a.length = b.length := by omega
   refine aw_r [(4, .dec false)] [0, 1, 10] [] [slFeat false a, slFeat false b, Bv false] [] [¬ ((a.length : Int) ≠ (b.length : Int))] hB ⟨(fun hq => hq h1), trivial⟩ ?_
   refine ae_then ?_
   refine aw_false rfl ?_
   refine aw_skip ?_
   refine ae_then ?_
   refine aw_seq ?_
   refine aR [] [0, 1, 5] [] [slFeat false a, slFeat false b, I 0] [] [] hB trivial ?_
   refine aw_block ?_
   refine aw_loop (fun gn gσ => ∃ (i : Int), gn = ((a.length : Int) - i).toNat ∧ (0 ≤ i ∧ i ≤ (a.length : Int)) ∧ (∀ j : Nat, (j : Int) < i → decide (at_ a j = at_ b j) = true) ∧ gσ = mkS [(0, slFeat false a), (1, slFeat false b), (5, I i)] []) (((a.length : Int) - 0).toNat) ⟨0, rfl, (by omega), (by intro j hj; omega), rfl⟩ (fun gn gσ hI => ?_)
   obtain ⟨i, rfl, hi0, hall0, rfl⟩ := hI
   refine aw_seq ?_
   refine aw_seq ?_
   by_cases h2 : i < (a.length : Int)
   ·have hi : i.toNat < a.length := by omega
    refine aw_r [(3, .dec true)] [0, 1, 5, 14] [] [slFeat false a, slFeat false b, I i, Bv true] [] [i < (a.length : Int)] hB ⟨h2, trivial⟩ ?_
    refine ae_then ?_
    refine aw_true rfl ?_
    refine aw_skip ?_
    refine ae_then ?_
    refine aw_seq ?_
    refine aw_block ?_
    refine aw_seq ?_
    by_cases h3 : ((at_ a i.toNat).X) = ((at_ b i.toNat).X) ∧ ((at_ a i.toNat).Y) = ((at_ b i.toNat).Y) ∧ ((at_ a i.toNat).D) = ((at_ b i.toNat).D) ∧ True
    ·have hok : decide (at_ a i.toNat = at_ b i.toNat) = true := decide_eq_true (feat_ext h3.1 h3.2.1 h3.2.2.1)
     refine aw_r [(8, .dec false)] [0, 1, 5, 25] [] [slFeat false a, slFeat false b, I i, Bv false] [] [(0 : Int) ≤ i ∧ i < (a.length : Int), (0 : Int) ≤ i ∧ i < (b.length : Int), ¬ (¬ (((at_ a i.toNat).X) = ((at_ b i.toNat).X) ∧ ((at_ a i.toNat).Y) = ((at_ b i.toNat).Y) ∧ ((at_ a i.toNat).D) = ((at_ b i.toNat).D) ∧ True))] hB ⟨⟨(by omega), (by omega)⟩, ⟨(by omega), (by omega)⟩, (fun hq => hq h3), trivial⟩ ?_
     refine ae_then ?_
     refine aw_false rfl ?_
     refine aw_skip ?_
     refine ae_block 1 ?_
     refine ae_then ?_
     refine aw_r [] [0, 1, 5] [] [slFeat false a, slFeat false b, I (i + 1)] [] [inR .i64 (i + 1)] hB ⟨(inR_i64 (by omega) (by omega)), trivial⟩ ?_
     exact ae_again _ (by omega) ⟨(i + 1), rfl, (by omega), (by intro j hj; by_cases ej : j = i.toNat; (subst ej; first | assumption | exact hok); exact hall0 j (by omega)), rfl⟩
    have hall : allN a.length (fun j => decide (at_ a j = at_ b j)) = false := allN_not hi (decide_eq_false (fun e => h3 ⟨by rw [e], by rw [e], by rw [e], trivial⟩))
    refine aw_r [(8, .dec true)] [0, 1, 5, 25] [] [slFeat false a, slFeat false b, I i, Bv true] [] [(0 : Int) ≤ i ∧ i < (a.length : Int), (0 : Int) ≤ i ∧ i < (b.length : Int), ¬ (((at_ a i.toNat).X) = ((at_ b i.toNat).X) ∧ ((at_ a i.toNat).Y) = ((at_ b i.toNat).Y) ∧ ((at_ a i.toNat).D) = ((at_ b i.toNat).D) ∧ True)] hB ⟨⟨(by omega), (by omega)⟩, ⟨(by omega), (by omega)⟩, h3, trivial⟩ ?_
    refine ae_then ?_
    refine aw_true rfl ?_
    refine aR [] [4] [] [Bv false] [] [] hB trivial ?_
    refine aw_ret ?_
    refine ae_ret_block (ae_ret_then (ae_ret_then (ae_ret_block (ae_ret_then ?_))))
    refine ae_ret hB (Bv false) (by kernel_rfl) (.inl (by first | (simp [sameL, hlen]; done) | (unfold sameL; rw [hall]; simp [hlen]))) rfl (fun _ => trivial)
   have hall : allN a.length (fun j => decide (at_ a j = at_ b j)) = true := allN_at (fun j hj => hall0 j (by omega))
   refine aw_r [(3, .dec false)] [0, 1, 5, 14] [] [slFeat false a, slFeat false b, I i, Bv false] [] [¬ (i < (a.length : Int))] hB ⟨h2, trivial⟩ ?_
   refine ae_then ?_
   refine aw_false rfl ?_
   refine aw_exit ?_
   refine ae_exit_then ?_
   refine ae_exit_then ?_
   refine ae_exit_same ?_
   refine ae_then ?_
   refine aR [] [4] [] [Bv true] [] [] hB trivial ?_
   refine aw_ret ?_
   refine ae_ret hB (Bv true) (by kernel_rfl) (.inl (by first | (simp [sameL, hlen]; done) | (unfold sameL; rw [hall]; simp [hlen]))) rfl (fun _ => trivial)
  have hlen : ¬ a.length = b.length := by omega
  refine aw_r [(4, .dec true)] [0, 1, 10] [] [slFeat false a, slFeat false b, Bv true] [] [(a.length : Int) ≠ (b.length : Int)] hB ⟨h1, trivial⟩ ?_
  refine ae_then ?_
  refine aw_true rfl ?_
  refine aR [] [4] [] [Bv false] [] [] hB trivial ?_
  refine aw_ret ?_
  refine ae_ret_then ?_
  refine ae_ret hB (Bv false) (by kernel_rfl) (.inl (by first | (simp [sameL, hlen]; done) | (unfold sameL; rw [hall]; simp [hlen]))) rfl (fun _ => trivial)


def sameT (a b : Trained) : Bool := decide (a.Label = b.Label) && (sameL a.Base b.Base && (sameL a.Feats b.Feats && decide (a.Count = b.Count)))
theorem sameT_refl (a : Trained) : sameT a a = true := by simp [sameT, sameL_refl]

-- spec.l24Same
theorem l24Same_ok (a : Trained) (b : Trained) : Con Tryz.prog 39 [.ptr false [Sv a.Label, slFeat false a.Base, slFeat false a.Feats, I a.Count], .ptr false [Sv b.Label, slFeat false b.Base, slFeat false b.Feats, I b.Count]] true (Bv (sameT a b)) := by
  refine fn_ok (fn := Tryz.f39) (nt := 47) Tryz.func39 rfl rfl rfl rfl (by simp [taggedL, tagged, tagFeat]) fun B hB => ?_
  refine aw_lens (x := .ptr false [Sv a.Label, slFeat false a.Base, slFeat false a.Feats, I a.Count]) 0 rfl (fun len_a => ?_)
  simp [LenOK, LenL, cFeat, fFeat, slFeat] at len_a
  refine aw_lens (x := .ptr false [Sv b.Label, slFeat false b.Base, slFeat false b.Feats, I b.Count]) 1 rfl (fun len_b => ?_)
  simp [LenOK, LenL, cFeat, fFeat, slFeat] at len_b
  refine aR [] [0, 1] [] [.ptr false [Sv a.Label, slFeat false a.Base, slFeat false a.Feats, I a.Count], .ptr false [Sv b.Label, slFeat false b.Base, slFeat false b.Feats, I b.Count]] [] [] hB trivial ?_
  refine aw_seq ?_
  by_cases h1 : a.Label = b.Label
  ·rcases Bool.eq_false_or_eq_true (sameL a.Base b.Base) with h2 | h2
   ·rcases Bool.eq_false_or_eq_true (sameL a.Feats b.Feats) with h3 | h3
    ·refine aw_r [(8, .dec true), (18, .call [(true, .any), (true, .any)] true (Bv true)), (29, .call [(true, .any), (true, .any)] true (Bv true))] [4] [] [Bv (decide (a.Count = b.Count))] [] [a.Label = b.Label, Con Tryz.prog 75 [slFeat false a.Base, slFeat false b.Base] true (Bv true) ∧ True, Con Tryz.prog 75 [slFeat false a.Feats, slFeat false b.Feats] true (Bv true) ∧ True] hB ⟨h1, ⟨(con_bool h2 (l11SameFeats_ok a.Base b.Base)), trivial⟩, ⟨(con_bool h3 (l11SameFeats_ok a.Feats b.Feats)), trivial⟩, trivial⟩ ?_
     refine ae_then ?_
     refine aw_ret ?_
     refine ae_ret hB (Bv (decide (a.Count = b.Count))) (by kernel_rfl) (.inl (by first | rfl | (refine congrArg Bv ?_; simp [sameT, *]; done) | (refine congrArg Bv ?_; simp [sameT, *]; omega) | (refine congrArg Bv ?_; simp_all [sameT]; done) | (refine congrArg Bv ?_; simp_all [sameT]; omega))) rfl (fun _ => trivial)
    refine aw_r [(8, .dec true), (18, .call [(true, .any), (true, .any)] true (Bv true)), (29, .call [(true, .any), (true, .any)] true (Bv false))] [4] [] [Bv false] [] [a.Label = b.Label, Con Tryz.prog 75 [slFeat false a.Base, slFeat false b.Base] true (Bv true) ∧ True, Con Tryz.prog 75 [slFeat false a.Feats, slFeat false b.Feats] true (Bv false) ∧ True] hB ⟨h1, ⟨(con_bool h2 (l11SameFeats_ok a.Base b.Base)), trivial⟩, ⟨(con_bool h3 (l11SameFeats_ok a.Feats b.Feats)), trivial⟩, trivial⟩ ?_
    refine ae_then ?_
    refine aw_ret ?_
    refine ae_ret hB (Bv false) (by kernel_rfl) (.inl (by first | rfl | (refine congrArg Bv ?_; simp [sameT, *]; done) | (refine congrArg Bv ?_; simp [sameT, *]; omega) | (refine congrArg Bv ?_; simp_all [sameT]; done) | (refine congrArg Bv ?_; simp_all [sameT]; omega))) rfl (fun _ => trivial)
   refine aw_r [(8, .dec true), (18, .call [(true, .any), (true, .any)] true (Bv false))] [4] [] [Bv false] [] [a.Label = b.Label, Con Tryz.prog 75 [slFeat false a.Base, slFeat false b.Base] true (Bv false) ∧ True] hB ⟨h1, ⟨(con_bool h2 (l11SameFeats_ok a.Base b.Base)), trivial⟩, trivial⟩ ?_
   refine ae_then ?_
   refine aw_ret ?_
   refine ae_ret hB (Bv false) (by kernel_rfl) (.inl (by first | rfl | (refine congrArg Bv ?_; simp [sameT, *]; done) | (refine congrArg Bv ?_; simp [sameT, *]; omega) | (refine congrArg Bv ?_; simp_all [sameT]; done) | (refine congrArg Bv ?_; simp_all [sameT]; omega))) rfl (fun _ => trivial)
  refine aw_r [(8, .dec false)] [4] [] [Bv false] [] [¬ (a.Label = b.Label)] hB ⟨h1, trivial⟩ ?_
  refine ae_then ?_
  refine aw_ret ?_
  refine ae_ret hB (Bv false) (by kernel_rfl) (.inl (by first | rfl | (refine congrArg Bv ?_; simp [sameT, *]; done) | (refine congrArg Bv ?_; simp [sameT, *]; omega) | (refine congrArg Bv ?_; simp_all [sameT]; done) | (refine congrArg Bv ?_; simp_all [sameT]; omega))) rfl (fun _ => trivial)


-- spec.SameTrained
theorem specSameTrained_ok (a : Trained) (b : Trained) : Con Tryz.prog 10 [agTrained a, agTrained b] true (Bv (sameT a b)) := by
  refine fn_ok (fn := Tryz.f10) (nt := 6) Tryz.func10 rfl rfl rfl rfl (by simp [taggedL, tagged, tagFeat]) fun B hB => ?_
  refine aw_lens (x := agTrained a) 0 rfl (fun len_a => ?_)
  simp [LenOK, LenL, cFeat, fFeat, slFeat] at len_a
  refine aw_lens (x := agTrained b) 1 rfl (fun len_b => ?_)
  simp [LenOK, LenL, cFeat, fFeat, slFeat] at len_b
  refine aR [(0, .new 2), (1, .new 3)] [2, 3] [2, 3] [.ref 2 0, .ref 3 0] [some (bxTrained a), some (bxTrained b)] [] hB trivial ?_
  refine aR [(0, .call [(false, .ptr false [Sv a.Label, slFeat false a.Base, slFeat false a.Feats, I a.Count]), (false, .ptr false [Sv b.Label, slFeat false b.Base, slFeat false b.Feats, I b.Count])] true (Bv (sameT a b)))] [4] [] [Bv (sameT a b)] [] [Con Tryz.prog 39 [.ptr false [Sv a.Label, slFeat false a.Base, slFeat false a.Feats, I a.Count], .ptr false [Sv b.Label, slFeat false b.Base, slFeat false b.Feats, I b.Count]] true (Bv (sameT a b)) ∧ ((false = true → true = true) ∧ AV.idsL [Sv a.Label, slFeat false a.Base, slFeat false a.Feats, I a.Count] = [] ∧ (valOf (Sv a.Label) = valOf (Sv a.Label)) ∧ ((false = true → false = true) ∧ 3 = 3 ∧ a.Base.length = a.Base.length ∧ ∀ i_, i_ < a.Base.length → (fFeat a.Base) i_ = (fFeat a.Base) i_ ∨ (AV.idsL ((fFeat a.Base) i_) = [] ∧ leL (fun _ => none) false ((fFeat a.Base) i_) ((fFeat a.Base) i_))) ∧ ((false = true → false = true) ∧ 3 = 3 ∧ a.Feats.length = a.Feats.length ∧ ∀ i_, i_ < a.Feats.length → (fFeat a.Feats) i_ = (fFeat a.Feats) i_ ∨ (AV.idsL ((fFeat a.Feats) i_) = [] ∧ leL (fun _ => none) false ((fFeat a.Feats) i_) ((fFeat a.Feats) i_))) ∧ (valOf (I a.Count) = valOf (I a.Count)) ∧ ([] : List AV) = []) ∧ ((false = true → true = true) ∧ AV.idsL [Sv b.Label, slFeat false b.Base, slFeat false b.Feats, I b.Count] = [] ∧ (valOf (Sv b.Label) = valOf (Sv b.Label)) ∧ ((false = true → false = true) ∧ 3 = 3 ∧ b.Base.length = b.Base.length ∧ ∀ i_, i_ < b.Base.length → (fFeat b.Base) i_ = (fFeat b.Base) i_ ∨ (AV.idsL ((fFeat b.Base) i_) = [] ∧ leL (fun _ => none) false ((fFeat b.Base) i_) ((fFeat b.Base) i_))) ∧ ((false = true → false = true) ∧ 3 = 3 ∧ b.Feats.length = b.Feats.length ∧ ∀ i_, i_ < b.Feats.length → (fFeat b.Feats) i_ = (fFeat b.Feats) i_ ∨ (AV.idsL ((fFeat b.Feats) i_) = [] ∧ leL (fun _ => none) false ((fFeat b.Feats) i_) ((fFeat b.Feats) i_))) ∧ (valOf (I b.Count) = valOf (I b.Count)) ∧ ([] : List AV) = []) ∧ True] hB ⟨⟨(l24Same_ok a b), ⟨(fun h => by cases h), rfl, ⟨rfl, ⟨⟨(fun h => by cases h), rfl, rfl, fun i _ => .inl rfl⟩, ⟨⟨(fun h => by cases h), rfl, rfl, fun i _ => .inl rfl⟩, ⟨rfl, rfl⟩⟩⟩⟩⟩, ⟨(fun h => by cases h), rfl, ⟨rfl, ⟨⟨(fun h => by cases h), rfl, rfl, fun i _ => .inl rfl⟩, ⟨⟨(fun h => by cases h), rfl, rfl, fun i _ => .inl rfl⟩, ⟨rfl, rfl⟩⟩⟩⟩⟩, trivial⟩, trivial⟩ ?_
  refine aw_ret ?_
  refine ae_ret hB (Bv (sameT a b)) (by kernel_rfl) (.inl rfl) rfl (fun _ => trivial)


def okStore' (s : Store) : Bool := inB s.Band 0 72 && (decide ((s.Templates.length : Int) ≤ 40) && allN s.Templates.length (fun j => okTm (at_ s.Templates j)))
theorem okStore_iff {s : Store} : okStore' s = true ↔ (0 ≤ s.Band ∧ s.Band ≤ 72) ∧ s.Templates.length ≤ 40 ∧ ∀ j, j < s.Templates.length → okTm (at_ s.Templates j) = true := by
  simp only [okStore', Bool.and_eq_true, decide_eq_true_eq, inB, allN_iff]
  constructor
  · rintro ⟨a, b, c⟩; exact ⟨a, by omega, c⟩
  · rintro ⟨a, b, c⟩; exact ⟨a, by omega, c⟩

def okTemplate (x : Template) : Prop := (x.Label.size ≤ 9223372036854775807)

def okStore (x : Store) : Prop := (∀ y ∈ x.Templates, okTemplate y)

/-- The store of a writer. -/
def sowS (w : Writer) : Store := ⟨w.Band, w.Trained.map fun t => ⟨t.Label, t.Feats⟩⟩
def wosW (s : Store) : Writer := ⟨s.Band, s.Templates.map fun t => ⟨t.Label, t.Feats, t.Feats, 0⟩⟩
theorem map_next {α β : Type} [Inhabited α] {f : α → β} {xs : List α} {k : Nat} {y : β} (h : k < xs.length) (hy : y = f (at_ xs k)) : (xs.take k).map f ++ [y] = (xs.take (k + 1)).map f := by
  rw [take_snoc' h, List.map_append, hy]; rfl
theorem at_map {α β : Type} [Inhabited α] [Inhabited β] {f : α → β} {xs : List α} {k : Nat} (h : k < xs.length) : at_ (xs.map f) k = f (at_ xs k) := by
  rw [at_eq (by simpa using h), at_eq h, List.getElem_map]
theorem sow_ok {w : Writer} (h : okWriter' w = true) : okStore' (sowS w) = true := by
  have q := okW_iff.1 h
  refine okStore_iff.2 ⟨q.1, by simpa [sowS] using q.2.1, fun j hj => ?_⟩
  have hj' : j < w.Trained.length := by simpa [sowS] using hj
  have t := okTr_iff.1 (q.2.2 j hj')
  show okTm (at_ (w.Trained.map fun t : Trained => (⟨t.Label, t.Feats⟩ : Template)) j) = true
  rw [at_map hj']
  simp [okTm, t.1, t.2.2.1]

-- impl.StoreOfWriter
theorem StoreOfWriter_t (w : Writer) (hwk : okWriter' w = true) (okw : okWriter w) : ∃ (v : Store) (c : Int), (v = sowS w) ∧ (c = 0) ∧ Con Tryz.prog 11 [agWriter w] true (.tup [agStoreT v, I c]) := by
  have hw := okW_iff.1 hwk
  have hh : ∃ r : Store × Int, ((r.1 = sowS w) ∧ (r.2 = 0) ∧ (True)) ∧ CallOK Tryz.prog 11 [agWriter w] (lookO []) true (.tup [agStoreT r.1, I r.2]) (lookO []) := by
    refine fn_okX (Φ := fun r : Store × Int => (r.1 = sowS w) ∧ (r.2 = 0) ∧ (True)) [] (fun r => []) (fn := Tryz.f11) (nt := 34) Tryz.func11 rfl rfl (args := [agWriter w]) rfl (allcons (.inl ⟨rfl, by simp [tagged, taggedL, tagTrained]⟩) allnil) (res := fun r => .tup [agStoreT r.1, I r.2]) ?_
    refine xR [(0, .new 1), (1, .new 2)] [1, 2] [1, 2] [.ref 1 0, .ref 2 0] [some (bxWriter w), some (.box [I 0, nilA])] [] trivial ?_
    refine x_seq ?_
    refine xR [(1, .call [(true, .any)] true (Bv true))] [1, 2, 9] [1, 2] [.ref 1 0, .ref 2 0, Bv false] [some (bxWriter w), some (.box [I 0, nilA])] [Con Tryz.prog 30 [agWriter w] true (Bv true) ∧ True] ⟨⟨(con_bool hwk (ValidWriter_ok w okw)), trivial⟩, trivial⟩ ?_
    refine x_false rfl ?_
    refine x_skip ?_
    refine xe_then ?_
    refine xR [(3, .new 4)] [1, 2, 4] [1, 2, 4] [.ref 1 0, .ref 2 0, .ref 4 0] [some (bxWriter w), some (.box [I 0, nilA]), some (.box [I w.Band, nilA])] [] trivial ?_
    refine x_seq ?_
    refine xR [] [2, 4, 15, 16, 17] [2, 4] [.ref 2 0, .ref 4 0, slTrained false w.Trained, I (w.Trained.length : Int), I 0] [some (.box [I 0, nilA]), some (.box [I w.Band, nilA])] [] trivial ?_
    refine x_block ?_
    refine x_nilC 4 1 741 2 (fun _ => []) rfl (by kernel_rfl) ?_
    refine x_weak [] (T := [(2, .ref 2 0), (4, .ref 4 0), (15, slTrained false w.Trained), (16, I (w.Trained.length : Int)), (17, I 0)]) (O := [(2, .box [I 0, nilA]), (4, .box [I w.Band, .arr 741]), (741, .arr 2 (([] : List Template).length) (fTemplate true ([] : List Template)))]) rfl (⟨.inl rfl, .inl rfl, .inl rfl, .inl rfl, .inl rfl, trivial⟩) (⟨.inl rfl, .inl rfl, .inr ⟨rfl, (by first | rfl | (simp; done) | (simp; omega) | omega), fun i_ hi_ => absurd hi_ (Nat.not_lt_zero _)⟩, trivial⟩) ?_
    refine x_loop (X := Int × (List Template)) (fun x => mkS [(2, .ref 2 0), (4, .ref 4 0), (15, slTrained false w.Trained), (16, I (w.Trained.length : Int)), (17, I x.1)] [(2, .box [I 0, nilA]), (4, .box [I w.Band, .arr 741]), (741, .arr 2 x.2.length (fTemplate true x.2))]) (fun x => (0 ≤ x.1 ∧ x.1 ≤ (w.Trained.length : Int)) ∧ (x.2 = (w.Trained.take x.1.toNat).map (fun t => (⟨t.Label, t.Feats⟩ : Template))) ∧ True) (fun x => ((w.Trained.length : Int) - x.1).toNat) (0, ([] : List Template)) rfl (show (0 ≤ (0 : Int) ∧ (0 : Int) ≤ (w.Trained.length : Int)) ∧ (([] : List Template) = (w.Trained.take (0 : Int).toNat).map (fun t => (⟨t.Label, t.Feats⟩ : Template))) ∧ True from ⟨(by omega), (by rfl), trivial⟩) (fun x hI => ?_)
    obtain ⟨t17, ts⟩ := x
    obtain ⟨hi0, hts, _⟩ : (0 ≤ t17 ∧ t17 ≤ (w.Trained.length : Int)) ∧ (ts = (w.Trained.take t17.toNat).map (fun t => (⟨t.Label, t.Feats⟩ : Template))) ∧ True := hI
    show XW _ _ _ _ (mkS [(2, .ref 2 0), (4, .ref 4 0), (15, slTrained false w.Trained), (16, I (w.Trained.length : Int)), (17, I t17)] [(2, .box [I 0, nilA]), (4, .box [I w.Band, .arr 741]), (741, .arr 2 ts.length (fTemplate true ts))]) _ _
    refine x_seq ?_
    by_cases h1 : t17 < (w.Trained.length : Int)
    ·have hi : t17.toNat < w.Trained.length := by omega
     have hnx : (t17 + 1).toNat = t17.toNat + 1 := by omega
     have htl : ts.length = t17.toNat := by rw [hts, List.length_map, List.length_take]; omega
     have htn := okFeats_n (okTr_iff.1 (hw.2.2 _ hi)).2.2.1
     refine x_r [(0, .dec true)] [2, 4, 15, 16, 17, 18] [2, 4, 741] [.ref 2 0, .ref 4 0, slTrained false w.Trained, I (w.Trained.length : Int), I t17, Bv true] [some (.box [I 0, nilA]), some (.box [I w.Band, .arr 741]), some (.arr 2 ts.length (fTemplate true ts))] [t17 < (w.Trained.length : Int)] ⟨h1, trivial⟩ ?_
     refine xe_then ?_
     refine x_seq ?_
     refine x_true rfl ?_
     refine x_skip ?_
     refine xe_then ?_
     refine x_seq ?_
     refine x_block ?_
     refine xR [(2, .new 6)] [2, 4, 6, 15, 16, 17] [2, 4, 6, 741] [.ref 2 0, .ref 4 0, .ref 6 0, slTrained false w.Trained, I (w.Trained.length : Int), I t17] [some (.box [I 0, nilA]), some (.box [I w.Band, .arr 741]), some (bxTrained (at_ w.Trained t17.toNat)), some (.arr 2 ts.length (fTemplate true ts))] [(0 : Int) ≤ t17 ∧ t17 < (w.Trained.length : Int)] ⟨⟨(by omega), (by omega)⟩, trivial⟩ ?_
     refine x_r [(6, .call [(true, .any)] true (slFeat true ((at_ w.Trained t17.toNat).Feats))), (8, .new 29), (9, .new 30)] [2, 4, 15, 16, 17] [2, 4, 30] [.ref 2 0, .ref 4 0, slTrained false w.Trained, I (w.Trained.length : Int), I t17] [some (.box [I 0, nilA]), some (.box [I w.Band, .arr 30]), some (.arr 2 (ts.length + 1) (catF ts.length (fTemplate true ts) (litF [Sv ((at_ w.Trained t17.toNat).Label), slFeat true ((at_ w.Trained t17.toNat).Feats)] 2)))] [Con Tryz.prog 36 [slFeat false ((at_ w.Trained t17.toNat).Feats)] true (slFeat true ((at_ w.Trained t17.toNat).Feats)) ∧ True, (ts.length + 1) * 40 ≤ 140737488355328] ⟨⟨(cloneT_ok ((at_ w.Trained t17.toNat).Feats) (by omega)), trivial⟩, (by omega), trivial⟩ ?_
     refine xe_block 1 ?_
     refine xe_then ?_
     refine x_r [] [2, 4, 15, 16, 17] [2, 4, 30] [.ref 2 0, .ref 4 0, slTrained false w.Trained, I (w.Trained.length : Int), I (t17 + 1)] [some (.box [I 0, nilA]), some (.box [I w.Band, .arr 30]), some (.arr 2 (ts.length + 1) (catF ts.length (fTemplate true ts) (litF [Sv ((at_ w.Trained t17.toNat).Label), slFeat true ((at_ w.Trained t17.toNat).Feats)] 2)))] [inR .i64 (t17 + 1)] ⟨(inR_i64 (by omega) (by omega)), trivial⟩ ?_
     refine xe_weak [(741, 30)] (T := [(2, .ref 2 0), (4, .ref 4 0), (15, slTrained false w.Trained), (16, I (w.Trained.length : Int)), (17, I (t17 + 1))]) (O := [(2, .box [I 0, nilA]), (4, .box [I w.Band, .arr 741]), (741, .arr 2 ((ts ++ [(Template.mk ((at_ w.Trained t17.toNat).Label) ((at_ w.Trained t17.toNat).Feats))]).length) (fTemplate true (ts ++ [(Template.mk ((at_ w.Trained t17.toNat).Label) ((at_ w.Trained t17.toNat).Feats))])))]) rfl (⟨.inl rfl, .inl rfl, .inl rfl, .inl rfl, .inl rfl, trivial⟩) (⟨.inl rfl, .inl rfl, .inr ⟨rfl, (by first | rfl | (simp; done) | (simp; omega) | omega), fun i_ hi_ => .inl (cat_snoc (enc := (cTemplate true)) (xs := ts) rfl i_ hi_)⟩, trivial⟩) (xe_again ((t17 + 1), (ts ++ [(Template.mk ((at_ w.Trained t17.toNat).Label) ((at_ w.Trained t17.toNat).Feats))])) rfl (show (0 ≤ (t17 + 1) ∧ (t17 + 1) ≤ (w.Trained.length : Int)) ∧ ((ts ++ [(Template.mk ((at_ w.Trained t17.toNat).Label) ((at_ w.Trained t17.toNat).Feats))]) = (w.Trained.take (t17 + 1).toNat).map (fun t => (⟨t.Label, t.Feats⟩ : Template))) ∧ True from ⟨(by omega), (by rw [hnx, hts]; exact map_next hi rfl), trivial⟩) (by first | (show (((w.Trained.length : Int) - (t17 + 1)).toNat : Nat) < ((w.Trained.length : Int) - t17).toNat; omega) | (dsimp only; omega)))
    have hie : t17.toNat = w.Trained.length := by omega
    rw [hie, List.take_of_length_le (Nat.le_refl _)] at hts
    refine x_r [(0, .dec false)] [2, 4, 15, 16, 17, 18] [2, 4, 741] [.ref 2 0, .ref 4 0, slTrained false w.Trained, I (w.Trained.length : Int), I t17, Bv false] [some (.box [I 0, nilA]), some (.box [I w.Band, .arr 741]), some (.arr 2 ts.length (fTemplate true ts))] [¬ (t17 < (w.Trained.length : Int))] ⟨h1, trivial⟩ ?_
    refine xe_then ?_
    refine x_seq ?_
    refine x_false rfl ?_
    refine x_exit ?_
    refine xe_exit_then ?_
    refine xe_loop_exit ?_
    refine xe_exit_same ?_
    refine xe_then ?_
    refine xR [] [2, 3] [2, 741] [.ref 2 0, I 0] [some (.box [I w.Band, .arr 741]), some (.arr 2 ts.length (fTemplate true ts))] [] trivial ?_
    refine x_ret ?_
    refine xe_end ((Store.mk w.Band ts), 0) (show ((Store.mk w.Band ts) = sowS w) ∧ (0 = 0) ∧ (True) from ⟨(by first | rfl | (unfold sowS; rw [hts])), (by first | rfl | (unfold sowS; rw [hts])), trivial⟩) (trivial) (.tup [.agg [I w.Band, .arr 741], I 0]) (by kernel_rfl) (.inr ⟨⟨rfl, ⟨⟨(fun _ => rfl), rfl, rfl, fun i _ => .inl rfl⟩, rfl⟩⟩, ⟨rfl, rfl⟩⟩) (fun _ => rfl) (fun _ => (by simp [tagged, taggedL, tagTemplate]))
  obtain ⟨⟨v, c⟩, ⟨hh0, hh1, _⟩, hc⟩ := hh
  exact ⟨v, c, hh0, hh1, hc⟩


-- impl.validTemplate
theorem validTemplate_ok (t : Template) (ok : t.Label.size ≤ 9223372036854775807) : Con Tryz.prog 78 [agTemplate t] true (Bv (okTm t)) := by
  refine fn_ok (fn := Tryz.f78) (nt := 11) Tryz.func78 rfl rfl rfl rfl (by simp [taggedL, tagged, tagFeat]) fun B hB => ?_
  refine aw_lens (x := agTemplate t) 0 rfl (fun len_t => ?_)
  simp [LenOK, LenL, cFeat, fFeat, slFeat] at len_t
  refine aR [(0, .new 1)] [1] [1] [.ref 1 0] [some (bxTemplate t)] [] hB trivial ?_
  refine aw_seq ?_
  rcases Bool.eq_false_or_eq_true (okLabel t.Label) with h1 | h1
  ·refine aw_r [(2, .call [(true, .any)] true (Bv true)), (6, .call [(true, .any)] true (Bv (okFeats t.Feats 72)))] [2] [] [Bv (okFeats t.Feats 72)] [] [Con Tryz.prog 32 [Sv t.Label] true (Bv true) ∧ True, Con Tryz.prog 31 [slFeat false t.Feats] true (Bv (okFeats t.Feats 72)) ∧ True] hB ⟨⟨(con_bool h1 (implIsLabel_ok t.Label ok)), trivial⟩, ⟨(ValidSeq_ok t.Feats), trivial⟩, trivial⟩ ?_
   refine ae_then ?_
   refine aw_ret ?_
   refine ae_ret hB (Bv (okFeats t.Feats 72)) (by kernel_rfl) (.inl (by first | rfl | (refine congrArg Bv ?_; simp [okTm, *]; done) | (refine congrArg Bv ?_; simp [okTm, *]; omega) | (refine congrArg Bv ?_; simp_all [okTm]; done) | (refine congrArg Bv ?_; simp_all [okTm]; omega))) rfl (fun _ => trivial)
  refine aw_r [(2, .call [(true, .any)] true (Bv false))] [2] [] [Bv false] [] [Con Tryz.prog 32 [Sv t.Label] true (Bv false) ∧ True] hB ⟨⟨(con_bool h1 (implIsLabel_ok t.Label ok)), trivial⟩, trivial⟩ ?_
  refine ae_then ?_
  refine aw_ret ?_
  refine ae_ret hB (Bv false) (by kernel_rfl) (.inl (by first | rfl | (refine congrArg Bv ?_; simp [okTm, *]; done) | (refine congrArg Bv ?_; simp [okTm, *]; omega) | (refine congrArg Bv ?_; simp_all [okTm]; done) | (refine congrArg Bv ?_; simp_all [okTm]; omega))) rfl (fun _ => trivial)


-- impl.ValidStore$1
theorem ValidStore1_ok (t : Template) (ok : okTemplate t) : Con Tryz.prog 77 [agTemplate t] true (Bv (!(okTm t))) := by
  refine fn_ok (fn := Tryz.f77) (nt := 6) Tryz.func77 rfl rfl rfl rfl (by simp [taggedL, tagged, tagFeat]) fun B hB => ?_
  refine aw_lens (x := agTemplate t) 0 rfl (fun len_t => ?_)
  simp [LenOK, LenL, cFeat, fFeat, slFeat] at len_t
  refine aR [(0, .new 1)] [1] [1] [.ref 1 0] [some (bxTemplate t)] [] hB trivial ?_
  refine aR [(1, .call [(true, .any)] true (Bv (okTm t)))] [2] [] [Bv (!(okTm t))] [] [Con Tryz.prog 78 [agTemplate t] true (Bv (okTm t)) ∧ True] hB ⟨⟨(validTemplate_ok t ok), trivial⟩, trivial⟩ ?_
  refine aw_ret ?_
  refine ae_ret hB (Bv (!(okTm t))) (by kernel_rfl) (.inl rfl) rfl (fun _ => trivial)


-- impl.ValidStore
theorem containsTm_ok_idx (s : List Template) (hel : ∀ j, j < s.length → okTemplate (at_ s j)) : Con Tryz.prog 108 [slTemplate false s, .fn 77 []] true (I (firstN s.length (fun j => (!(okTm (at_ s j)))))) := by
  refine fn_ok (fn := Tryz.f108) (nt := 19) Tryz.func108 rfl rfl rfl rfl (by simp [taggedL, tagged, tagTemplate]) fun B hB => ?_
  refine aw_lens (x := slTemplate false s) 0 rfl (fun len_s => ?_)
  simp [LenOK, LenL, cFeat, cTemplate, fFeat, fTemplate, slFeat, slTemplate] at len_s
  refine aR [] [0, 1] [] [slTemplate false s, .fn 77 []] [] [] hB trivial ?_
  refine aw_seq ?_
  refine aR [] [0, 1, 7, 8] [] [slTemplate false s, .fn 77 [], I (s.length : Int), I 0] [] [] hB trivial ?_
  refine aw_block ?_
  refine aw_loop (fun gn gσ => ∃ (t8 : Int), gn = ((s.length : Int) - t8).toNat ∧ (0 ≤ t8 ∧ t8 ≤ (s.length : Int)) ∧ (∀ j : Nat, (j : Int) < t8 → (!(okTm (at_ s j))) = false) ∧ gσ = mkS [(0, slTemplate false s), (1, .fn 77 []), (7, I (s.length : Int)), (8, I t8)] []) (((s.length : Int) - 0).toNat) ⟨0, rfl, (by omega), (by intro j hj; omega), rfl⟩ (fun gn gσ hI => ?_)
  obtain ⟨t8, rfl, hi0, hall0, rfl⟩ := hI
  refine aw_seq ?_
  by_cases h1 : t8 < (s.length : Int)
  ·have hi : t8.toNat < s.length := by omega
   refine aw_r [(0, .dec true)] [0, 1, 7, 8, 9] [] [slTemplate false s, .fn 77 [], I (s.length : Int), I t8, Bv true] [] [t8 < (s.length : Int)] hB ⟨h1, trivial⟩ ?_
   refine ae_then ?_
   refine aw_seq ?_
   refine aw_true rfl ?_
   refine aw_skip ?_
   refine ae_then ?_
   refine aw_seq ?_
   refine aw_block ?_
   refine aR [] [0, 1, 5, 7, 8] [] [slTemplate false s, .fn 77 [], I t8, I (s.length : Int), I t8] [] [] hB trivial ?_
   refine aw_seq ?_
   rcases Bool.eq_false_or_eq_true (!(okTm (at_ s t8.toNat))) with h2 | h2
   ·have hfin : firstN s.length (fun j => (!(okTm (at_ s j)))) = t8.toNat := firstN_hit hi h2 (fun j hj => hall0 j (by omega))
    refine aw_r [(5, .call [(true, .any)] true (Bv true))] [0, 1, 5, 7, 8, 16] [] [slTemplate false s, .fn 77 [], I t8, I (s.length : Int), I t8, Bv true] [] [(0 : Int) ≤ t8 ∧ t8 < (s.length : Int), Con Tryz.prog 77 [agTemplate (at_ s t8.toNat)] true (Bv true) ∧ True] hB ⟨⟨(by omega), (by omega)⟩, ⟨(con_bool h2 (ValidStore1_ok (at_ s t8.toNat) (hel _ hi))), trivial⟩, trivial⟩ ?_
    refine ae_then ?_
    refine aw_true rfl ?_
    refine aR [] [4] [] [I t8] [] [] hB trivial ?_
    refine aw_ret ?_
    refine ae_ret_block (ae_ret_then (ae_ret_then (ae_ret_block (ae_ret_then ?_))))
    refine ae_ret hB (I t8) (by kernel_rfl) (.inl (by refine congrArg I ?_; first | (rw [hfin]; done) | (rw [hfin]; omega))) rfl (fun _ => trivial)
   refine aw_r [(5, .call [(true, .any)] true (Bv false))] [0, 1, 5, 7, 8, 16] [] [slTemplate false s, .fn 77 [], I t8, I (s.length : Int), I t8, Bv false] [] [(0 : Int) ≤ t8 ∧ t8 < (s.length : Int), Con Tryz.prog 77 [agTemplate (at_ s t8.toNat)] true (Bv false) ∧ True] hB ⟨⟨(by omega), (by omega)⟩, ⟨(con_bool h2 (ValidStore1_ok (at_ s t8.toNat) (hel _ hi))), trivial⟩, trivial⟩ ?_
   refine ae_then ?_
   refine aw_false rfl ?_
   refine aw_skip ?_
   refine ae_block 1 ?_
   refine ae_then ?_
   refine aw_r [] [0, 1, 7, 8] [] [slTemplate false s, .fn 77 [], I (s.length : Int), I (t8 + 1)] [] [inR .i64 (t8 + 1)] hB ⟨(inR_i64 (by omega) (by omega)), trivial⟩ ?_
   exact ae_again _ (by omega) ⟨(t8 + 1), rfl, (by omega), (by intro j hj; by_cases ej : j = t8.toNat; (subst ej; assumption); exact hall0 j (by omega)), rfl⟩
  have hfin : firstN s.length (fun j => (!(okTm (at_ s j)))) = -1 := firstN_none (fun j hj => hall0 j (by omega))
  refine aw_r [(0, .dec false)] [0, 1, 7, 8, 9] [] [slTemplate false s, .fn 77 [], I (s.length : Int), I t8, Bv false] [] [¬ (t8 < (s.length : Int))] hB ⟨h1, trivial⟩ ?_
  refine ae_then ?_
  refine aw_seq ?_
  refine aw_false rfl ?_
  refine aw_exit ?_
  refine ae_exit_then ?_
  refine ae_exit_then ?_
  refine ae_exit_same ?_
  refine ae_then ?_
  refine aR [] [4] [] [I (-1)] [] [] hB trivial ?_
  refine aw_ret ?_
  refine ae_ret hB (I (-1)) (by kernel_rfl) (.inl (by refine congrArg I ?_; first | (rw [hfin]; done) | (rw [hfin]; omega))) rfl (fun _ => trivial)

theorem containsTm_ok (s : List Template) (hel : ∀ j, j < s.length → okTemplate (at_ s j)) : Con Tryz.prog 76 [slTemplate false s, .fn 77 []] true (Bv (anyN s.length (fun j => (!(okTm (at_ s j)))))) := by
  refine fn_ok (fn := Tryz.f76) (nt := 9) Tryz.func76 rfl rfl rfl rfl (by simp [taggedL, tagged, tagTemplate]) fun B hB => ?_
  refine aw_lens (x := slTemplate false s) 0 rfl (fun len_s => ?_)
  simp [LenOK, LenL, cFeat, cTemplate, fFeat, fTemplate, slFeat, slTemplate] at len_s
  refine aR [] [0, 1] [] [slTemplate false s, .fn 77 []] [] [] hB trivial ?_
  refine aR [(2, .call [(true, .any), (true, .any)] true (I (firstN s.length (fun j => (!(okTm (at_ s j)))))))] [4] [] [Bv (decide (0 ≤ (firstN s.length (fun j => (!(okTm (at_ s j)))))))] [] [Con Tryz.prog 108 [slTemplate false s, .fn 77 []] true (I (firstN s.length (fun j => (!(okTm (at_ s j)))))) ∧ True] hB ⟨⟨(containsTm_ok_idx s hel), trivial⟩, trivial⟩ ?_
  refine aw_ret ?_
  refine ae_ret hB (Bv (decide (0 ≤ (firstN s.length (fun j => (!(okTm (at_ s j)))))))) (by kernel_rfl) (.inl (by exact congrArg Bv (firstN_any _ _))) rfl (fun _ => trivial)

theorem ValidStore_ok (s : Store) (ok : okStore s) : Con Tryz.prog 40 [agStore s] true (Bv (okStore' s)) := by
  refine fn_ok (fn := Tryz.f40) (nt := 18) Tryz.func40 rfl rfl rfl rfl (by simp [taggedL, tagged, tagTemplate]) fun B hB => ?_
  refine aw_lens (x := agStore s) 0 rfl (fun len_s => ?_)
  simp [LenOK, LenL, cFeat, cTemplate, fFeat, fTemplate, slFeat, slTemplate] at len_s
  refine aR [(0, .new 1)] [1] [1] [.ref 1 0] [some (bxStore s)] [] hB trivial ?_
  refine aw_seq ?_
  rcases Bool.eq_false_or_eq_true (inB s.Band 0 72) with h1 | h1
  ·by_cases h2 : (s.Templates.length : Int) ≤ 40
   ·refine aw_r [(2, .call [(true, .any), (true, .any), (true, .any)] true (Bv true)), (7, .dec true), (12, .call [(true, .any), (true, .any)] true (Bv (anyN s.Templates.length (fun j => (!(okTm (at_ s.Templates j)))))))] [2] [] [Bv (!(anyN s.Templates.length (fun j => (!(okTm (at_ s.Templates j))))))] [] [Con Tryz.prog 33 [I s.Band, I 0, I 72] true (Bv true) ∧ True, (s.Templates.length : Int) ≤ 40, Con Tryz.prog 76 [slTemplate false s.Templates, .fn 77 []] true (Bv (anyN s.Templates.length (fun j => (!(okTm (at_ s.Templates j)))))) ∧ True] hB ⟨⟨(con_bool h1 (within_ok s.Band 0 72)), trivial⟩, h2, ⟨(containsTm_ok s.Templates (fun j hj => ok _ (at_mem hj))), trivial⟩, trivial⟩ ?_
    refine ae_then ?_
    refine aw_ret ?_
    refine ae_ret hB (Bv (!(anyN s.Templates.length (fun j => (!(okTm (at_ s.Templates j))))))) (by kernel_rfl) (.inl (by first | rfl | (refine congrArg Bv ?_; simp [okStore', anyN_not, *]; done) | (refine congrArg Bv ?_; simp [okStore', anyN_not, *]; omega) | (refine congrArg Bv ?_; simp_all [okStore', anyN_not]; done) | (refine congrArg Bv ?_; simp_all [okStore', anyN_not]; omega))) rfl (fun _ => trivial)
   refine aw_r [(2, .call [(true, .any), (true, .any), (true, .any)] true (Bv true)), (7, .dec false)] [2] [] [Bv false] [] [Con Tryz.prog 33 [I s.Band, I 0, I 72] true (Bv true) ∧ True, ¬ ((s.Templates.length : Int) ≤ 40)] hB ⟨⟨(con_bool h1 (within_ok s.Band 0 72)), trivial⟩, h2, trivial⟩ ?_
   refine ae_then ?_
   refine aw_ret ?_
   refine ae_ret hB (Bv false) (by kernel_rfl) (.inl (by first | rfl | (refine congrArg Bv ?_; simp [okStore', anyN_not, *]; done) | (refine congrArg Bv ?_; simp [okStore', anyN_not, *]; omega) | (refine congrArg Bv ?_; simp_all [okStore', anyN_not]; done) | (refine congrArg Bv ?_; simp_all [okStore', anyN_not]; omega))) rfl (fun _ => trivial)
  refine aw_r [(2, .call [(true, .any), (true, .any), (true, .any)] true (Bv false))] [2] [] [Bv false] [] [Con Tryz.prog 33 [I s.Band, I 0, I 72] true (Bv false) ∧ True] hB ⟨⟨(con_bool h1 (within_ok s.Band 0 72)), trivial⟩, trivial⟩ ?_
  refine ae_then ?_
  refine aw_ret ?_
  refine ae_ret hB (Bv false) (by kernel_rfl) (.inl (by first | rfl | (refine congrArg Bv ?_; simp [okStore', anyN_not, *]; done) | (refine congrArg Bv ?_; simp [okStore', anyN_not, *]; omega) | (refine congrArg Bv ?_; simp_all [okStore', anyN_not]; done) | (refine congrArg Bv ?_; simp_all [okStore', anyN_not]; omega))) rfl (fun _ => trivial)


-- impl.WriterOfStore
theorem WriterOfStore_t (s : Store) (hsk : okStore' s = true) (oks_ : okStore s) : ∃ (v : Writer) (c : Int), (v = wosW s) ∧ (c = 0) ∧ Con Tryz.prog 12 [agStore s] true (.tup [agWriterT v, I c]) := by
  have hw := okStore_iff.1 hsk
  have hh : ∃ r : Writer × Int, ((r.1 = wosW s) ∧ (r.2 = 0) ∧ (True)) ∧ CallOK Tryz.prog 12 [agStore s] (lookO []) true (.tup [agWriterT r.1, I r.2]) (lookO []) := by
    refine fn_okX (Φ := fun r : Writer × Int => (r.1 = wosW s) ∧ (r.2 = 0) ∧ (True)) [] (fun r => []) (fn := Tryz.f12) (nt := 30) Tryz.func12 rfl rfl (args := [agStore s]) rfl (allcons (.inl ⟨rfl, by simp [tagged, taggedL, tagTemplate]⟩) allnil) (res := fun r => .tup [agWriterT r.1, I r.2]) ?_
    refine xR [(0, .new 1), (1, .new 2)] [1, 2] [1, 2] [.ref 1 0, .ref 2 0] [some (bxStore s), some (.box [I 0, nilA])] [] trivial ?_
    refine x_seq ?_
    refine xR [(1, .call [(true, .any)] true (Bv true))] [1, 2, 9] [1, 2] [.ref 1 0, .ref 2 0, Bv false] [some (bxStore s), some (.box [I 0, nilA])] [Con Tryz.prog 40 [agStore s] true (Bv true) ∧ True] ⟨⟨(con_bool hsk (ValidStore_ok s oks_)), trivial⟩, trivial⟩ ?_
    refine x_false rfl ?_
    refine x_skip ?_
    refine xe_then ?_
    refine xR [(3, .new 4)] [1, 2, 4] [1, 2, 4] [.ref 1 0, .ref 2 0, .ref 4 0] [some (bxStore s), some (.box [I 0, nilA]), some (.box [I s.Band, nilA])] [] trivial ?_
    refine x_seq ?_
    refine xR [] [2, 4, 15, 16, 17] [2, 4] [.ref 2 0, .ref 4 0, slTemplate false s.Templates, I (s.Templates.length : Int), I 0] [some (.box [I 0, nilA]), some (.box [I s.Band, nilA])] [] trivial ?_
    refine x_block ?_
    refine x_nilC 4 1 741 4 (fun _ => []) rfl (by kernel_rfl) ?_
    refine x_weak [] (T := [(2, .ref 2 0), (4, .ref 4 0), (15, slTemplate false s.Templates), (16, I (s.Templates.length : Int)), (17, I 0)]) (O := [(2, .box [I 0, nilA]), (4, .box [I s.Band, .arr 741]), (741, .arr 4 (([] : List Trained).length) (fTrained true ([] : List Trained)))]) rfl (⟨.inl rfl, .inl rfl, .inl rfl, .inl rfl, .inl rfl, trivial⟩) (⟨.inl rfl, .inl rfl, .inr ⟨rfl, (by first | rfl | (simp; done) | (simp; omega) | omega), fun i_ hi_ => absurd hi_ (Nat.not_lt_zero _)⟩, trivial⟩) ?_
    refine x_loop (X := Int × (List Trained)) (fun x => mkS [(2, .ref 2 0), (4, .ref 4 0), (15, slTemplate false s.Templates), (16, I (s.Templates.length : Int)), (17, I x.1)] [(2, .box [I 0, nilA]), (4, .box [I s.Band, .arr 741]), (741, .arr 4 x.2.length (fTrained true x.2))]) (fun x => (0 ≤ x.1 ∧ x.1 ≤ (s.Templates.length : Int)) ∧ (x.2 = (s.Templates.take x.1.toNat).map (fun t => (⟨t.Label, t.Feats, t.Feats, 0⟩ : Trained))) ∧ True) (fun x => ((s.Templates.length : Int) - x.1).toNat) (0, ([] : List Trained)) rfl (show (0 ≤ (0 : Int) ∧ (0 : Int) ≤ (s.Templates.length : Int)) ∧ (([] : List Trained) = (s.Templates.take (0 : Int).toNat).map (fun t => (⟨t.Label, t.Feats, t.Feats, 0⟩ : Trained))) ∧ True from ⟨(by omega), (by rfl), trivial⟩) (fun x hI => ?_)
    obtain ⟨t17, ts⟩ := x
    obtain ⟨hi0, hts, _⟩ : (0 ≤ t17 ∧ t17 ≤ (s.Templates.length : Int)) ∧ (ts = (s.Templates.take t17.toNat).map (fun t => (⟨t.Label, t.Feats, t.Feats, 0⟩ : Trained))) ∧ True := hI
    show XW _ _ _ _ (mkS [(2, .ref 2 0), (4, .ref 4 0), (15, slTemplate false s.Templates), (16, I (s.Templates.length : Int)), (17, I t17)] [(2, .box [I 0, nilA]), (4, .box [I s.Band, .arr 741]), (741, .arr 4 ts.length (fTrained true ts))]) _ _
    refine x_seq ?_
    by_cases h1 : t17 < (s.Templates.length : Int)
    ·have hi : t17.toNat < s.Templates.length := by omega
     have hnx : (t17 + 1).toNat = t17.toNat + 1 := by omega
     have htl : ts.length = t17.toNat := by rw [hts, List.length_map, List.length_take]; omega
     have htn := okTm_len (hw.2.2 _ hi)
     refine x_r [(0, .dec true)] [2, 4, 15, 16, 17, 18] [2, 4, 741] [.ref 2 0, .ref 4 0, slTemplate false s.Templates, I (s.Templates.length : Int), I t17, Bv true] [some (.box [I 0, nilA]), some (.box [I s.Band, .arr 741]), some (.arr 4 ts.length (fTrained true ts))] [t17 < (s.Templates.length : Int)] ⟨h1, trivial⟩ ?_
     refine xe_then ?_
     refine x_seq ?_
     refine x_true rfl ?_
     refine x_skip ?_
     refine xe_then ?_
     refine x_seq ?_
     refine x_block ?_
     refine xR [(2, .new 6)] [2, 4, 6, 15, 16, 17] [2, 4, 6, 741] [.ref 2 0, .ref 4 0, .ref 6 0, slTemplate false s.Templates, I (s.Templates.length : Int), I t17] [some (.box [I 0, nilA]), some (.box [I s.Band, .arr 741]), some (bxTemplate (at_ s.Templates t17.toNat)), some (.arr 4 ts.length (fTrained true ts))] [(0 : Int) ≤ t17 ∧ t17 < (s.Templates.length : Int)] ⟨⟨(by omega), (by omega)⟩, trivial⟩ ?_
     refine x_r [(3, .call [(true, .any)] true (agTrainedT (Trained.mk (at_ s.Templates t17.toNat).Label (at_ s.Templates t17.toNat).Feats (at_ s.Templates t17.toNat).Feats 0))), (4, .new 25), (5, .new 26)] [2, 4, 15, 16, 17] [2, 4, 26] [.ref 2 0, .ref 4 0, slTemplate false s.Templates, I (s.Templates.length : Int), I t17] [some (.box [I 0, nilA]), some (.box [I s.Band, .arr 26]), some (.arr 4 (ts.length + 1) (catF ts.length (fTrained true ts) (litF [Sv ((Trained.mk (at_ s.Templates t17.toNat).Label (at_ s.Templates t17.toNat).Feats (at_ s.Templates t17.toNat).Feats 0).Label), slFeat true ((Trained.mk (at_ s.Templates t17.toNat).Label (at_ s.Templates t17.toNat).Feats (at_ s.Templates t17.toNat).Feats 0).Base), slFeat true ((Trained.mk (at_ s.Templates t17.toNat).Label (at_ s.Templates t17.toNat).Feats (at_ s.Templates t17.toNat).Feats 0).Feats), I ((Trained.mk (at_ s.Templates t17.toNat).Label (at_ s.Templates t17.toNat).Feats (at_ s.Templates t17.toNat).Feats 0).Count)] 4)))] [Con Tryz.prog 37 [agTemplate (at_ s.Templates t17.toNat)] true (agTrainedT (Trained.mk (at_ s.Templates t17.toNat).Label (at_ s.Templates t17.toNat).Feats (at_ s.Templates t17.toNat).Feats 0)) ∧ True, (ts.length + 1) * 72 ≤ 140737488355328] ⟨⟨(startTrained_ok (at_ s.Templates t17.toNat) (by (try dsimp only); omega)), trivial⟩, (by omega), trivial⟩ ?_
     refine xe_block 1 ?_
     refine xe_then ?_
     refine x_r [] [2, 4, 15, 16, 17] [2, 4, 26] [.ref 2 0, .ref 4 0, slTemplate false s.Templates, I (s.Templates.length : Int), I (t17 + 1)] [some (.box [I 0, nilA]), some (.box [I s.Band, .arr 26]), some (.arr 4 (ts.length + 1) (catF ts.length (fTrained true ts) (litF [Sv ((Trained.mk (at_ s.Templates t17.toNat).Label (at_ s.Templates t17.toNat).Feats (at_ s.Templates t17.toNat).Feats 0).Label), slFeat true ((Trained.mk (at_ s.Templates t17.toNat).Label (at_ s.Templates t17.toNat).Feats (at_ s.Templates t17.toNat).Feats 0).Base), slFeat true ((Trained.mk (at_ s.Templates t17.toNat).Label (at_ s.Templates t17.toNat).Feats (at_ s.Templates t17.toNat).Feats 0).Feats), I ((Trained.mk (at_ s.Templates t17.toNat).Label (at_ s.Templates t17.toNat).Feats (at_ s.Templates t17.toNat).Feats 0).Count)] 4)))] [inR .i64 (t17 + 1)] ⟨(inR_i64 (by omega) (by omega)), trivial⟩ ?_
     refine xe_weak [(741, 26)] (T := [(2, .ref 2 0), (4, .ref 4 0), (15, slTemplate false s.Templates), (16, I (s.Templates.length : Int)), (17, I (t17 + 1))]) (O := [(2, .box [I 0, nilA]), (4, .box [I s.Band, .arr 741]), (741, .arr 4 ((ts ++ [(Trained.mk (at_ s.Templates t17.toNat).Label (at_ s.Templates t17.toNat).Feats (at_ s.Templates t17.toNat).Feats 0)]).length) (fTrained true (ts ++ [(Trained.mk (at_ s.Templates t17.toNat).Label (at_ s.Templates t17.toNat).Feats (at_ s.Templates t17.toNat).Feats 0)])))]) rfl (⟨.inl rfl, .inl rfl, .inl rfl, .inl rfl, .inl rfl, trivial⟩) (⟨.inl rfl, .inl rfl, .inr ⟨rfl, (by first | rfl | (simp; done) | (simp; omega) | omega), fun i_ hi_ => .inl (cat_snoc (enc := (cTrained true)) (xs := ts) rfl i_ hi_)⟩, trivial⟩) (xe_again ((t17 + 1), (ts ++ [(Trained.mk (at_ s.Templates t17.toNat).Label (at_ s.Templates t17.toNat).Feats (at_ s.Templates t17.toNat).Feats 0)])) rfl (show (0 ≤ (t17 + 1) ∧ (t17 + 1) ≤ (s.Templates.length : Int)) ∧ ((ts ++ [(Trained.mk (at_ s.Templates t17.toNat).Label (at_ s.Templates t17.toNat).Feats (at_ s.Templates t17.toNat).Feats 0)]) = (s.Templates.take (t17 + 1).toNat).map (fun t => (⟨t.Label, t.Feats, t.Feats, 0⟩ : Trained))) ∧ True from ⟨(by omega), (by rw [hnx, hts]; exact map_next hi rfl), trivial⟩) (by first | (show (((s.Templates.length : Int) - (t17 + 1)).toNat : Nat) < ((s.Templates.length : Int) - t17).toNat; omega) | (dsimp only; omega)))
    have hie : t17.toNat = s.Templates.length := by omega
    rw [hie, List.take_of_length_le (Nat.le_refl _)] at hts
    refine x_r [(0, .dec false)] [2, 4, 15, 16, 17, 18] [2, 4, 741] [.ref 2 0, .ref 4 0, slTemplate false s.Templates, I (s.Templates.length : Int), I t17, Bv false] [some (.box [I 0, nilA]), some (.box [I s.Band, .arr 741]), some (.arr 4 ts.length (fTrained true ts))] [¬ (t17 < (s.Templates.length : Int))] ⟨h1, trivial⟩ ?_
    refine xe_then ?_
    refine x_seq ?_
    refine x_false rfl ?_
    refine x_exit ?_
    refine xe_exit_then ?_
    refine xe_loop_exit ?_
    refine xe_exit_same ?_
    refine xe_then ?_
    refine xR [] [2, 3] [2, 741] [.ref 2 0, I 0] [some (.box [I s.Band, .arr 741]), some (.arr 4 ts.length (fTrained true ts))] [] trivial ?_
    refine x_ret ?_
    refine xe_end ((Writer.mk s.Band ts), 0) (show ((Writer.mk s.Band ts) = wosW s) ∧ (0 = 0) ∧ (True) from ⟨(by first | rfl | (unfold wosW; rw [hts])), (by first | rfl | (unfold wosW; rw [hts])), trivial⟩) (trivial) (.tup [.agg [I s.Band, .arr 741], I 0]) (by kernel_rfl) (.inr ⟨⟨rfl, ⟨⟨(fun _ => rfl), rfl, rfl, fun i _ => .inl rfl⟩, rfl⟩⟩, ⟨rfl, rfl⟩⟩) (fun _ => rfl) (fun _ => (by simp [tagged, taggedL, tagTrained]))
  obtain ⟨⟨v, c⟩, ⟨hh0, hh1, _⟩, hc⟩ := hh
  exact ⟨v, c, hh0, hh1, hc⟩


-- spec.l11Template
theorem l11Template_ok (t : Template) (ok : t.Label.size ≤ 9223372036854775807) : Con Tryz.prog 79 [.ptr false [Sv t.Label, slFeat false t.Feats]] true (Bv (okTm t)) := by
  refine fn_ok (fn := Tryz.f79) (nt := 15) Tryz.func79 rfl rfl rfl rfl (by simp [taggedL, tagged, tagFeat]) fun B hB => ?_
  refine aw_lens (x := .ptr false [Sv t.Label, slFeat false t.Feats]) 0 rfl (fun len_t => ?_)
  simp [LenOK, LenL, cFeat, fFeat, slFeat] at len_t
  refine aR [] [0] [] [.ptr false [Sv t.Label, slFeat false t.Feats]] [] [] hB trivial ?_
  refine aw_seq ?_
  rcases Bool.eq_false_or_eq_true (okLabel t.Label) with h1 | h1
  ·refine aw_r [(4, .call [(true, .any)] true (Bv true)), (10, .call [(true, .any)] true (Bv (okFeats t.Feats 72)))] [2] [] [Bv (okFeats t.Feats 72)] [] [Con Tryz.prog 47 [Sv t.Label] true (Bv true) ∧ True, Con Tryz.prog 46 [slFeat false t.Feats] true (Bv (okFeats t.Feats 72)) ∧ True] hB ⟨⟨(con_bool h1 (specIsLabel_ok t.Label ok)), trivial⟩, ⟨(l09Ok_ok t.Feats), trivial⟩, trivial⟩ ?_
   refine ae_then ?_
   refine aw_ret ?_
   refine ae_ret hB (Bv (okFeats t.Feats 72)) (by kernel_rfl) (.inl (by first | rfl | (refine congrArg Bv ?_; simp [okTm, *]; done) | (refine congrArg Bv ?_; simp [okTm, *]; omega) | (refine congrArg Bv ?_; simp_all [okTm]; done) | (refine congrArg Bv ?_; simp_all [okTm]; omega))) rfl (fun _ => trivial)
  refine aw_r [(4, .call [(true, .any)] true (Bv false))] [2] [] [Bv false] [] [Con Tryz.prog 47 [Sv t.Label] true (Bv false) ∧ True] hB ⟨⟨(con_bool h1 (specIsLabel_ok t.Label ok)), trivial⟩, trivial⟩ ?_
  refine ae_then ?_
  refine aw_ret ?_
  refine ae_ret hB (Bv false) (by kernel_rfl) (.inl (by first | rfl | (refine congrArg Bv ?_; simp [okTm, *]; done) | (refine congrArg Bv ?_; simp [okTm, *]; omega) | (refine congrArg Bv ?_; simp_all [okTm]; done) | (refine congrArg Bv ?_; simp_all [okTm]; omega))) rfl (fun _ => trivial)


-- spec.l11Ok
theorem l11Ok_ok (s : Store) (ok : okStore s) : Con Tryz.prog 41 [.ptr false [I s.Band, slTemplate false s.Templates]] true (Bv (okStore' s)) := by
  refine fn_ok (fn := Tryz.f41) (nt := 34) Tryz.func41 rfl rfl rfl rfl (by simp [taggedL, tagged, tagTemplate]) fun B hB => ?_
  refine aw_lens (x := .ptr false [I s.Band, slTemplate false s.Templates]) 0 rfl (fun len_s => ?_)
  simp [LenOK, LenL, cFeat, cTemplate, fFeat, fTemplate, slFeat, slTemplate] at len_s
  refine aR [] [0] [] [.ptr false [I s.Band, slTemplate false s.Templates]] [] [] hB trivial ?_
  refine aw_seq ?_
  refine aR [] [0, 3] [] [.ptr false [I s.Band, slTemplate false s.Templates], I 0] [] [] hB trivial ?_
  refine aw_block ?_
  refine aw_loop (fun gn gσ => ∃ (i : Int), gn = ((s.Templates.length : Int) - i).toNat ∧ (0 ≤ i ∧ i ≤ (s.Templates.length : Int)) ∧ (∀ j : Nat, (j : Int) < i → okTm (at_ s.Templates j) = true) ∧ gσ = mkS [(0, .ptr false [I s.Band, slTemplate false s.Templates]), (3, I i)] []) (((s.Templates.length : Int) - 0).toNat) ⟨0, rfl, (by omega), (by intro j hj; omega), rfl⟩ (fun gn gσ hI => ?_)
  obtain ⟨i, rfl, hi0, hall0, rfl⟩ := hI
  refine aw_seq ?_
  refine aw_seq ?_
  by_cases h1 : i < (s.Templates.length : Int)
  ·have hi : i.toNat < s.Templates.length := by omega
   refine aw_r [(6, .dec true)] [0, 3, 10] [] [.ptr false [I s.Band, slTemplate false s.Templates], I i, Bv true] [] [i < (s.Templates.length : Int)] hB ⟨h1, trivial⟩ ?_
   refine ae_then ?_
   refine aw_true rfl ?_
   refine aw_skip ?_
   refine ae_then ?_
   refine aw_seq ?_
   refine aw_block ?_
   refine aw_seq ?_
   rcases Bool.eq_false_or_eq_true (okTm (at_ s.Templates i.toNat)) with h2 | h2
   ·refine aw_r [(6, .call [(true, .any)] true (Bv true))] [0, 3, 20] [] [.ptr false [I s.Band, slTemplate false s.Templates], I i, Bv false] [] [(0 : Int) ≤ i ∧ i < (s.Templates.length : Int), Con Tryz.prog 79 [.ptr false [Sv ((at_ s.Templates i.toNat).Label), slFeat false ((at_ s.Templates i.toNat).Feats)]] true (Bv true) ∧ True] hB ⟨⟨(by omega), (by omega)⟩, ⟨(con_bool h2 (l11Template_ok (at_ s.Templates i.toNat) (ok _ (at_mem hi)))), trivial⟩, trivial⟩ ?_
    refine ae_then ?_
    refine aw_false rfl ?_
    refine aw_skip ?_
    refine ae_block 1 ?_
    refine ae_then ?_
    refine aw_r [] [0, 3] [] [.ptr false [I s.Band, slTemplate false s.Templates], I (i + 1)] [] [inR .i64 (i + 1)] hB ⟨(inR_i64 (by omega) (by omega)), trivial⟩ ?_
    exact ae_again _ (by omega) ⟨(i + 1), rfl, (by omega), (by intro j hj; by_cases ej : j = i.toNat; (subst ej; first | assumption | exact hok); exact hall0 j (by omega)), rfl⟩
   have hall : allN s.Templates.length (fun j => okTm (at_ s.Templates j)) = false := allN_not hi h2
   refine aw_r [(6, .call [(true, .any)] true (Bv false))] [0, 3, 20] [] [.ptr false [I s.Band, slTemplate false s.Templates], I i, Bv true] [] [(0 : Int) ≤ i ∧ i < (s.Templates.length : Int), Con Tryz.prog 79 [.ptr false [Sv ((at_ s.Templates i.toNat).Label), slFeat false ((at_ s.Templates i.toNat).Feats)]] true (Bv false) ∧ True] hB ⟨⟨(by omega), (by omega)⟩, ⟨(con_bool h2 (l11Template_ok (at_ s.Templates i.toNat) (ok _ (at_mem hi)))), trivial⟩, trivial⟩ ?_
   refine ae_then ?_
   refine aw_true rfl ?_
   refine aR [] [2] [] [Bv false] [] [] hB trivial ?_
   refine aw_ret ?_
   refine ae_ret_block (ae_ret_then (ae_ret_then (ae_ret_block (ae_ret_then ?_))))
   refine ae_ret hB (Bv false) (by kernel_rfl) (.inl (by first | rfl | (refine congrArg Bv ?_; simp [okStore', inB, *]; done) | (refine congrArg Bv ?_; simp [okStore', inB, *]; omega) | (refine congrArg Bv ?_; simp_all [okStore', inB]; done) | (refine congrArg Bv ?_; simp_all [okStore', inB]; omega))) rfl (fun _ => trivial)
  have hall : allN s.Templates.length (fun j => okTm (at_ s.Templates j)) = true := allN_at (fun j hj => hall0 j (by omega))
  refine aw_r [(6, .dec false)] [0, 3, 10] [] [.ptr false [I s.Band, slTemplate false s.Templates], I i, Bv false] [] [¬ (i < (s.Templates.length : Int))] hB ⟨h1, trivial⟩ ?_
  refine ae_then ?_
  refine aw_false rfl ?_
  refine aw_exit ?_
  refine ae_exit_then ?_
  refine ae_exit_then ?_
  refine ae_exit_same ?_
  refine ae_then ?_
  refine aw_seq ?_
  rcases Bool.eq_false_or_eq_true (inB s.Band 0 72) with h3 | h3
  ·refine aw_r [(4, .call [(true, .any), (true, .any), (true, .any)] true (Bv true))] [2] [] [Bv (decide ((s.Templates.length : Int) ≤ 40))] [] [Con Tryz.prog 48 [I s.Band, I 0, I 72] true (Bv true) ∧ True] hB ⟨⟨(con_bool h3 (l00In_ok s.Band 0 72)), trivial⟩, trivial⟩ ?_
   refine ae_then ?_
   refine aw_ret ?_
   refine ae_ret hB (Bv (decide ((s.Templates.length : Int) ≤ 40))) (by kernel_rfl) (.inl (by first | rfl | (refine congrArg Bv ?_; simp [okStore', inB, *]; done) | (refine congrArg Bv ?_; simp [okStore', inB, *]; omega) | (refine congrArg Bv ?_; simp_all [okStore', inB]; done) | (refine congrArg Bv ?_; simp_all [okStore', inB]; omega))) rfl (fun _ => trivial)
  refine aw_r [(4, .call [(true, .any), (true, .any), (true, .any)] true (Bv false))] [2] [] [Bv false] [] [Con Tryz.prog 48 [I s.Band, I 0, I 72] true (Bv false) ∧ True] hB ⟨⟨(con_bool h3 (l00In_ok s.Band 0 72)), trivial⟩, trivial⟩ ?_
  refine ae_then ?_
  refine aw_ret ?_
  refine ae_ret hB (Bv false) (by kernel_rfl) (.inl (by first | rfl | (refine congrArg Bv ?_; simp [okStore', inB, *]; done) | (refine congrArg Bv ?_; simp [okStore', inB, *]; omega) | (refine congrArg Bv ?_; simp_all [okStore', inB]; done) | (refine congrArg Bv ?_; simp_all [okStore', inB]; omega))) rfl (fun _ => trivial)


-- spec.ValidStore
theorem specValidStore_ok (s : Store) (ok_s : okStore s) : Con Tryz.prog 13 [agStore s] true (Bv (okStore' s)) := by
  refine fn_ok (fn := Tryz.f13) (nt := 4) Tryz.func13 rfl rfl rfl rfl (by simp [taggedL, tagged, tagTemplate]) fun B hB => ?_
  refine aw_lens (x := agStore s) 0 rfl (fun len_s => ?_)
  simp [LenOK, LenL, cFeat, cTemplate, fFeat, fTemplate, slFeat, slTemplate] at len_s
  refine aR [(0, .new 1)] [1] [1] [.ref 1 0] [some (bxStore s)] [] hB trivial ?_
  refine aR [(0, .call [(false, .ptr false [I s.Band, slTemplate false s.Templates])] true (Bv (okStore' s)))] [2] [] [Bv (okStore' s)] [] [Con Tryz.prog 41 [.ptr false [I s.Band, slTemplate false s.Templates]] true (Bv (okStore' s)) ∧ ((false = true → true = true) ∧ AV.idsL [I s.Band, slTemplate false s.Templates] = [] ∧ (valOf (I s.Band) = valOf (I s.Band)) ∧ ((false = true → false = true) ∧ 2 = 2 ∧ s.Templates.length = s.Templates.length ∧ ∀ i_, i_ < s.Templates.length → (fTemplate false s.Templates) i_ = (fTemplate false s.Templates) i_ ∨ (AV.idsL ((fTemplate false s.Templates) i_) = [] ∧ leL (fun _ => none) false ((fTemplate false s.Templates) i_) ((fTemplate false s.Templates) i_))) ∧ ([] : List AV) = []) ∧ True] hB ⟨⟨(l11Ok_ok s ok_s), ⟨(fun h => by cases h), rfl, ⟨rfl, ⟨⟨(fun h => by cases h), rfl, rfl, fun i _ => .inl rfl⟩, rfl⟩⟩⟩, trivial⟩, trivial⟩ ?_
  refine aw_ret ?_
  refine ae_ret hB (Bv (okStore' s)) (by kernel_rfl) (.inl rfl) rfl (fun _ => trivial)


-- spec.l08Same
theorem l08Same_ok (a : List Feat) (b : List Feat) : Con Tryz.prog 42 [slFeat false a, slFeat false b] true (Bv (sameL a b)) := by
  refine fn_ok (fn := Tryz.f42) (nt := 26) Tryz.func42 rfl rfl rfl rfl (by simp [taggedL, tagged, tagFeat]) fun B hB => ?_
  refine aw_lens (x := slFeat false a) 0 rfl (fun len_a => ?_)
  simp [LenOK, LenL, cFeat, fFeat, slFeat] at len_a
  refine aw_lens (x := slFeat false b) 1 rfl (fun len_b => ?_)
  simp [LenOK, LenL, cFeat, fFeat, slFeat] at len_b
  refine aR [] [0, 1] [] [slFeat false a, slFeat false b] [] [] hB trivial ?_
  refine aw_seq ?_
  refine aw_seq ?_
  by_cases h1 : (a.length : Int) = (b.length : Int)
  ·have hlen : a.length = b.length := by omega
   refine aw_r [(4, .dec false)] [0, 1, 10] [] [slFeat false a, slFeat false b, Bv false] [] [¬ ((a.length : Int) ≠ (b.length : Int))] hB ⟨(fun hq => hq h1), trivial⟩ ?_
   refine ae_then ?_
   refine aw_false rfl ?_
   refine aw_skip ?_
   refine ae_then ?_
   refine aw_seq ?_
   refine aR [] [0, 1, 5] [] [slFeat false a, slFeat false b, I 0] [] [] hB trivial ?_
   refine aw_block ?_
   refine aw_loop (fun gn gσ => ∃ (i : Int), gn = ((a.length : Int) - i).toNat ∧ (0 ≤ i ∧ i ≤ (a.length : Int)) ∧ (∀ j : Nat, (j : Int) < i → decide (at_ a j = at_ b j) = true) ∧ gσ = mkS [(0, slFeat false a), (1, slFeat false b), (5, I i)] []) (((a.length : Int) - 0).toNat) ⟨0, rfl, (by omega), (by intro j hj; omega), rfl⟩ (fun gn gσ hI => ?_)
   obtain ⟨i, rfl, hi0, hall0, rfl⟩ := hI
   refine aw_seq ?_
   refine aw_seq ?_
   by_cases h2 : i < (a.length : Int)
   ·have hi : i.toNat < a.length := by omega
    refine aw_r [(3, .dec true)] [0, 1, 5, 14] [] [slFeat false a, slFeat false b, I i, Bv true] [] [i < (a.length : Int)] hB ⟨h2, trivial⟩ ?_
    refine ae_then ?_
    refine aw_true rfl ?_
    refine aw_skip ?_
    refine ae_then ?_
    refine aw_seq ?_
    refine aw_block ?_
    refine aw_seq ?_
    by_cases h3 : ((at_ a i.toNat).X) = ((at_ b i.toNat).X) ∧ ((at_ a i.toNat).Y) = ((at_ b i.toNat).Y) ∧ ((at_ a i.toNat).D) = ((at_ b i.toNat).D) ∧ True
    ·have hok : decide (at_ a i.toNat = at_ b i.toNat) = true := decide_eq_true (feat_ext h3.1 h3.2.1 h3.2.2.1)
     refine aw_r [(8, .dec false)] [0, 1, 5, 25] [] [slFeat false a, slFeat false b, I i, Bv false] [] [(0 : Int) ≤ i ∧ i < (a.length : Int), (0 : Int) ≤ i ∧ i < (b.length : Int), ¬ (¬ (((at_ a i.toNat).X) = ((at_ b i.toNat).X) ∧ ((at_ a i.toNat).Y) = ((at_ b i.toNat).Y) ∧ ((at_ a i.toNat).D) = ((at_ b i.toNat).D) ∧ True))] hB ⟨⟨(by omega), (by omega)⟩, ⟨(by omega), (by omega)⟩, (fun hq => hq h3), trivial⟩ ?_
     refine ae_then ?_
     refine aw_false rfl ?_
     refine aw_skip ?_
     refine ae_block 1 ?_
     refine ae_then ?_
     refine aw_r [] [0, 1, 5] [] [slFeat false a, slFeat false b, I (i + 1)] [] [inR .i64 (i + 1)] hB ⟨(inR_i64 (by omega) (by omega)), trivial⟩ ?_
     exact ae_again _ (by omega) ⟨(i + 1), rfl, (by omega), (by intro j hj; by_cases ej : j = i.toNat; (subst ej; first | assumption | exact hok); exact hall0 j (by omega)), rfl⟩
    have hall : allN a.length (fun j => decide (at_ a j = at_ b j)) = false := allN_not hi (decide_eq_false (fun e => h3 ⟨by rw [e], by rw [e], by rw [e], trivial⟩))
    refine aw_r [(8, .dec true)] [0, 1, 5, 25] [] [slFeat false a, slFeat false b, I i, Bv true] [] [(0 : Int) ≤ i ∧ i < (a.length : Int), (0 : Int) ≤ i ∧ i < (b.length : Int), ¬ (((at_ a i.toNat).X) = ((at_ b i.toNat).X) ∧ ((at_ a i.toNat).Y) = ((at_ b i.toNat).Y) ∧ ((at_ a i.toNat).D) = ((at_ b i.toNat).D) ∧ True)] hB ⟨⟨(by omega), (by omega)⟩, ⟨(by omega), (by omega)⟩, h3, trivial⟩ ?_
    refine ae_then ?_
    refine aw_true rfl ?_
    refine aR [] [4] [] [Bv false] [] [] hB trivial ?_
    refine aw_ret ?_
    refine ae_ret_block (ae_ret_then (ae_ret_then (ae_ret_block (ae_ret_then ?_))))
    refine ae_ret hB (Bv false) (by kernel_rfl) (.inl (by first | (simp [sameL, hlen]; done) | (unfold sameL; rw [hall]; simp [hlen]))) rfl (fun _ => trivial)
   have hall : allN a.length (fun j => decide (at_ a j = at_ b j)) = true := allN_at (fun j hj => hall0 j (by omega))
   refine aw_r [(3, .dec false)] [0, 1, 5, 14] [] [slFeat false a, slFeat false b, I i, Bv false] [] [¬ (i < (a.length : Int))] hB ⟨h2, trivial⟩ ?_
   refine ae_then ?_
   refine aw_false rfl ?_
   refine aw_exit ?_
   refine ae_exit_then ?_
   refine ae_exit_then ?_
   refine ae_exit_same ?_
   refine ae_then ?_
   refine aR [] [4] [] [Bv true] [] [] hB trivial ?_
   refine aw_ret ?_
   refine ae_ret hB (Bv true) (by kernel_rfl) (.inl (by first | (simp [sameL, hlen]; done) | (unfold sameL; rw [hall]; simp [hlen]))) rfl (fun _ => trivial)
  have hlen : ¬ a.length = b.length := by omega
  refine aw_r [(4, .dec true)] [0, 1, 10] [] [slFeat false a, slFeat false b, Bv true] [] [(a.length : Int) ≠ (b.length : Int)] hB ⟨h1, trivial⟩ ?_
  refine ae_then ?_
  refine aw_true rfl ?_
  refine aR [] [4] [] [Bv false] [] [] hB trivial ?_
  refine aw_ret ?_
  refine ae_ret_then ?_
  refine ae_ret hB (Bv false) (by kernel_rfl) (.inl (by first | (simp [sameL, hlen]; done) | (unfold sameL; rw [hall]; simp [hlen]))) rfl (fun _ => trivial)


-- spec.SameFeats
theorem specSameFeats_ok (a : List Feat) (b : List Feat) : Con Tryz.prog 14 [slFeat false a, slFeat false b] true (Bv (sameL a b)) := by
  refine fn_ok (fn := Tryz.f14) (nt := 8) Tryz.func14 rfl rfl rfl rfl (by simp [taggedL, tagged, tagFeat]) fun B hB => ?_
  refine aw_lens (x := slFeat false a) 0 rfl (fun len_a => ?_)
  simp [LenOK, LenL, cFeat, fFeat, slFeat] at len_a
  refine aw_lens (x := slFeat false b) 1 rfl (fun len_b => ?_)
  simp [LenOK, LenL, cFeat, fFeat, slFeat] at len_b
  refine aR [] [0, 1] [] [slFeat false a, slFeat false b] [] [] hB trivial ?_
  refine aR [(2, .call [(true, .any), (true, .any)] true (Bv (sameL a b)))] [4] [] [Bv (sameL a b)] [] [Con Tryz.prog 42 [slFeat false a, slFeat false b] true (Bv (sameL a b)) ∧ True] hB ⟨⟨(l08Same_ok a b), trivial⟩, trivial⟩ ?_
  refine aw_ret ?_
  refine ae_ret hB (Bv (sameL a b)) (by kernel_rfl) (.inl rfl) rfl (fun _ => trivial)


-- spec.l09Code
theorem l09Code_ok (a : List Feat) (b : List Feat) (band : Int) : Con Tryz.prog 43 [slFeat false a, slFeat false b, I band] true (I (elCode a b band)) := by
  refine fn_ok (fn := Tryz.f43) (nt := 28) Tryz.func43 rfl rfl rfl rfl (by simp [taggedL, tagged, tagFeat]) fun B hB => ?_
  refine aw_lens (x := slFeat false a) 0 rfl (fun len_a => ?_)
  simp [LenOK, LenL, cFeat, fFeat, slFeat] at len_a
  refine aw_lens (x := slFeat false b) 1 rfl (fun len_b => ?_)
  simp [LenOK, LenL, cFeat, fFeat, slFeat] at len_b
  refine aR [] [0, 1, 2] [] [slFeat false a, slFeat false b, I band] [] [] hB trivial ?_
  refine aw_seq ?_
  refine aw_seq ?_
  rcases Bool.eq_false_or_eq_true (okFeats a 72) with h1 | h1
  ·have hn1 := okFeats_n h1
   rcases Bool.eq_false_or_eq_true (okFeats b 72) with h2 | h2
   ·have hn1 := okFeats_n h2
    refine aw_r [(1, .call [(true, .any)] true (Bv true)), (5, .call [(true, .any)] true (Bv true))] [0, 1, 2, 14] [] [slFeat false a, slFeat false b, I band, Bv false] [] [Con Tryz.prog 46 [slFeat false a] true (Bv true) ∧ True, Con Tryz.prog 46 [slFeat false b] true (Bv true) ∧ True] hB ⟨⟨(con_bool h1 (l09Ok_ok a)), trivial⟩, ⟨(con_bool h2 (l09Ok_ok b)), trivial⟩, trivial⟩ ?_
    refine ae_then ?_
    refine aw_false rfl ?_
    refine aw_skip ?_
    refine ae_then ?_
    refine aw_seq ?_
    refine aw_seq ?_
    rcases Bool.eq_false_or_eq_true (inB band 0 72) with h3 | h3
    ·by_cases h4 : band < (((a.length : Int) - (b.length : Int)).natAbs : Int)
     ·refine aw_r [(1, .call [(true, .any), (true, .any), (true, .any)] true (Bv true)), (9, .call [(true, .any)] true (I (((a.length : Int) - (b.length : Int)).natAbs : Int))), (11, .dec true)] [27] [] [Bv true] [] [Con Tryz.prog 48 [I band, I 0, I 72] true (Bv true) ∧ True, inR .i64 ((a.length : Int) - (b.length : Int)), Con Tryz.prog 80 [I ((a.length : Int) - (b.length : Int))] true (I (((a.length : Int) - (b.length : Int)).natAbs : Int)) ∧ True, band < (((a.length : Int) - (b.length : Int)).natAbs : Int)] hB ⟨⟨(con_bool h3 (l00In_ok band 0 72)), trivial⟩, (inR_i64 (by omega) (by omega)), ⟨(l09Size_ok ((a.length : Int) - (b.length : Int)) (by omega)), trivial⟩, h4, trivial⟩ ?_
      refine ae_then ?_
      refine aw_true rfl ?_
      refine aR [] [6] [] [I 2] [] [] hB trivial ?_
      refine aw_ret ?_
      refine ae_ret_then ?_
      refine ae_ret hB (I 2) (by kernel_rfl) (.inl (by refine congrArg I ?_; unfold elCode; first | (simp [*]; done) | (simp [inB, *] at *; simp [*]; done) | (simp [inB, *] at *; omega))) rfl (fun _ => trivial)
     refine aw_r [(1, .call [(true, .any), (true, .any), (true, .any)] true (Bv true)), (9, .call [(true, .any)] true (I (((a.length : Int) - (b.length : Int)).natAbs : Int))), (11, .dec false)] [27] [] [Bv false] [] [Con Tryz.prog 48 [I band, I 0, I 72] true (Bv true) ∧ True, inR .i64 ((a.length : Int) - (b.length : Int)), Con Tryz.prog 80 [I ((a.length : Int) - (b.length : Int))] true (I (((a.length : Int) - (b.length : Int)).natAbs : Int)) ∧ True, ¬ (band < (((a.length : Int) - (b.length : Int)).natAbs : Int))] hB ⟨⟨(con_bool h3 (l00In_ok band 0 72)), trivial⟩, (inR_i64 (by omega) (by omega)), ⟨(l09Size_ok ((a.length : Int) - (b.length : Int)) (by omega)), trivial⟩, h4, trivial⟩ ?_
     refine ae_then ?_
     refine aw_false rfl ?_
     refine aw_skip ?_
     refine ae_then ?_
     refine aR [] [6] [] [I 0] [] [] hB trivial ?_
     refine aw_ret ?_
     refine ae_ret hB (I 0) (by kernel_rfl) (.inl (by refine congrArg I ?_; unfold elCode; first | (simp [*]; done) | (simp [inB, *] at *; simp [*]; done) | (simp [inB, *] at *; omega))) rfl (fun _ => trivial)
    refine aw_r [(1, .call [(true, .any), (true, .any), (true, .any)] true (Bv false))] [27] [] [Bv true] [] [Con Tryz.prog 48 [I band, I 0, I 72] true (Bv false) ∧ True] hB ⟨⟨(con_bool h3 (l00In_ok band 0 72)), trivial⟩, trivial⟩ ?_
    refine ae_then ?_
    refine aw_true rfl ?_
    refine aR [] [6] [] [I 2] [] [] hB trivial ?_
    refine aw_ret ?_
    refine ae_ret_then ?_
    refine ae_ret hB (I 2) (by kernel_rfl) (.inl (by refine congrArg I ?_; unfold elCode; first | (simp [*]; done) | (simp [inB, *] at *; simp [*]; done) | (simp [inB, *] at *; omega))) rfl (fun _ => trivial)
   refine aw_r [(1, .call [(true, .any)] true (Bv true)), (5, .call [(true, .any)] true (Bv false))] [0, 1, 2, 14] [] [slFeat false a, slFeat false b, I band, Bv true] [] [Con Tryz.prog 46 [slFeat false a] true (Bv true) ∧ True, Con Tryz.prog 46 [slFeat false b] true (Bv false) ∧ True] hB ⟨⟨(con_bool h1 (l09Ok_ok a)), trivial⟩, ⟨(con_bool h2 (l09Ok_ok b)), trivial⟩, trivial⟩ ?_
   refine ae_then ?_
   refine aw_true rfl ?_
   refine aR [] [6] [] [I 1] [] [] hB trivial ?_
   refine aw_ret ?_
   refine ae_ret_then ?_
   refine ae_ret hB (I 1) (by kernel_rfl) (.inl (by refine congrArg I ?_; unfold elCode; first | (simp [*]; done) | (simp [inB, *] at *; simp [*]; done) | (simp [inB, *] at *; omega))) rfl (fun _ => trivial)
  refine aw_r [(1, .call [(true, .any)] true (Bv false))] [0, 1, 2, 14] [] [slFeat false a, slFeat false b, I band, Bv true] [] [Con Tryz.prog 46 [slFeat false a] true (Bv false) ∧ True] hB ⟨⟨(con_bool h1 (l09Ok_ok a)), trivial⟩, trivial⟩ ?_
  refine ae_then ?_
  refine aw_true rfl ?_
  refine aR [] [6] [] [I 1] [] [] hB trivial ?_
  refine aw_ret ?_
  refine ae_ret_then ?_
  refine ae_ret hB (I 1) (by kernel_rfl) (.inl (by refine congrArg I ?_; unfold elCode; first | (simp [*]; done) | (simp [inB, *] at *; simp [*]; done) | (simp [inB, *] at *; omega))) rfl (fun _ => trivial)


-- spec.l09Least
theorem l09Least_ok (a : List Feat) (b : List Feat) (band : Int) (hab : okAB a b) (hbd : 0 ≤ band ∧ band ≤ 1000) (h1 : 1 ≤ a.length ∧ 1 ≤ b.length) : ∃ (v : Int), (v = cv farS a b band (a.length - 1) (b.length - 1)) ∧ Con Tryz.prog 44 [slFeat false a, slFeat false b, I band] true (I v) := by
  have hh : ∃ r : Int, ((r = cv farS a b band (a.length - 1) (b.length - 1)) ∧ (True)) ∧ CallOK Tryz.prog 44 [slFeat false a, slFeat false b, I band] (lookO []) true (I r) (lookO []) := by
    refine fn_okX (Φ := fun r : Int => (r = cv farS a b band (a.length - 1) (b.length - 1)) ∧ (True)) [] (fun r => []) (fn := Tryz.f44) (nt := 18) Tryz.func44 rfl rfl (args := [slFeat false a, slFeat false b, I band]) rfl (allcons (.inl ⟨rfl, tagFeat false _⟩) (allcons (.inl ⟨rfl, tagFeat false _⟩) (allcons (.inl ⟨rfl, trivial⟩) allnil))) (res := fun r => I r) ?_
    refine xR [] [0, 1, 2] [] [slFeat false a, slFeat false b, I band] [] [] trivial ?_
    refine x_seq ?_
    obtain ⟨out_1, hx1_0, hc1⟩ := l09Table_ok a b band hab (by omega)
    have hls := fl_last hx1_0 h1.1 h1.2
    have hlq := Nat.mul_le_mul hab.2.2.1 hab.2.2.2
    rw [← hx1_0.1] at hlq
    refine x_r [(3, .call [(true, .any), (true, .any), (true, .any)] true (slI true out_1))] [7] [] [slI true out_1] [] [Con Tryz.prog 81 [slFeat false a, slFeat false b, I band] true (slI true out_1) ∧ True] ⟨⟨hc1, trivial⟩, trivial⟩ ?_
    refine xe_then ?_
    refine xR [] [6] [] [I (at_ out_1 (((out_1.length : Int) - 1).toNat))] [] [inR .i64 ((out_1.length : Int) - 1), (0 : Int) ≤ ((out_1.length : Int) - 1) ∧ ((out_1.length : Int) - 1) < (out_1.length : Int)] ⟨(inR_i64 (by omega) (by omega)), ⟨(by omega), (by omega)⟩, trivial⟩ ?_
    refine x_ret ?_
    refine xe_end (at_ out_1 (((out_1.length : Int) - 1).toNat)) (show ((at_ out_1 (((out_1.length : Int) - 1).toNat)) = cv farS a b band (a.length - 1) (b.length - 1)) ∧ (True) from ⟨(by (rw [← hls.1]; congr 1; omega)), trivial⟩) (trivial) (I (at_ out_1 (((out_1.length : Int) - 1).toNat))) (by kernel_rfl) (.inl rfl) (fun _ => rfl) (fun _ => trivial)
  obtain ⟨v, ⟨hh0, _⟩, hc⟩ := hh
  exact ⟨v, hh0, hc⟩


-- spec.Elastic
theorem specElastic_ok (a : List Feat) (b : List Feat) (band : Int) : ∃ (v : Int) (c : Int), (v = (elR a b band).1) ∧ (c = (elR a b band).2) ∧ Con Tryz.prog 15 [slFeat false a, slFeat false b, I band] true (.tup [I v, I c]) := by
  have hh : ∃ r : Int × Int, ((r.1 = (elR a b band).1) ∧ (r.2 = (elR a b band).2) ∧ (True)) ∧ CallOK Tryz.prog 15 [slFeat false a, slFeat false b, I band] (lookO []) true (.tup [I r.1, I r.2]) (lookO []) := by
    refine fn_okX (Φ := fun r : Int × Int => (r.1 = (elR a b band).1) ∧ (r.2 = (elR a b band).2) ∧ (True)) [] (fun r => []) (fn := Tryz.f15) (nt := 20) Tryz.func15 rfl rfl (args := [slFeat false a, slFeat false b, I band]) rfl (allcons (.inl ⟨rfl, tagFeat false _⟩) (allcons (.inl ⟨rfl, tagFeat false _⟩) (allcons (.inl ⟨rfl, trivial⟩) allnil))) (res := fun r => .tup [I r.1, I r.2]) ?_
    refine xR [] [0, 1, 2] [] [slFeat false a, slFeat false b, I band] [] [] trivial ?_
    refine xR [(3, .call [(true, .any), (true, .any), (true, .any)] true (I (elCode a b band)))] [0, 1, 2, 8] [] [slFeat false a, slFeat false b, I band, I (elCode a b band)] [] [Con Tryz.prog 43 [slFeat false a, slFeat false b, I band] true (I (elCode a b band)) ∧ True] ⟨⟨(l09Code_ok a b band), trivial⟩, trivial⟩ ?_
    refine x_seq ?_
    refine x_seq ?_
    by_cases h1 : (elCode a b band) = 0
    ·have hcd := elCode_0 (a := a) (b := b) (band := band) (by omega)
     have hna := okFeats_n hcd.1
     have hnb := okFeats_n hcd.2.1
     refine x_r [(1, .dec false)] [0, 1, 2, 8, 14] [] [slFeat false a, slFeat false b, I band, I (elCode a b band), Bv false] [] [¬ ((elCode a b band) ≠ 0)] ⟨(fun hq => hq h1), trivial⟩ ?_
     refine xe_then ?_
     refine x_false rfl ?_
     refine x_skip ?_
     refine xe_then ?_
     refine x_seq ?_
     obtain ⟨v_1, hx1_0, hc1⟩ := l09Least_ok a b band (okAB_of hcd.1 hcd.2.1) (by omega) (by omega)
     refine x_r [(3, .call [(true, .any), (true, .any), (true, .any)] true (I v_1))] [6, 7] [] [I v_1, I 0] [] [Con Tryz.prog 44 [slFeat false a, slFeat false b, I band] true (I v_1) ∧ True] ⟨⟨hc1, trivial⟩, trivial⟩ ?_
     refine xe_then ?_
     refine x_ret ?_
     refine xe_end (v_1, 0) (show (v_1 = (elR a b band).1) ∧ (0 = (elR a b band).2) ∧ (True) from ⟨(by (unfold elR; simp [*])), (by (unfold elR; simp [*])), trivial⟩) (trivial) (.tup [I v_1, I 0]) (by kernel_rfl) (.inl rfl) (fun _ => rfl) (fun _ => (by simp [tagged, taggedL]))
    refine x_r [(1, .dec true)] [0, 1, 2, 8, 14] [] [slFeat false a, slFeat false b, I band, I (elCode a b band), Bv true] [] [(elCode a b band) ≠ 0] ⟨h1, trivial⟩ ?_
    refine xe_then ?_
    refine x_true rfl ?_
    refine xR [] [6, 7] [] [I 0, I (elCode a b band)] [] [] trivial ?_
    refine x_ret ?_
    refine xe_ret_then ?_
    refine xe_end (0, (elCode a b band)) (show (0 = (elR a b band).1) ∧ ((elCode a b band) = (elR a b band).2) ∧ (True) from ⟨(by (unfold elR; simp [*])), (by (unfold elR; simp [*])), trivial⟩) (trivial) (.tup [I 0, I (elCode a b band)]) (by kernel_rfl) (.inl rfl) (fun _ => rfl) (fun _ => (by simp [tagged, taggedL]))
  obtain ⟨⟨v, c⟩, ⟨hh0, hh1, _⟩, hc⟩ := hh
  exact ⟨v, c, hh0, hh1, hc⟩


def a2AtI (code : List Int) (i n : Int) : Int := if (code.length : Int) ≤ i ∨ n < 1 then 0 else at_ code i.toNat % n
theorem a2At_bd (code : List Int) (i : Int) {n : Int} (hn : 1 ≤ n) : 0 ≤ a2AtI code i n ∧ a2AtI code i n < n := by
  unfold a2AtI
  split
  · omega
  · exact ⟨Int.emod_nonneg _ (by omega), Int.emod_lt_of_pos _ (by omega)⟩

theorem okTr_size' {t : Trained} (h : okTrained' t = true) : okTrained t := by
  have q := (okTr_iff.1 h).1
  simp only [okLabel, Bool.and_eq_true, decide_eq_true_eq] at q
  unfold okTrained; omega
theorem mem_at {α : Type} [Inhabited α] {xs : List α} {x : α} (h : x ∈ xs) : ∃ i, i < xs.length ∧ x = at_ xs i := by
  obtain ⟨i, hi, e⟩ := List.getElem_of_mem h
  exact ⟨i, hi, by rw [at_eq hi]; exact e.symm⟩
theorem okW_size {w : Writer} (h : okWriter' w = true) : okWriter w := fun t ht => by
  obtain ⟨i, hi, rfl⟩ := mem_at ht
  exact okTr_size' ((okW_iff.1 h).2.2 i hi)
theorem okS_size {s : Store} (h : okStore' s = true) : okStore s := fun t ht => by
  obtain ⟨i, hi, rfl⟩ := mem_at ht
  have q := (okStore_iff.1 h).2.2 i hi
  simp only [okTm, okLabel, Bool.and_eq_true, decide_eq_true_eq] at q
  unfold okTemplate; omega
theorem okW_of {w : Writer} (h1 : 1 ≤ w.Band ∧ w.Band ≤ 8) (h2 : w.Trained.length ≤ 4) (h3 : ∀ t ∈ w.Trained, okTrained' t = true ∧ 0 ≤ t.Count ∧ t.Count ≤ 2) : okWriter' w = true :=
  okW_iff.2 ⟨by omega, by omega, fun j hj => (h3 _ (at_mem hj)).1⟩
theorem lrn_neg {w : Writer} {l : ByteArray} {s : List Feat} {share : Int} (h : pkI w l s < 0) : lrnA w l s = (w.Trained.length : Int) ∧ (lrnW w l s share).Trained = w.Trained ++ [⟨l, s, s, 0⟩] := by
  refine ⟨if_pos h, ?_⟩
  show lrnT w l s share (pkI w l s) = _
  exact if_pos h
theorem lrn_pos {w : Writer} {l : ByteArray} {s : List Feat} {share : Int} (h : ¬ pkI w l s < 0) : lrnA w l s = pkI w l s ∧ (lrnW w l s share).Trained = w.Trained.set (pkI w l s).toNat (adpT (at_ w.Trained (pkI w l s).toNat) s w.Band share) := by
  refine ⟨if_neg h, ?_⟩
  show lrnT w l s share (pkI w l s) = _
  exact if_neg h
theorem lrn_all {w : Writer} {l : ByteArray} {s : List Feat} {share : Int} (hw : okWriter' w = true) (hs : okFeats s 72 = true) (hl : okLabel l = true) (hsh : 0 ≤ share ∧ share ≤ 100) (h40 : w.Trained.length < 40) :
    okWriter' (lrnW w l s share) = true ∧ (0 ≤ lrnA w l s ∧ lrnA w l s < ((lrnW w l s share).Trained.length : Int)) ∧ (at_ (lrnW w l s share).Trained (lrnA w l s).toNat).Label = l ∧
    ((lrnA w l s < (w.Trained.length : Int) ∧ (lrnW w l s share).Trained.length = w.Trained.length) ∨ (lrnA w l s = (w.Trained.length : Int) ∧ (lrnW w l s share).Trained.length = w.Trained.length + 1 ∧ (at_ (lrnW w l s share).Trained (lrnA w l s).toNat).Feats = s)) ∧
    (∀ i : Nat, i < w.Trained.length → (i : Int) ≠ lrnA w l s → at_ (lrnW w l s share).Trained i = at_ w.Trained i) ∧
    (lrnA w l s < (w.Trained.length : Int) → at_ (lrnW w l s share).Trained (lrnA w l s).toNat = adpT (at_ w.Trained (lrnA w l s).toNat) s w.Band share ∧ lrnB w l s (lrnA w l s).toNat = true) := by
  have q := okW_iff.1 hw
  have b := pkI_bd w l s
  by_cases h : pkI w l s < 0
  · obtain ⟨e1, e2⟩ := lrn_neg (share := share) h
    rw [okW_iff, e1, e2]
    have ea : at_ (w.Trained ++ [⟨l, s, s, 0⟩]) (w.Trained.length : Int).toNat = ⟨l, s, s, 0⟩ := by rw [show (w.Trained.length : Int).toNat = w.Trained.length from rfl, at_right (Nat.le_refl _)]; simp [at_]
    refine ⟨⟨q.1, by simp; omega, fun j hj => ?_⟩, ⟨by omega, by simp; omega⟩, by rw [ea], .inr ⟨rfl, by simp, by rw [ea]⟩, fun i hi _ => at_left hi, fun hc => absurd hc (by omega)⟩
    by_cases c : j < w.Trained.length
    · rw [at_left c]; exact q.2.2 j c
    · have : j = w.Trained.length := by simp at hj; omega
      subst this
      rw [at_right (Nat.le_refl _), Nat.sub_self]
      exact start_ok hl hs
  · obtain ⟨e1, e2⟩ := lrn_pos (share := share) h
    have hb := b.2 (by omega)
    have hq := lrn_iff.1 hb
    have hk : (pkI w l s).toNat < w.Trained.length := by omega
    have ha := adpT_ok (share := share) (q.2.2 _ hk) hs hq.2.2.2 hsh hq.2.1
    rw [okW_iff, e1, e2]
    refine ⟨⟨q.1, by simp; exact q.2.1, fun j hj => ?_⟩, ⟨by omega, by simp; omega⟩, by rw [at_set_same hk]; exact hq.1, .inl ⟨by omega, by simp⟩, fun i hi hn => at_set_oth (by omega), fun _ => ⟨at_set_same hk, hb⟩⟩
    rw [List.length_set] at hj
    by_cases c : j = (pkI w l s).toNat
    · rw [c, at_set_same hk]; exact ha
    · rw [at_set_oth c]; exact q.2.2 j hj
theorem lrn_el {w : Writer} {l : ByteArray} {s : List Feat} {k : Nat} {share : Int} (hw : okTrained' (at_ w.Trained k) = true) (hs : okFeats s 72 = true) (h : lrnB w l s k = true) (hsh : 0 ≤ share ∧ share ≤ 100) :
    (elR (at_ w.Trained k).Feats s w.Band).2 = 0 ∧ (elR (adpT (at_ w.Trained k) s w.Band share).Feats s w.Band).2 = 0 ∧ (elR (adpT (at_ w.Trained k) s w.Band share).Feats s w.Band).1 ≤ (elR (at_ w.Trained k).Feats s w.Band).1 := by
  have q := lrn_iff.1 h
  have ha := adpT_ok (share := share) hw hs q.2.2.2 hsh q.2.1
  have c : ∀ a : List Feat, okFeats a 72 = true → inBd w.Band a.length s.length → elR a s w.Band = (cv farS a s w.Band (a.length - 1) (s.length - 1), 0) := fun a h1 h2 => by
    unfold elR
    rw [if_pos]
    unfold elCode
    rw [if_pos ⟨h1, hs⟩, if_pos]
    simp only [Bool.and_eq_true, decide_eq_true_eq, inB]
    exact ⟨q.2.2.1, h2⟩
  rw [c _ (okTr_iff.1 hw).2.2.1 q.2.2.2, c _ (okTr_iff.1 ha).2.2.1 (by rw [adpT_len]; exact q.2.2.2)]
  exact ⟨rfl, rfl, adp_less hw hs q.2.2.2 hsh q.2.1⟩

-- laws.FnLearn
theorem fnLearn_con (code : List Int) (more : List Int) (ok_code : ∀ y ∈ code, inR .u8 y) (ok_more : ∀ y ∈ more, inR .u8 y) : Con Tryz.prog 3 [slU8 false code, slU8 false more] true (Bv true) := by
  refine fn_ok (fn := Tryz.f3) (nt := 191) Tryz.func3 rfl rfl rfl rfl (by simp [taggedL, tagged, tagU8]) fun B hB => ?_
  refine aw_lens (x := slU8 false code) 0 rfl (fun len_code => ?_)
  simp [LenOK, LenL, cU8, fU8, slU8] at len_code
  refine aw_lens (x := slU8 false more) 1 rfl (fun len_more => ?_)
  simp [LenOK, LenL, cU8, fU8, slU8] at len_more
  refine aR [] [0, 1] [] [slU8 false code, slU8 false more] [] [] hB trivial ?_
  refine aw_seq ?_
  refine aw_seq ?_
  rcases Bool.eq_false_or_eq_true (decide (3000 < (code.length : Int) ∨ 3000 < (more.length : Int))) with h1 | h1
  ·refine aw_r [(2, .call [(true, .any), (true, .any)] true (Bv true))] [0, 1, 22] [] [slU8 false code, slU8 false more, Bv true] [] [Con Tryz.prog 5 [slU8 false code, slU8 false more] true (Bv true) ∧ True] hB ⟨⟨(con_bool h1 (a2Long_ok code more)), trivial⟩, trivial⟩ ?_
   refine ae_then ?_
   refine aw_true rfl ?_
   refine aR [] [4] [] [Bv true] [] [] hB trivial ?_
   refine aw_ret ?_
   refine ae_ret_then ?_
   refine ae_ret hB (Bv true) (by kernel_rfl) (.inl rfl) rfl (fun _ => trivial)
  have hc : (∀ j, j < code.length → 0 ≤ at_ code j ∧ at_ code j ≤ 255) ∧ code.length ≤ 4611686018427387904 := ⟨fun j hj => ok_code _ (at_mem hj), by first | omega | (simp at h1; omega)⟩
  have hmore : (∀ j, j < more.length → 0 ≤ at_ more j ∧ at_ more j ≤ 255) ∧ more.length ≤ 4611686018427387904 := ⟨fun j hj => ok_more _ (at_mem hj), by first | omega | (simp at h1; omega)⟩
  refine aw_r [(2, .call [(true, .any), (true, .any)] true (Bv false))] [0, 1, 22] [] [slU8 false code, slU8 false more, Bv false] [] [Con Tryz.prog 5 [slU8 false code, slU8 false more] true (Bv false) ∧ True] hB ⟨⟨(con_bool h1 (a2Long_ok code more)), trivial⟩, trivial⟩ ?_
  refine ae_then ?_
  refine aw_false rfl ?_
  refine aw_skip ?_
  refine ae_then ?_
  refine aw_seq ?_
  obtain ⟨v_1, hx1_0, hx1_1, hx1_2, hc1⟩ := A2Writer_ok code (by assumption)
  have hww : okWriter' v_1 = true := okW_of hx1_0 hx1_1 hx1_2
  have hwl := hx1_1
  have hwq := okW_iff.1 hww
  refine aw_r [(1, .call [(true, .any)] true (agWriterT v_1)), (2, .new 5)] [1, 5] [5] [slU8 false more, .ref 5 0] [some (bxWriterT v_1)] [Con Tryz.prog 6 [slU8 false code] true (agWriterT v_1) ∧ True] hB ⟨⟨hc1, trivial⟩, trivial⟩ ?_
  refine ae_then ?_
  refine aw_seq ?_
  obtain ⟨v_2, hx2_0, hx2_1, hc2⟩ := A2Feats_ok more (by assumption)
  have okf := hx2_0
  refine aw_r [(1, .call [(true, .any)] true (slFeat true v_2))] [5, 6] [5] [.ref 5 0, slFeat true v_2] [some (bxWriterT v_1)] [Con Tryz.prog 7 [slU8 false more] true (slFeat true v_2) ∧ True] hB ⟨⟨hc2, trivial⟩, trivial⟩ ?_
  refine ae_then ?_
  refine aR [] [5, 6, 7] [5] [.ref 5 0, slFeat true v_2, Sv (⟨#[116]⟩ : ByteArray)] [some (bxWriterT v_1)] [] hB trivial ?_
  refine aw_seq ?_
  obtain ⟨v_3, ix_3, c_3, hx3_0, hx3_1, hx3_2, hc3⟩ := LearnSample_t v_1 (⟨#[116]⟩ : ByteArray) v_2 60 hww okf (by decide) (by decide) (by omega) (okW_size hww) (by decide)
  have hal := lrn_all (l := (⟨#[116]⟩ : ByteArray)) (share := 60) hww okf (by decide) (by decide) (show v_1.Trained.length < 40 by omega)
  rw [← hx3_0, ← hx3_1] at hal
  obtain ⟨hxw, hxa, hxl, hxn, hxo, hxp⟩ := hal
  refine aw_r [(3, .call [(false, agWriter v_1), (true, .any), (false, slFeat false v_2), (true, .any)] true (.tup [agWriterT v_3, I ix_3, I c_3])), (8, .new 8)] [5, 6, 7, 8, 9, 10] [5, 8] [.ref 5 0, slFeat true v_2, Sv (⟨#[116]⟩ : ByteArray), .ref 8 0, I ix_3, I c_3] [some (bxWriterT v_1), some (bxWriterT v_3)] [Con Tryz.prog 8 [agWriter v_1, Sv (⟨#[116]⟩ : ByteArray), slFeat false v_2, I 60] true (.tup [agWriterT v_3, I ix_3, I c_3]) ∧ ((valOf (I v_1.Band) = valOf (I v_1.Band)) ∧ ((false = true → true = true) ∧ 4 = 4 ∧ v_1.Trained.length = v_1.Trained.length ∧ ∀ i_, i_ < v_1.Trained.length → (fTrained true v_1.Trained) i_ = (fTrained false v_1.Trained) i_ ∨ (AV.idsL ((fTrained false v_1.Trained) i_) = [] ∧ leL (fun _ => none) false ((fTrained true v_1.Trained) i_) ((fTrained false v_1.Trained) i_))) ∧ ([] : List AV) = []) ∧ ((false = true → true = true) ∧ 3 = 3 ∧ v_2.length = v_2.length ∧ ∀ i_, i_ < v_2.length → (fFeat v_2) i_ = (fFeat v_2) i_ ∨ (AV.idsL ((fFeat v_2) i_) = [] ∧ leL (fun _ => none) false ((fFeat v_2) i_) ((fFeat v_2) i_))) ∧ True] hB ⟨⟨hc3, ⟨rfl, ⟨⟨(fun h => by cases h), rfl, rfl, fun i _ => .inr ⟨idsTrained _ _, leTrained _ _ _⟩⟩, rfl⟩⟩, ⟨(fun h => by cases h), rfl, rfl, fun i _ => .inl rfl⟩, trivial⟩, trivial⟩ ?_
  refine ae_then ?_
  refine aw_seq ?_
  refine aR [(1, .dec false), (4, .call [(false, agWriter v_3)] true (Bv true)), (9, .dec false), (16, .dec false), (26, .dec false)] [5, 6, 8, 9, 62] [5, 8] [.ref 5 0, slFeat true v_2, .ref 8 0, I ix_3, Bv false] [some (bxWriterT v_1), some (bxWriterT v_3)] [¬ (c_3 ≠ 0), Con Tryz.prog 9 [agWriter v_3] true (Bv true) ∧ ((valOf (I v_3.Band) = valOf (I v_3.Band)) ∧ ((false = true → true = true) ∧ 4 = 4 ∧ v_3.Trained.length = v_3.Trained.length ∧ ∀ i_, i_ < v_3.Trained.length → (fTrained true v_3.Trained) i_ = (fTrained false v_3.Trained) i_ ∨ (AV.idsL ((fTrained false v_3.Trained) i_) = [] ∧ leL (fun _ => none) false ((fTrained true v_3.Trained) i_) ((fTrained false v_3.Trained) i_))) ∧ ([] : List AV) = []) ∧ True, ¬ (ix_3 < 0), ¬ ((v_3.Trained.length : Int) ≤ ix_3), (0 : Int) ≤ ix_3 ∧ ix_3 < (v_3.Trained.length : Int), ¬ (((at_ v_3.Trained ix_3.toNat).Label) ≠ (⟨#[116]⟩ : ByteArray))] hB ⟨(fun hq => hq hx3_2), ⟨(con_bool hxw (specValidWriter_ok v_3 (okW_size hxw))), ⟨rfl, ⟨⟨(fun h => by cases h), rfl, rfl, fun i _ => .inr ⟨idsTrained _ _, leTrained _ _ _⟩⟩, rfl⟩⟩, trivial⟩, (by omega), (by omega), ⟨(by omega), (by omega)⟩, (fun hq => hq hxl), trivial⟩ ?_
  refine aw_false rfl ?_
  refine aw_skip ?_
  refine ae_then ?_
  refine aw_seq ?_
  refine aw_seq ?_
  by_cases h2 : (v_3.Trained.length : Int) = (v_1.Trained.length : Int)
  ·refine aw_r [(6, .dec false)] [5, 6, 8, 9, 86] [5, 8] [.ref 5 0, slFeat true v_2, .ref 8 0, I ix_3, Bv false] [some (bxWriterT v_1), some (bxWriterT v_3)] [¬ ((v_3.Trained.length : Int) ≠ (v_1.Trained.length : Int))] hB ⟨(fun hq => hq h2), trivial⟩ ?_
   refine ae_then ?_
   refine aw_false rfl ?_
   refine aw_skip ?_
   refine ae_then ?_
   refine aw_seq ?_
   refine aR [] [5, 6, 8, 9, 11] [5, 8] [.ref 5 0, slFeat true v_2, .ref 8 0, I ix_3, I 0] [some (bxWriterT v_1), some (bxWriterT v_3)] [] hB trivial ?_
   refine aw_block ?_
   refine aw_loop (fun gn gσ => ∃ (i : Int), gn = ((v_1.Trained.length : Int) - i).toNat ∧ (0 ≤ i ∧ i ≤ (v_1.Trained.length : Int)) ∧ gσ = mkS [(5, .ref 5 0), (6, slFeat true v_2), (8, .ref 8 0), (9, I ix_3), (11, I i)] [(5, bxWriterT v_1), (8, bxWriterT v_3)]) (((v_1.Trained.length : Int) - 0).toNat) ⟨0, rfl, (by omega), rfl⟩ (fun gn gσ hI => ?_)
   obtain ⟨i, rfl, hi0, rfl⟩ := hI
   refine aw_seq ?_
   refine aw_seq ?_
   by_cases h3 : i < (v_1.Trained.length : Int)
   ·have hi : i.toNat < v_1.Trained.length := by omega
    have hix : ((i.toNat : Nat) : Int) = i := by omega
    refine aw_r [(4, .dec true)] [5, 6, 8, 9, 11, 91] [5, 8] [.ref 5 0, slFeat true v_2, .ref 8 0, I ix_3, I i, Bv true] [some (bxWriterT v_1), some (bxWriterT v_3)] [i < (v_1.Trained.length : Int)] hB ⟨h3, trivial⟩ ?_
    refine ae_then ?_
    refine aw_true rfl ?_
    refine aw_skip ?_
    refine ae_then ?_
    refine aw_seq ?_
    refine aw_block ?_
    refine aw_seq ?_
    by_cases h4 : i = ix_3
    ·refine aw_r [(2, .dec false)] [5, 6, 8, 9, 11, 110] [5, 8] [.ref 5 0, slFeat true v_2, .ref 8 0, I ix_3, I i, Bv false] [some (bxWriterT v_1), some (bxWriterT v_3)] [¬ (i ≠ ix_3)] hB ⟨(fun hq => hq h4), trivial⟩ ?_
     refine ae_then ?_
     refine aw_false rfl ?_
     refine aw_skip ?_
     refine ae_block 1 ?_
     refine ae_then ?_
     refine aw_r [] [5, 6, 8, 9, 11] [5, 8] [.ref 5 0, slFeat true v_2, .ref 8 0, I ix_3, I (i + 1)] [some (bxWriterT v_1), some (bxWriterT v_3)] [inR .i64 (i + 1)] hB ⟨(inR_i64 (by omega) (by omega)), trivial⟩ ?_
     exact ae_again _ (by omega) ⟨(i + 1), rfl, (by omega), rfl⟩
    have hso := hxo i.toNat hi (by omega)
    refine aw_r [(2, .dec true), (14, .call [(false, agTrained (at_ v_3.Trained i.toNat)), (false, agTrained (at_ v_1.Trained i.toNat))] true (Bv true))] [5, 6, 8, 9, 11, 110] [5, 8] [.ref 5 0, slFeat true v_2, .ref 8 0, I ix_3, I i, Bv false] [some (bxWriterT v_1), some (bxWriterT v_3)] [i ≠ ix_3, (0 : Int) ≤ i ∧ i < (v_3.Trained.length : Int), (0 : Int) ≤ i ∧ i < (v_1.Trained.length : Int), Con Tryz.prog 10 [agTrained (at_ v_3.Trained i.toNat), agTrained (at_ v_1.Trained i.toNat)] true (Bv true) ∧ ((valOf (Sv ((at_ v_3.Trained i.toNat).Label)) = valOf (Sv ((at_ v_3.Trained i.toNat).Label))) ∧ ((false = true → true = true) ∧ 3 = 3 ∧ (((at_ v_3.Trained i.toNat).Base).length) = (((at_ v_3.Trained i.toNat).Base).length) ∧ ∀ i_, i_ < (((at_ v_3.Trained i.toNat).Base).length) → (fFeat ((at_ v_3.Trained i.toNat).Base)) i_ = (fFeat ((at_ v_3.Trained i.toNat).Base)) i_ ∨ (AV.idsL ((fFeat ((at_ v_3.Trained i.toNat).Base)) i_) = [] ∧ leL (fun _ => none) false ((fFeat ((at_ v_3.Trained i.toNat).Base)) i_) ((fFeat ((at_ v_3.Trained i.toNat).Base)) i_))) ∧ ((false = true → true = true) ∧ 3 = 3 ∧ (((at_ v_3.Trained i.toNat).Feats).length) = (((at_ v_3.Trained i.toNat).Feats).length) ∧ ∀ i_, i_ < (((at_ v_3.Trained i.toNat).Feats).length) → (fFeat ((at_ v_3.Trained i.toNat).Feats)) i_ = (fFeat ((at_ v_3.Trained i.toNat).Feats)) i_ ∨ (AV.idsL ((fFeat ((at_ v_3.Trained i.toNat).Feats)) i_) = [] ∧ leL (fun _ => none) false ((fFeat ((at_ v_3.Trained i.toNat).Feats)) i_) ((fFeat ((at_ v_3.Trained i.toNat).Feats)) i_))) ∧ (valOf (I ((at_ v_3.Trained i.toNat).Count)) = valOf (I ((at_ v_3.Trained i.toNat).Count))) ∧ ([] : List AV) = []) ∧ ((valOf (Sv ((at_ v_1.Trained i.toNat).Label)) = valOf (Sv ((at_ v_1.Trained i.toNat).Label))) ∧ ((false = true → true = true) ∧ 3 = 3 ∧ (((at_ v_1.Trained i.toNat).Base).length) = (((at_ v_1.Trained i.toNat).Base).length) ∧ ∀ i_, i_ < (((at_ v_1.Trained i.toNat).Base).length) → (fFeat ((at_ v_1.Trained i.toNat).Base)) i_ = (fFeat ((at_ v_1.Trained i.toNat).Base)) i_ ∨ (AV.idsL ((fFeat ((at_ v_1.Trained i.toNat).Base)) i_) = [] ∧ leL (fun _ => none) false ((fFeat ((at_ v_1.Trained i.toNat).Base)) i_) ((fFeat ((at_ v_1.Trained i.toNat).Base)) i_))) ∧ ((false = true → true = true) ∧ 3 = 3 ∧ (((at_ v_1.Trained i.toNat).Feats).length) = (((at_ v_1.Trained i.toNat).Feats).length) ∧ ∀ i_, i_ < (((at_ v_1.Trained i.toNat).Feats).length) → (fFeat ((at_ v_1.Trained i.toNat).Feats)) i_ = (fFeat ((at_ v_1.Trained i.toNat).Feats)) i_ ∨ (AV.idsL ((fFeat ((at_ v_1.Trained i.toNat).Feats)) i_) = [] ∧ leL (fun _ => none) false ((fFeat ((at_ v_1.Trained i.toNat).Feats)) i_) ((fFeat ((at_ v_1.Trained i.toNat).Feats)) i_))) ∧ (valOf (I ((at_ v_1.Trained i.toNat).Count)) = valOf (I ((at_ v_1.Trained i.toNat).Count))) ∧ ([] : List AV) = []) ∧ True] hB ⟨h4, ⟨(by omega), (by omega)⟩, ⟨(by omega), (by omega)⟩, ⟨(con_bool (by rw [hso]; exact sameT_refl _) (specSameTrained_ok (at_ v_3.Trained i.toNat) (at_ v_1.Trained i.toNat))), ⟨rfl, ⟨⟨(fun h => by cases h), rfl, rfl, fun i _ => .inl rfl⟩, ⟨⟨(fun h => by cases h), rfl, rfl, fun i _ => .inl rfl⟩, ⟨rfl, rfl⟩⟩⟩⟩, ⟨rfl, ⟨⟨(fun h => by cases h), rfl, rfl, fun i _ => .inl rfl⟩, ⟨⟨(fun h => by cases h), rfl, rfl, fun i _ => .inl rfl⟩, ⟨rfl, rfl⟩⟩⟩⟩, trivial⟩, trivial⟩ ?_
    refine ae_then ?_
    refine aw_false rfl ?_
    refine aw_skip ?_
    refine ae_block 1 ?_
    refine ae_then ?_
    refine aw_r [] [5, 6, 8, 9, 11] [5, 8] [.ref 5 0, slFeat true v_2, .ref 8 0, I ix_3, I (i + 1)] [some (bxWriterT v_1), some (bxWriterT v_3)] [inR .i64 (i + 1)] hB ⟨(inR_i64 (by omega) (by omega)), trivial⟩ ?_
    exact ae_again _ (by omega) ⟨(i + 1), rfl, (by omega), rfl⟩
   refine aw_r [(4, .dec false)] [5, 6, 8, 9, 11, 91] [5, 8] [.ref 5 0, slFeat true v_2, .ref 8 0, I ix_3, I i, Bv false] [some (bxWriterT v_1), some (bxWriterT v_3)] [¬ (i < (v_1.Trained.length : Int))] hB ⟨h3, trivial⟩ ?_
   refine ae_then ?_
   refine aw_false rfl ?_
   refine aw_exit ?_
   refine ae_exit_then ?_
   refine ae_exit_then ?_
   refine ae_exit_same ?_
   refine ae_then ?_
   refine aw_seq ?_
   obtain ⟨v_4, c_4, hx4_0, hx4_1, hc4⟩ := StoreOfWriter_t v_3 hxw (okW_size hxw)
   have hss : okStore' v_4 = true := by rw [hx4_0]; exact sow_ok hxw
   have hse : v_4.Templates.length = v_3.Trained.length := by rw [hx4_0]; simp [sowS]
   refine aw_r [(1, .call [(false, agWriter v_3)] true (.tup [agStoreT v_4, I c_4])), (5, .new 12)] [5, 6, 8, 9, 12, 13] [5, 8, 12] [.ref 5 0, slFeat true v_2, .ref 8 0, I ix_3, .ref 12 0, I c_4] [some (bxWriterT v_1), some (bxWriterT v_3), some (bxStoreT v_4)] [Con Tryz.prog 11 [agWriter v_3] true (.tup [agStoreT v_4, I c_4]) ∧ ((valOf (I v_3.Band) = valOf (I v_3.Band)) ∧ ((false = true → true = true) ∧ 4 = 4 ∧ v_3.Trained.length = v_3.Trained.length ∧ ∀ i_, i_ < v_3.Trained.length → (fTrained true v_3.Trained) i_ = (fTrained false v_3.Trained) i_ ∨ (AV.idsL ((fTrained false v_3.Trained) i_) = [] ∧ leL (fun _ => none) false ((fTrained true v_3.Trained) i_) ((fTrained false v_3.Trained) i_))) ∧ ([] : List AV) = []) ∧ True] hB ⟨⟨hc4, ⟨rfl, ⟨⟨(fun h => by cases h), rfl, rfl, fun i _ => .inr ⟨idsTrained _ _, leTrained _ _ _⟩⟩, rfl⟩⟩, trivial⟩, trivial⟩ ?_
   refine ae_then ?_
   refine aw_seq ?_
   obtain ⟨v_5, c_5, hx5_0, hx5_1, hc5⟩ := WriterOfStore_t v_4 hss (okS_size hss)
   have hbe : v_5.Trained.length = v_3.Trained.length := by rw [hx5_0, ← hse]; simp [wosW]
   refine aw_r [(1, .call [(false, agStore v_4)] true (.tup [agWriterT v_5, I c_5])), (5, .new 14)] [5, 6, 8, 9, 12, 13, 14, 15] [5, 8, 12, 14] [.ref 5 0, slFeat true v_2, .ref 8 0, I ix_3, .ref 12 0, I c_4, .ref 14 0, I c_5] [some (bxWriterT v_1), some (bxWriterT v_3), some (bxStoreT v_4), some (bxWriterT v_5)] [Con Tryz.prog 12 [agStore v_4] true (.tup [agWriterT v_5, I c_5]) ∧ ((valOf (I v_4.Band) = valOf (I v_4.Band)) ∧ ((false = true → true = true) ∧ 2 = 2 ∧ v_4.Templates.length = v_4.Templates.length ∧ ∀ i_, i_ < v_4.Templates.length → (fTemplate true v_4.Templates) i_ = (fTemplate false v_4.Templates) i_ ∨ (AV.idsL ((fTemplate false v_4.Templates) i_) = [] ∧ leL (fun _ => none) false ((fTemplate true v_4.Templates) i_) ((fTemplate false v_4.Templates) i_))) ∧ ([] : List AV) = []) ∧ True] hB ⟨⟨hc5, ⟨rfl, ⟨⟨(fun h => by cases h), rfl, rfl, fun i _ => .inr ⟨idsTemplate _ _, leTemplate _ _ _⟩⟩, rfl⟩⟩, trivial⟩, trivial⟩ ?_
   refine ae_then ?_
   refine aw_seq ?_
   refine aR [(1, .dec false), (4, .dec false), (8, .call [(false, agStore v_4)] true (Bv true)), (18, .dec false)] [5, 6, 8, 9, 140] [5, 8] [.ref 5 0, slFeat true v_2, .ref 8 0, I ix_3, Bv false] [some (bxWriterT v_1), some (bxWriterT v_3)] [¬ (c_4 ≠ 0), ¬ (c_5 ≠ 0), Con Tryz.prog 13 [agStore v_4] true (Bv true) ∧ ((valOf (I v_4.Band) = valOf (I v_4.Band)) ∧ ((false = true → true = true) ∧ 2 = 2 ∧ v_4.Templates.length = v_4.Templates.length ∧ ∀ i_, i_ < v_4.Templates.length → (fTemplate true v_4.Templates) i_ = (fTemplate false v_4.Templates) i_ ∨ (AV.idsL ((fTemplate false v_4.Templates) i_) = [] ∧ leL (fun _ => none) false ((fTemplate true v_4.Templates) i_) ((fTemplate false v_4.Templates) i_))) ∧ ([] : List AV) = []) ∧ True, ¬ ((v_5.Trained.length : Int) ≠ (v_3.Trained.length : Int))] hB ⟨(fun hq => hq hx4_1), (fun hq => hq hx5_1), ⟨(con_bool hss (specValidStore_ok v_4 (okS_size hss))), ⟨rfl, ⟨⟨(fun h => by cases h), rfl, rfl, fun i _ => .inr ⟨idsTemplate _ _, leTemplate _ _ _⟩⟩, rfl⟩⟩, trivial⟩, (fun hq => hq (by omega)), trivial⟩ ?_
   refine aw_false rfl ?_
   refine aw_skip ?_
   refine ae_then ?_
   refine aw_seq ?_
   refine aw_seq ?_
   by_cases h5 : ix_3 = (v_1.Trained.length : Int)
   ·refine aw_r [(4, .dec true)] [5, 6, 8, 9, 145] [5, 8] [.ref 5 0, slFeat true v_2, .ref 8 0, I ix_3, Bv true] [some (bxWriterT v_1), some (bxWriterT v_3)] [ix_3 = (v_1.Trained.length : Int)] hB ⟨h5, trivial⟩ ?_
    refine ae_then ?_
    refine aw_true rfl ?_
    refine aR [(7, .call [(false, slFeat false ((at_ v_3.Trained ix_3.toNat).Feats)), (false, slFeat false v_2)] true (Bv (sameL ((at_ v_3.Trained ix_3.toNat).Feats) v_2)))] [4] [] [Bv (sameL ((at_ v_3.Trained ix_3.toNat).Feats) v_2)] [] [(0 : Int) ≤ ix_3 ∧ ix_3 < (v_3.Trained.length : Int), Con Tryz.prog 14 [slFeat false ((at_ v_3.Trained ix_3.toNat).Feats), slFeat false v_2] true (Bv (sameL ((at_ v_3.Trained ix_3.toNat).Feats) v_2)) ∧ ((false = true → true = true) ∧ 3 = 3 ∧ (((at_ v_3.Trained ix_3.toNat).Feats).length) = (((at_ v_3.Trained ix_3.toNat).Feats).length) ∧ ∀ i_, i_ < (((at_ v_3.Trained ix_3.toNat).Feats).length) → (fFeat ((at_ v_3.Trained ix_3.toNat).Feats)) i_ = (fFeat ((at_ v_3.Trained ix_3.toNat).Feats)) i_ ∨ (AV.idsL ((fFeat ((at_ v_3.Trained ix_3.toNat).Feats)) i_) = [] ∧ leL (fun _ => none) false ((fFeat ((at_ v_3.Trained ix_3.toNat).Feats)) i_) ((fFeat ((at_ v_3.Trained ix_3.toNat).Feats)) i_))) ∧ ((false = true → true = true) ∧ 3 = 3 ∧ v_2.length = v_2.length ∧ ∀ i_, i_ < v_2.length → (fFeat v_2) i_ = (fFeat v_2) i_ ∨ (AV.idsL ((fFeat v_2) i_) = [] ∧ leL (fun _ => none) false ((fFeat v_2) i_) ((fFeat v_2) i_))) ∧ True] hB ⟨⟨(by omega), (by omega)⟩, ⟨(specSameFeats_ok ((at_ v_3.Trained ix_3.toNat).Feats) v_2), ⟨(fun h => by cases h), rfl, rfl, fun i _ => .inl rfl⟩, ⟨(fun h => by cases h), rfl, rfl, fun i _ => .inl rfl⟩, trivial⟩, trivial⟩ ?_
    refine aw_ret ?_
    refine ae_ret_then ?_
    refine ae_ret hB (Bv (sameL ((at_ v_3.Trained ix_3.toNat).Feats) v_2)) (by kernel_rfl) (.inl (by first | rfl | (exfalso; rcases hxn with hxn | hxn <;> omega) | (rcases hxn with hxn | hxn; (exact absurd hxn.1 (by omega)); (rw [hxn.2.2, sameL_refl])))) rfl (fun _ => trivial)
   refine aw_r [(4, .dec false)] [5, 6, 8, 9, 145] [5, 8] [.ref 5 0, slFeat true v_2, .ref 8 0, I ix_3, Bv false] [some (bxWriterT v_1), some (bxWriterT v_3)] [¬ (ix_3 = (v_1.Trained.length : Int))] hB ⟨h5, trivial⟩ ?_
   refine ae_then ?_
   refine aw_false rfl ?_
   refine aw_skip ?_
   refine ae_then ?_
   refine aw_seq ?_
   obtain ⟨v_6, c_6, hx6_0, hx6_1, hc6⟩ := specElastic_ok ((at_ v_1.Trained ix_3.toNat).Feats) v_2 v_1.Band
   have hlt : ix_3 < (v_1.Trained.length : Int) := by omega
   have hle := lrn_el (share := 60) (hwq.2.2 _ (by omega)) okf (hxp hlt).2 (by decide)
   rw [← (hxp hlt).1] at hle
   rw [← hx6_1, ← hx6_0] at hle
   refine aw_r [(9, .call [(false, slFeat false ((at_ v_1.Trained ix_3.toNat).Feats)), (false, slFeat false v_2), (true, .any)] true (.tup [I v_6, I c_6]))] [5, 6, 8, 9, 16, 17] [5, 8] [.ref 5 0, slFeat true v_2, .ref 8 0, I ix_3, I v_6, I c_6] [some (bxWriterT v_1), some (bxWriterT v_3)] [(0 : Int) ≤ ix_3 ∧ ix_3 < (v_1.Trained.length : Int), Con Tryz.prog 15 [slFeat false ((at_ v_1.Trained ix_3.toNat).Feats), slFeat false v_2, I v_1.Band] true (.tup [I v_6, I c_6]) ∧ ((false = true → true = true) ∧ 3 = 3 ∧ (((at_ v_1.Trained ix_3.toNat).Feats).length) = (((at_ v_1.Trained ix_3.toNat).Feats).length) ∧ ∀ i_, i_ < (((at_ v_1.Trained ix_3.toNat).Feats).length) → (fFeat ((at_ v_1.Trained ix_3.toNat).Feats)) i_ = (fFeat ((at_ v_1.Trained ix_3.toNat).Feats)) i_ ∨ (AV.idsL ((fFeat ((at_ v_1.Trained ix_3.toNat).Feats)) i_) = [] ∧ leL (fun _ => none) false ((fFeat ((at_ v_1.Trained ix_3.toNat).Feats)) i_) ((fFeat ((at_ v_1.Trained ix_3.toNat).Feats)) i_))) ∧ ((false = true → true = true) ∧ 3 = 3 ∧ v_2.length = v_2.length ∧ ∀ i_, i_ < v_2.length → (fFeat v_2) i_ = (fFeat v_2) i_ ∨ (AV.idsL ((fFeat v_2) i_) = [] ∧ leL (fun _ => none) false ((fFeat v_2) i_) ((fFeat v_2) i_))) ∧ True] hB ⟨⟨(by omega), (by omega)⟩, ⟨hc6, ⟨(fun h => by cases h), rfl, rfl, fun i _ => .inl rfl⟩, ⟨(fun h => by cases h), rfl, rfl, fun i _ => .inl rfl⟩, trivial⟩, trivial⟩ ?_
   refine ae_then ?_
   refine aw_seq ?_
   obtain ⟨v_7, c_7, hx7_0, hx7_1, hc7⟩ := specElastic_ok ((at_ v_3.Trained ix_3.toNat).Feats) v_2 v_1.Band
   rw [← hx7_1, ← hx7_0] at hle
   refine aw_r [(9, .call [(false, slFeat false ((at_ v_3.Trained ix_3.toNat).Feats)), (false, slFeat false v_2), (true, .any)] true (.tup [I v_7, I c_7]))] [16, 17, 18, 19] [] [I v_6, I c_6, I v_7, I c_7] [] [(0 : Int) ≤ ix_3 ∧ ix_3 < (v_3.Trained.length : Int), Con Tryz.prog 15 [slFeat false ((at_ v_3.Trained ix_3.toNat).Feats), slFeat false v_2, I v_1.Band] true (.tup [I v_7, I c_7]) ∧ ((false = true → true = true) ∧ 3 = 3 ∧ (((at_ v_3.Trained ix_3.toNat).Feats).length) = (((at_ v_3.Trained ix_3.toNat).Feats).length) ∧ ∀ i_, i_ < (((at_ v_3.Trained ix_3.toNat).Feats).length) → (fFeat ((at_ v_3.Trained ix_3.toNat).Feats)) i_ = (fFeat ((at_ v_3.Trained ix_3.toNat).Feats)) i_ ∨ (AV.idsL ((fFeat ((at_ v_3.Trained ix_3.toNat).Feats)) i_) = [] ∧ leL (fun _ => none) false ((fFeat ((at_ v_3.Trained ix_3.toNat).Feats)) i_) ((fFeat ((at_ v_3.Trained ix_3.toNat).Feats)) i_))) ∧ ((false = true → true = true) ∧ 3 = 3 ∧ v_2.length = v_2.length ∧ ∀ i_, i_ < v_2.length → (fFeat v_2) i_ = (fFeat v_2) i_ ∨ (AV.idsL ((fFeat v_2) i_) = [] ∧ leL (fun _ => none) false ((fFeat v_2) i_) ((fFeat v_2) i_))) ∧ True] hB ⟨⟨(by omega), (by omega)⟩, ⟨hc7, ⟨(fun h => by cases h), rfl, rfl, fun i _ => .inl rfl⟩, ⟨(fun h => by cases h), rfl, rfl, fun i _ => .inl rfl⟩, trivial⟩, trivial⟩ ?_
   refine ae_then ?_
   refine aR [(1, .dec true), (4, .dec true), (9, .dec true)] [4] [] [Bv true] [] [c_6 = 0, c_7 = 0, v_7 ≤ v_6] hB ⟨hle.1, hle.2.1, hle.2.2, trivial⟩ ?_
   refine aw_ret ?_
   refine ae_ret hB (Bv true) (by kernel_rfl) (.inl rfl) rfl (fun _ => trivial)
  by_cases h6 : (v_3.Trained.length : Int) = ((v_1.Trained.length : Int) + 1)
  ·by_cases h7 : ix_3 = (v_1.Trained.length : Int)
   ·refine aw_r [(6, .dec true), (15, .dec false), (21, .dec false)] [5, 6, 8, 9, 86] [5, 8] [.ref 5 0, slFeat true v_2, .ref 8 0, I ix_3, Bv false] [some (bxWriterT v_1), some (bxWriterT v_3)] [(v_3.Trained.length : Int) ≠ (v_1.Trained.length : Int), inR .i64 ((v_1.Trained.length : Int) + 1), ¬ ((v_3.Trained.length : Int) ≠ ((v_1.Trained.length : Int) + 1)), ¬ (ix_3 ≠ (v_1.Trained.length : Int))] hB ⟨h2, (inR_i64 (by omega) (by omega)), (fun hq => hq h6), (fun hq => hq h7), trivial⟩ ?_
    refine ae_then ?_
    refine aw_false rfl ?_
    refine aw_skip ?_
    refine ae_then ?_
    refine aw_seq ?_
    refine aR [] [5, 6, 8, 9, 11] [5, 8] [.ref 5 0, slFeat true v_2, .ref 8 0, I ix_3, I 0] [some (bxWriterT v_1), some (bxWriterT v_3)] [] hB trivial ?_
    refine aw_block ?_
    refine aw_loop (fun gn gσ => ∃ (i : Int), gn = ((v_1.Trained.length : Int) - i).toNat ∧ (0 ≤ i ∧ i ≤ (v_1.Trained.length : Int)) ∧ gσ = mkS [(5, .ref 5 0), (6, slFeat true v_2), (8, .ref 8 0), (9, I ix_3), (11, I i)] [(5, bxWriterT v_1), (8, bxWriterT v_3)]) (((v_1.Trained.length : Int) - 0).toNat) ⟨0, rfl, (by omega), rfl⟩ (fun gn gσ hI => ?_)
    obtain ⟨i, rfl, hi0, rfl⟩ := hI
    refine aw_seq ?_
    refine aw_seq ?_
    by_cases h8 : i < (v_1.Trained.length : Int)
    ·have hi : i.toNat < v_1.Trained.length := by omega
     have hix : ((i.toNat : Nat) : Int) = i := by omega
     refine aw_r [(4, .dec true)] [5, 6, 8, 9, 11, 91] [5, 8] [.ref 5 0, slFeat true v_2, .ref 8 0, I ix_3, I i, Bv true] [some (bxWriterT v_1), some (bxWriterT v_3)] [i < (v_1.Trained.length : Int)] hB ⟨h8, trivial⟩ ?_
     refine ae_then ?_
     refine aw_true rfl ?_
     refine aw_skip ?_
     refine ae_then ?_
     refine aw_seq ?_
     refine aw_block ?_
     refine aw_seq ?_
     by_cases h9 : i = ix_3
     ·refine aw_r [(2, .dec false)] [5, 6, 8, 9, 11, 110] [5, 8] [.ref 5 0, slFeat true v_2, .ref 8 0, I ix_3, I i, Bv false] [some (bxWriterT v_1), some (bxWriterT v_3)] [¬ (i ≠ ix_3)] hB ⟨(fun hq => hq h9), trivial⟩ ?_
      refine ae_then ?_
      refine aw_false rfl ?_
      refine aw_skip ?_
      refine ae_block 1 ?_
      refine ae_then ?_
      refine aw_r [] [5, 6, 8, 9, 11] [5, 8] [.ref 5 0, slFeat true v_2, .ref 8 0, I ix_3, I (i + 1)] [some (bxWriterT v_1), some (bxWriterT v_3)] [inR .i64 (i + 1)] hB ⟨(inR_i64 (by omega) (by omega)), trivial⟩ ?_
      exact ae_again _ (by omega) ⟨(i + 1), rfl, (by omega), rfl⟩
     have hso := hxo i.toNat hi (by omega)
     refine aw_r [(2, .dec true), (14, .call [(false, agTrained (at_ v_3.Trained i.toNat)), (false, agTrained (at_ v_1.Trained i.toNat))] true (Bv true))] [5, 6, 8, 9, 11, 110] [5, 8] [.ref 5 0, slFeat true v_2, .ref 8 0, I ix_3, I i, Bv false] [some (bxWriterT v_1), some (bxWriterT v_3)] [i ≠ ix_3, (0 : Int) ≤ i ∧ i < (v_3.Trained.length : Int), (0 : Int) ≤ i ∧ i < (v_1.Trained.length : Int), Con Tryz.prog 10 [agTrained (at_ v_3.Trained i.toNat), agTrained (at_ v_1.Trained i.toNat)] true (Bv true) ∧ ((valOf (Sv ((at_ v_3.Trained i.toNat).Label)) = valOf (Sv ((at_ v_3.Trained i.toNat).Label))) ∧ ((false = true → true = true) ∧ 3 = 3 ∧ (((at_ v_3.Trained i.toNat).Base).length) = (((at_ v_3.Trained i.toNat).Base).length) ∧ ∀ i_, i_ < (((at_ v_3.Trained i.toNat).Base).length) → (fFeat ((at_ v_3.Trained i.toNat).Base)) i_ = (fFeat ((at_ v_3.Trained i.toNat).Base)) i_ ∨ (AV.idsL ((fFeat ((at_ v_3.Trained i.toNat).Base)) i_) = [] ∧ leL (fun _ => none) false ((fFeat ((at_ v_3.Trained i.toNat).Base)) i_) ((fFeat ((at_ v_3.Trained i.toNat).Base)) i_))) ∧ ((false = true → true = true) ∧ 3 = 3 ∧ (((at_ v_3.Trained i.toNat).Feats).length) = (((at_ v_3.Trained i.toNat).Feats).length) ∧ ∀ i_, i_ < (((at_ v_3.Trained i.toNat).Feats).length) → (fFeat ((at_ v_3.Trained i.toNat).Feats)) i_ = (fFeat ((at_ v_3.Trained i.toNat).Feats)) i_ ∨ (AV.idsL ((fFeat ((at_ v_3.Trained i.toNat).Feats)) i_) = [] ∧ leL (fun _ => none) false ((fFeat ((at_ v_3.Trained i.toNat).Feats)) i_) ((fFeat ((at_ v_3.Trained i.toNat).Feats)) i_))) ∧ (valOf (I ((at_ v_3.Trained i.toNat).Count)) = valOf (I ((at_ v_3.Trained i.toNat).Count))) ∧ ([] : List AV) = []) ∧ ((valOf (Sv ((at_ v_1.Trained i.toNat).Label)) = valOf (Sv ((at_ v_1.Trained i.toNat).Label))) ∧ ((false = true → true = true) ∧ 3 = 3 ∧ (((at_ v_1.Trained i.toNat).Base).length) = (((at_ v_1.Trained i.toNat).Base).length) ∧ ∀ i_, i_ < (((at_ v_1.Trained i.toNat).Base).length) → (fFeat ((at_ v_1.Trained i.toNat).Base)) i_ = (fFeat ((at_ v_1.Trained i.toNat).Base)) i_ ∨ (AV.idsL ((fFeat ((at_ v_1.Trained i.toNat).Base)) i_) = [] ∧ leL (fun _ => none) false ((fFeat ((at_ v_1.Trained i.toNat).Base)) i_) ((fFeat ((at_ v_1.Trained i.toNat).Base)) i_))) ∧ ((false = true → true = true) ∧ 3 = 3 ∧ (((at_ v_1.Trained i.toNat).Feats).length) = (((at_ v_1.Trained i.toNat).Feats).length) ∧ ∀ i_, i_ < (((at_ v_1.Trained i.toNat).Feats).length) → (fFeat ((at_ v_1.Trained i.toNat).Feats)) i_ = (fFeat ((at_ v_1.Trained i.toNat).Feats)) i_ ∨ (AV.idsL ((fFeat ((at_ v_1.Trained i.toNat).Feats)) i_) = [] ∧ leL (fun _ => none) false ((fFeat ((at_ v_1.Trained i.toNat).Feats)) i_) ((fFeat ((at_ v_1.Trained i.toNat).Feats)) i_))) ∧ (valOf (I ((at_ v_1.Trained i.toNat).Count)) = valOf (I ((at_ v_1.Trained i.toNat).Count))) ∧ ([] : List AV) = []) ∧ True] hB ⟨h9, ⟨(by omega), (by omega)⟩, ⟨(by omega), (by omega)⟩, ⟨(con_bool (by rw [hso]; exact sameT_refl _) (specSameTrained_ok (at_ v_3.Trained i.toNat) (at_ v_1.Trained i.toNat))), ⟨rfl, ⟨⟨(fun h => by cases h), rfl, rfl, fun i _ => .inl rfl⟩, ⟨⟨(fun h => by cases h), rfl, rfl, fun i _ => .inl rfl⟩, ⟨rfl, rfl⟩⟩⟩⟩, ⟨rfl, ⟨⟨(fun h => by cases h), rfl, rfl, fun i _ => .inl rfl⟩, ⟨⟨(fun h => by cases h), rfl, rfl, fun i _ => .inl rfl⟩, ⟨rfl, rfl⟩⟩⟩⟩, trivial⟩, trivial⟩ ?_
     refine ae_then ?_
     refine aw_false rfl ?_
     refine aw_skip ?_
     refine ae_block 1 ?_
     refine ae_then ?_
     refine aw_r [] [5, 6, 8, 9, 11] [5, 8] [.ref 5 0, slFeat true v_2, .ref 8 0, I ix_3, I (i + 1)] [some (bxWriterT v_1), some (bxWriterT v_3)] [inR .i64 (i + 1)] hB ⟨(inR_i64 (by omega) (by omega)), trivial⟩ ?_
     exact ae_again _ (by omega) ⟨(i + 1), rfl, (by omega), rfl⟩
    refine aw_r [(4, .dec false)] [5, 6, 8, 9, 11, 91] [5, 8] [.ref 5 0, slFeat true v_2, .ref 8 0, I ix_3, I i, Bv false] [some (bxWriterT v_1), some (bxWriterT v_3)] [¬ (i < (v_1.Trained.length : Int))] hB ⟨h8, trivial⟩ ?_
    refine ae_then ?_
    refine aw_false rfl ?_
    refine aw_exit ?_
    refine ae_exit_then ?_
    refine ae_exit_then ?_
    refine ae_exit_same ?_
    refine ae_then ?_
    refine aw_seq ?_
    obtain ⟨v_8, c_8, hx8_0, hx8_1, hc8⟩ := StoreOfWriter_t v_3 hxw (okW_size hxw)
    have hss : okStore' v_8 = true := by rw [hx8_0]; exact sow_ok hxw
    have hse : v_8.Templates.length = v_3.Trained.length := by rw [hx8_0]; simp [sowS]
    refine aw_r [(1, .call [(false, agWriter v_3)] true (.tup [agStoreT v_8, I c_8])), (5, .new 12)] [5, 6, 8, 9, 12, 13] [5, 8, 12] [.ref 5 0, slFeat true v_2, .ref 8 0, I ix_3, .ref 12 0, I c_8] [some (bxWriterT v_1), some (bxWriterT v_3), some (bxStoreT v_8)] [Con Tryz.prog 11 [agWriter v_3] true (.tup [agStoreT v_8, I c_8]) ∧ ((valOf (I v_3.Band) = valOf (I v_3.Band)) ∧ ((false = true → true = true) ∧ 4 = 4 ∧ v_3.Trained.length = v_3.Trained.length ∧ ∀ i_, i_ < v_3.Trained.length → (fTrained true v_3.Trained) i_ = (fTrained false v_3.Trained) i_ ∨ (AV.idsL ((fTrained false v_3.Trained) i_) = [] ∧ leL (fun _ => none) false ((fTrained true v_3.Trained) i_) ((fTrained false v_3.Trained) i_))) ∧ ([] : List AV) = []) ∧ True] hB ⟨⟨hc8, ⟨rfl, ⟨⟨(fun h => by cases h), rfl, rfl, fun i _ => .inr ⟨idsTrained _ _, leTrained _ _ _⟩⟩, rfl⟩⟩, trivial⟩, trivial⟩ ?_
    refine ae_then ?_
    refine aw_seq ?_
    obtain ⟨v_9, c_9, hx9_0, hx9_1, hc9⟩ := WriterOfStore_t v_8 hss (okS_size hss)
    have hbe : v_9.Trained.length = v_3.Trained.length := by rw [hx9_0, ← hse]; simp [wosW]
    refine aw_r [(1, .call [(false, agStore v_8)] true (.tup [agWriterT v_9, I c_9])), (5, .new 14)] [5, 6, 8, 9, 12, 13, 14, 15] [5, 8, 12, 14] [.ref 5 0, slFeat true v_2, .ref 8 0, I ix_3, .ref 12 0, I c_8, .ref 14 0, I c_9] [some (bxWriterT v_1), some (bxWriterT v_3), some (bxStoreT v_8), some (bxWriterT v_9)] [Con Tryz.prog 12 [agStore v_8] true (.tup [agWriterT v_9, I c_9]) ∧ ((valOf (I v_8.Band) = valOf (I v_8.Band)) ∧ ((false = true → true = true) ∧ 2 = 2 ∧ v_8.Templates.length = v_8.Templates.length ∧ ∀ i_, i_ < v_8.Templates.length → (fTemplate true v_8.Templates) i_ = (fTemplate false v_8.Templates) i_ ∨ (AV.idsL ((fTemplate false v_8.Templates) i_) = [] ∧ leL (fun _ => none) false ((fTemplate true v_8.Templates) i_) ((fTemplate false v_8.Templates) i_))) ∧ ([] : List AV) = []) ∧ True] hB ⟨⟨hc9, ⟨rfl, ⟨⟨(fun h => by cases h), rfl, rfl, fun i _ => .inr ⟨idsTemplate _ _, leTemplate _ _ _⟩⟩, rfl⟩⟩, trivial⟩, trivial⟩ ?_
    refine ae_then ?_
    refine aw_seq ?_
    refine aR [(1, .dec false), (4, .dec false), (8, .call [(false, agStore v_8)] true (Bv true)), (18, .dec false)] [5, 6, 8, 9, 140] [5, 8] [.ref 5 0, slFeat true v_2, .ref 8 0, I ix_3, Bv false] [some (bxWriterT v_1), some (bxWriterT v_3)] [¬ (c_8 ≠ 0), ¬ (c_9 ≠ 0), Con Tryz.prog 13 [agStore v_8] true (Bv true) ∧ ((valOf (I v_8.Band) = valOf (I v_8.Band)) ∧ ((false = true → true = true) ∧ 2 = 2 ∧ v_8.Templates.length = v_8.Templates.length ∧ ∀ i_, i_ < v_8.Templates.length → (fTemplate true v_8.Templates) i_ = (fTemplate false v_8.Templates) i_ ∨ (AV.idsL ((fTemplate false v_8.Templates) i_) = [] ∧ leL (fun _ => none) false ((fTemplate true v_8.Templates) i_) ((fTemplate false v_8.Templates) i_))) ∧ ([] : List AV) = []) ∧ True, ¬ ((v_9.Trained.length : Int) ≠ (v_3.Trained.length : Int))] hB ⟨(fun hq => hq hx8_1), (fun hq => hq hx9_1), ⟨(con_bool hss (specValidStore_ok v_8 (okS_size hss))), ⟨rfl, ⟨⟨(fun h => by cases h), rfl, rfl, fun i _ => .inr ⟨idsTemplate _ _, leTemplate _ _ _⟩⟩, rfl⟩⟩, trivial⟩, (fun hq => hq (by omega)), trivial⟩ ?_
    refine aw_false rfl ?_
    refine aw_skip ?_
    refine ae_then ?_
    refine aw_seq ?_
    refine aR [(4, .dec true)] [5, 6, 8, 9, 145] [5, 8] [.ref 5 0, slFeat true v_2, .ref 8 0, I ix_3, Bv true] [some (bxWriterT v_1), some (bxWriterT v_3)] [ix_3 = (v_1.Trained.length : Int)] hB ⟨h7, trivial⟩ ?_
    refine aw_true rfl ?_
    refine aR [(7, .call [(false, slFeat false ((at_ v_3.Trained ix_3.toNat).Feats)), (false, slFeat false v_2)] true (Bv (sameL ((at_ v_3.Trained ix_3.toNat).Feats) v_2)))] [4] [] [Bv (sameL ((at_ v_3.Trained ix_3.toNat).Feats) v_2)] [] [(0 : Int) ≤ ix_3 ∧ ix_3 < (v_3.Trained.length : Int), Con Tryz.prog 14 [slFeat false ((at_ v_3.Trained ix_3.toNat).Feats), slFeat false v_2] true (Bv (sameL ((at_ v_3.Trained ix_3.toNat).Feats) v_2)) ∧ ((false = true → true = true) ∧ 3 = 3 ∧ (((at_ v_3.Trained ix_3.toNat).Feats).length) = (((at_ v_3.Trained ix_3.toNat).Feats).length) ∧ ∀ i_, i_ < (((at_ v_3.Trained ix_3.toNat).Feats).length) → (fFeat ((at_ v_3.Trained ix_3.toNat).Feats)) i_ = (fFeat ((at_ v_3.Trained ix_3.toNat).Feats)) i_ ∨ (AV.idsL ((fFeat ((at_ v_3.Trained ix_3.toNat).Feats)) i_) = [] ∧ leL (fun _ => none) false ((fFeat ((at_ v_3.Trained ix_3.toNat).Feats)) i_) ((fFeat ((at_ v_3.Trained ix_3.toNat).Feats)) i_))) ∧ ((false = true → true = true) ∧ 3 = 3 ∧ v_2.length = v_2.length ∧ ∀ i_, i_ < v_2.length → (fFeat v_2) i_ = (fFeat v_2) i_ ∨ (AV.idsL ((fFeat v_2) i_) = [] ∧ leL (fun _ => none) false ((fFeat v_2) i_) ((fFeat v_2) i_))) ∧ True] hB ⟨⟨(by omega), (by omega)⟩, ⟨(specSameFeats_ok ((at_ v_3.Trained ix_3.toNat).Feats) v_2), ⟨(fun h => by cases h), rfl, rfl, fun i _ => .inl rfl⟩, ⟨(fun h => by cases h), rfl, rfl, fun i _ => .inl rfl⟩, trivial⟩, trivial⟩ ?_
    refine aw_ret ?_
    refine ae_ret_then ?_
    refine ae_ret hB (Bv (sameL ((at_ v_3.Trained ix_3.toNat).Feats) v_2)) (by kernel_rfl) (.inl (by first | rfl | (exfalso; rcases hxn with hxn | hxn <;> omega) | (rcases hxn with hxn | hxn; (exact absurd hxn.1 (by omega)); (rw [hxn.2.2, sameL_refl])))) rfl (fun _ => trivial)
   refine aw_r [(6, .dec true), (15, .dec false), (21, .dec true)] [5, 6, 8, 9, 86] [5, 8] [.ref 5 0, slFeat true v_2, .ref 8 0, I ix_3, Bv true] [some (bxWriterT v_1), some (bxWriterT v_3)] [(v_3.Trained.length : Int) ≠ (v_1.Trained.length : Int), inR .i64 ((v_1.Trained.length : Int) + 1), ¬ ((v_3.Trained.length : Int) ≠ ((v_1.Trained.length : Int) + 1)), ix_3 ≠ (v_1.Trained.length : Int)] hB ⟨h2, (inR_i64 (by omega) (by omega)), (fun hq => hq h6), h7, trivial⟩ ?_
   refine ae_then ?_
   refine aw_true rfl ?_
   refine aR [] [4] [] [Bv false] [] [] hB trivial ?_
   refine aw_ret ?_
   refine ae_ret_then ?_
   refine ae_ret hB (Bv false) (by kernel_rfl) (.inl (by first | rfl | (exfalso; rcases hxn with hxn | hxn <;> omega) | (rcases hxn with hxn | hxn; (exact absurd hxn.1 (by omega)); (rw [hxn.2.2, sameL_refl])))) rfl (fun _ => trivial)
  refine aw_r [(6, .dec true), (15, .dec true)] [5, 6, 8, 9, 86] [5, 8] [.ref 5 0, slFeat true v_2, .ref 8 0, I ix_3, Bv true] [some (bxWriterT v_1), some (bxWriterT v_3)] [(v_3.Trained.length : Int) ≠ (v_1.Trained.length : Int), inR .i64 ((v_1.Trained.length : Int) + 1), (v_3.Trained.length : Int) ≠ ((v_1.Trained.length : Int) + 1)] hB ⟨h2, (inR_i64 (by omega) (by omega)), h6, trivial⟩ ?_
  refine ae_then ?_
  refine aw_true rfl ?_
  refine aR [] [4] [] [Bv false] [] [] hB trivial ?_
  refine aw_ret ?_
  refine ae_ret_then ?_
  refine ae_ret hB (Bv false) (by kernel_rfl) (.inl (by first | rfl | (exfalso; rcases hxn with hxn | hxn <;> omega) | (rcases hxn with hxn | hxn; (exact absurd hxn.1 (by omega)); (rw [hxn.2.2, sameL_refl])))) rfl (fun _ => trivial)


/-! ### the row -/

theorem opens_t22 : OpensA Tryz.prog 22 (cLU8 false) (fun xs => ∀ y ∈ xs, inR .u8 y) :=
  opensA_slice (c := cU8) (sz := 1) Tryz.underlying22 (by kernel_rfl) (by decide) (fun x => ⟨rfl, by simp [oneA, cU8]⟩) (opensA_int Tryz.underlying5)

namespace fnLearn
set_option maxRecDepth 100000 in
theorem lifted (os : Os) (started : os.Started) (H : Type) (enc : TypeId × Value → H) :
    ReturnsInHanded {} Tryz.checked os 3 .any (Rows.fnLearnSpec.pre6 enc Tryz.prog Tryz.f3 Rows.fnLearnRow.domain false) (Rows.fnLearnSpec.post enc Tryz.prog Tryz.f3 false true false false) := by
  refine returnsInHanded_of_change_shaped (C := Tryz.checked) Tryz.own started (by kernel_rfl) Tryz.func3
    (ChangeSpec.witness6 (enc := enc) (C := Tryz.checked) false ⟨#[], #[.slice none 0 0, .slice none 0 0], []⟩ 8 (by kernel_rfl) (by kernel_rfl) (by kernel_rfl) (by kernel_rfl)) ?_
  intro W base args ds gs before hval0 hW hcnd hsz hshp _
  have hW' := hW
  obtain ⟨p, q, hA0, hV, rfl, hfz, hnd⟩ := hW
  have hval : ∀ (j : Nat) t v, Tryz.f3.params[j]? = some t → args[j]? = some v → Value.okWide Tryz.prog W .any base t v := hval0
  have hA : DataW.TrodAll enc Tryz.prog W 0 (fun _ => true) true Tryz.f3.params.toList args.toList ds p := hA0
  rw [Tryz.params3] at hA hval
  obtain ⟨v0, vs0, d0, ds0, p0, q0, hargs, rfl, rfl, h0, r0⟩ := trodAll_cons hA
  obtain ⟨v1, vs1, d1, ds1, p1, q1, rfl, rfl, rfl, h1, r1⟩ := trodAll_cons r0
  obtain ⟨rfl, rfl, rfl⟩ := trodAll_nil r1
  obtain rfl : args = #[v0, v1] := args_eq hargs
  obtain ⟨rfl, rfl⟩ := trodVars_none hV
  obtain ⟨fuel0, hf0⟩ := h0
  obtain ⟨A0, l0, c0, rfl⟩ := okWide_slice Tryz.underlying22 (hval 0 22 v0 rfl rfl)
  obtain ⟨x0, rx0, ok0⟩ := (opens_t22) enc W 0 _ _ _ _ _ hf0
  obtain ⟨fuel1, hf1⟩ := h1
  obtain ⟨A1, l1, c1, rfl⟩ := okWide_slice Tryz.underlying22 (hval 1 22 v1 rfl rfl)
  obtain ⟨x1, rx1, ok1⟩ := (opens_t22) enc W 0 _ _ _ _ _ hf1
  refine (walk_of0 (fnLearn_con x0 x1 ok0 ok1) (fun w _ => WX_free w) (RelTL.cons (relTL_one rx0) (RelTL.cons (relTL_one rx1) RelTL.nil))).mono fun e W1 ⟨he, hb⟩ => ?_
  subst he
  exact ⟨_, rfl, law_post Tryz.laidOut rfl Tryz.underlying4 (of_decide_eq_true (by kernel_rfl)) rfl hW' hb rfl⟩

theorem over : Rows.fnLearnRow.holds Tryz.pinned (OpenSpec.ofChange Rows.fnLearnSpec) :=
  OpenClaim.holds_of_wide 3 Tryz.f3 rfl rfl rfl rfl rfl rfl rfl ⟨rfl, rfl, rfl, rfl, rfl⟩ rfl rfl rfl rfl rfl (by kernel_rfl) Tryz.func3 (by kernel_rfl)
    (of_decide_eq_true (by kernel_rfl)) (by unfold Func.isWrapper; first | (rw [if_pos (by decide +kernel)]; kernel_rfl) | (rw [if_neg (by decide +kernel)]; exact ⟨rfl, rfl⟩))
    (fun os started H enc _ => lifted os started H enc)

theorem proved : Rows.FnLearnSaid :=
  over
#print axioms proved
end fnLearn
end Go.Proofs.YtjiflhglbephbaaGreat.Ax
