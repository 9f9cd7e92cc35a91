/- Contracts that the statement FnExactStoreOfWriter reaches, part 2. No conditions. -/
import Derived.Test.YtjiflhglbephbaaAxEStoreOfWriter1
import Derived.Test.YtjiflhglbephbaaAxR
import Derived.Test.YtjiflhglbephbaaAxS
namespace Go.Proofs.Ytjiflhglbephbaa.Ax
open Go.RowKit Go.ChangeShapes Go.WideShapes
set_option linter.unusedVariables false
set_option linter.unusedSimpArgs false


-- laws.eqStore
theorem eqStore_ok (a : Store) (b : Store) : Con Try.prog 10 [agStore a, agStore b] true (Bv (same a b)) := by
  refine fn_ok (fn := Try.f10) (nt := 16) Try.func10 rfl rfl rfl rfl (by simp [taggedL, tagged, tagTemplate]) fun B hB => ?_
  refine aw_lens (x := agStore a) 0 rfl (fun len_a => ?_)
  simp [LenOK, LenL, cFeat, cTemplate, fFeat, fTemplate, slFeat, slTemplate] at len_a
  refine aw_lens (x := agStore b) 1 rfl (fun len_b => ?_)
  simp [LenOK, LenL, cFeat, cTemplate, fFeat, fTemplate, slFeat, slTemplate] at len_b
  refine aR [(0, .new 2), (1, .new 3)] [2, 3] [2, 3] [.ref 2 0, .ref 3 0] [some (bxStore a), some (bxStore b)] [] hB trivial ?_
  refine aw_seq ?_
  refine aw_seq ?_
  by_cases h1 : a.Band = b.Band
  ·refine aw_r [(4, .dec false)] [2, 3, 9] [2, 3] [.ref 2 0, .ref 3 0, Bv false] [some (bxStore a), some (bxStore b)] [¬ (a.Band ≠ b.Band)] hB ⟨(fun hq => hq h1), trivial⟩ ?_
   refine ae_then ?_
   refine aw_false rfl ?_
   refine aw_skip ?_
   refine ae_then ?_
   refine aw_seq ?_
   refine aw_seq ?_
   rcases Bool.eq_false_or_eq_true (same a.Templates b.Templates) with h2 | h2
   ·refine aw_r [(4, .call [(true, .any), (true, .any)] true (Bv true))] [15] [] [Bv false] [] [Con Try.prog 26 [slTemplate false a.Templates, slTemplate false b.Templates] true (Bv true) ∧ True] hB ⟨⟨(con_bool h2 (eqTemplateS_ok a.Templates b.Templates)), trivial⟩, trivial⟩ ?_
    refine ae_then ?_
    refine aw_false rfl ?_
    refine aw_skip ?_
    refine ae_then ?_
    refine aR [] [4] [] [Bv true] [] [] hB trivial ?_
    refine aw_ret ?_
    refine ae_ret hB (Bv true) (by kernel_rfl) (.inl (by first | (cases a; cases b; simp_all [same]; done) | (cases a; cases b; simp_all [same]; omega))) rfl (fun _ => trivial)
   refine aw_r [(4, .call [(true, .any), (true, .any)] true (Bv false))] [15] [] [Bv true] [] [Con Try.prog 26 [slTemplate false a.Templates, slTemplate false b.Templates] true (Bv false) ∧ True] hB ⟨⟨(con_bool h2 (eqTemplateS_ok a.Templates b.Templates)), trivial⟩, trivial⟩ ?_
   refine ae_then ?_
   refine aw_true rfl ?_
   refine aR [] [4] [] [Bv false] [] [] hB trivial ?_
   refine aw_ret ?_
   refine ae_ret_then ?_
   refine ae_ret hB (Bv false) (by kernel_rfl) (.inl (by first | (cases a; cases b; simp_all [same]; done) | (cases a; cases b; simp_all [same]; omega))) rfl (fun _ => trivial)
  refine aw_r [(4, .dec true)] [2, 3, 9] [2, 3] [.ref 2 0, .ref 3 0, Bv true] [some (bxStore a), some (bxStore b)] [a.Band ≠ b.Band] hB ⟨h1, trivial⟩ ?_
  refine ae_then ?_
  refine aw_true rfl ?_
  refine aR [] [4] [] [Bv false] [] [] hB trivial ?_
  refine aw_ret ?_
  refine ae_ret_then ?_
  refine ae_ret hB (Bv false) (by kernel_rfl) (.inl (by first | (cases a; cases b; simp_all [same]; done) | (cases a; cases b; simp_all [same]; omega))) rfl (fun _ => trivial)


-- laws.eqTrained
theorem eqTrained_ok (a : Trained) (b : Trained) : Con Try.prog 46 [agTrained a, agTrained b] true (Bv (same a b)) := by
  refine fn_ok (fn := Try.f46) (nt := 27) Try.func46 rfl rfl rfl rfl (by simp [taggedL, tagged, tagFeat]) fun B hB => ?_
  refine aw_lens (x := agTrained a) 0 rfl (fun len_a => ?_)
  simp [LenOK, LenL, cFeat, fFeat, slFeat] at len_a
  refine aw_lens (x := agTrained b) 1 rfl (fun len_b => ?_)
  simp [LenOK, LenL, cFeat, fFeat, slFeat] at len_b
  refine aR [(0, .new 2), (1, .new 3)] [2, 3] [2, 3] [.ref 2 0, .ref 3 0] [some (bxTrained a), some (bxTrained b)] [] hB trivial ?_
  refine aw_seq ?_
  refine aw_seq ?_
  by_cases h1 : a.Label = b.Label
  ·refine aw_r [(4, .dec false)] [2, 3, 9] [2, 3] [.ref 2 0, .ref 3 0, Bv false] [some (bxTrained a), some (bxTrained b)] [¬ (a.Label ≠ b.Label)] hB ⟨(fun hq => hq h1), trivial⟩ ?_
   refine ae_then ?_
   refine aw_false rfl ?_
   refine aw_skip ?_
   refine ae_then ?_
   refine aw_seq ?_
   refine aw_seq ?_
   rcases Bool.eq_false_or_eq_true (same a.Base b.Base) with h2 | h2
   ·refine aw_r [(4, .call [(true, .any), (true, .any)] true (Bv true))] [2, 3, 15] [2, 3] [.ref 2 0, .ref 3 0, Bv false] [some (bxTrained a), some (bxTrained b)] [Con Try.prog 65 [slFeat false a.Base, slFeat false b.Base] true (Bv true) ∧ True] hB ⟨⟨(con_bool h2 (eqFeatS_ok a.Base b.Base)), trivial⟩, trivial⟩ ?_
    refine ae_then ?_
    refine aw_false rfl ?_
    refine aw_skip ?_
    refine ae_then ?_
    refine aw_seq ?_
    refine aw_seq ?_
    rcases Bool.eq_false_or_eq_true (same a.Feats b.Feats) with h3 | h3
    ·refine aw_r [(4, .call [(true, .any), (true, .any)] true (Bv true))] [2, 3, 21] [2, 3] [.ref 2 0, .ref 3 0, Bv false] [some (bxTrained a), some (bxTrained b)] [Con Try.prog 65 [slFeat false a.Feats, slFeat false b.Feats] true (Bv true) ∧ True] hB ⟨⟨(con_bool h3 (eqFeatS_ok a.Feats b.Feats)), trivial⟩, trivial⟩ ?_
     refine ae_then ?_
     refine aw_false rfl ?_
     refine aw_skip ?_
     refine ae_then ?_
     refine aw_seq ?_
     refine aw_seq ?_
     by_cases h4 : a.Count = b.Count
     ·refine aw_r [(4, .dec false)] [26] [] [Bv false] [] [¬ (a.Count ≠ b.Count)] hB ⟨(fun hq => hq h4), trivial⟩ ?_
      refine ae_then ?_
      refine aw_false rfl ?_
      refine aw_skip ?_
      refine ae_then ?_
      refine aR [] [4] [] [Bv true] [] [] hB trivial ?_
      refine aw_ret ?_
      refine ae_ret hB (Bv true) (by kernel_rfl) (.inl (by first | (cases a; cases b; simp_all [same]; done) | (cases a; cases b; simp_all [same]; omega))) rfl (fun _ => trivial)
     refine aw_r [(4, .dec true)] [26] [] [Bv true] [] [a.Count ≠ b.Count] hB ⟨h4, trivial⟩ ?_
     refine ae_then ?_
     refine aw_true rfl ?_
     refine aR [] [4] [] [Bv false] [] [] hB trivial ?_
     refine aw_ret ?_
     refine ae_ret_then ?_
     refine ae_ret hB (Bv false) (by kernel_rfl) (.inl (by first | (cases a; cases b; simp_all [same]; done) | (cases a; cases b; simp_all [same]; omega))) rfl (fun _ => trivial)
    refine aw_r [(4, .call [(true, .any), (true, .any)] true (Bv false))] [2, 3, 21] [2, 3] [.ref 2 0, .ref 3 0, Bv true] [some (bxTrained a), some (bxTrained b)] [Con Try.prog 65 [slFeat false a.Feats, slFeat false b.Feats] true (Bv false) ∧ True] hB ⟨⟨(con_bool h3 (eqFeatS_ok a.Feats b.Feats)), trivial⟩, trivial⟩ ?_
    refine ae_then ?_
    refine aw_true rfl ?_
    refine aR [] [4] [] [Bv false] [] [] hB trivial ?_
    refine aw_ret ?_
    refine ae_ret_then ?_
    refine ae_ret hB (Bv false) (by kernel_rfl) (.inl (by first | (cases a; cases b; simp_all [same]; done) | (cases a; cases b; simp_all [same]; omega))) rfl (fun _ => trivial)
   refine aw_r [(4, .call [(true, .any), (true, .any)] true (Bv false))] [2, 3, 15] [2, 3] [.ref 2 0, .ref 3 0, Bv true] [some (bxTrained a), some (bxTrained b)] [Con Try.prog 65 [slFeat false a.Base, slFeat false b.Base] true (Bv false) ∧ True] hB ⟨⟨(con_bool h2 (eqFeatS_ok a.Base b.Base)), trivial⟩, trivial⟩ ?_
   refine ae_then ?_
   refine aw_true rfl ?_
   refine aR [] [4] [] [Bv false] [] [] hB trivial ?_
   refine aw_ret ?_
   refine ae_ret_then ?_
   refine ae_ret hB (Bv false) (by kernel_rfl) (.inl (by first | (cases a; cases b; simp_all [same]; done) | (cases a; cases b; simp_all [same]; omega))) rfl (fun _ => trivial)
  refine aw_r [(4, .dec true)] [2, 3, 9] [2, 3] [.ref 2 0, .ref 3 0, Bv true] [some (bxTrained a), some (bxTrained b)] [a.Label ≠ b.Label] hB ⟨h1, trivial⟩ ?_
  refine ae_then ?_
  refine aw_true rfl ?_
  refine aR [] [4] [] [Bv false] [] [] hB trivial ?_
  refine aw_ret ?_
  refine ae_ret_then ?_
  refine ae_ret hB (Bv false) (by kernel_rfl) (.inl (by first | (cases a; cases b; simp_all [same]; done) | (cases a; cases b; simp_all [same]; omega))) rfl (fun _ => trivial)


-- laws.eqTrainedS
theorem eqTrainedS_ok (a : List Trained) (b : List Trained) : Con Try.prog 25 [slTrained false a, slTrained false b] true (Bv (same a b)) := by
  refine fn_ok (fn := Try.f25) (nt := 27) Try.func25 rfl rfl rfl rfl (by simp [taggedL, tagged, tagTrained]) fun B hB => ?_
  refine aw_lens (x := slTrained false a) 0 rfl (fun len_a => ?_)
  simp [LenOK, LenL, cFeat, cTrained, fFeat, fTrained, slFeat, slTrained] at len_a
  refine aw_lens (x := slTrained false b) 1 rfl (fun len_b => ?_)
  simp [LenOK, LenL, cFeat, cTrained, fFeat, fTrained, slFeat, slTrained] at len_b
  refine aR [] [0, 1] [] [slTrained false a, slTrained false b] [] [] hB trivial ?_
  refine aw_seq ?_
  refine aw_seq ?_
  by_cases h1 : (a.length : Int) = (b.length : Int)
  ·refine aw_r [(4, .dec false)] [0, 1, 10] [] [slTrained false a, slTrained false b, Bv false] [] [¬ ((a.length : Int) ≠ (b.length : Int))] hB ⟨(fun hq => hq h1), trivial⟩ ?_
   refine ae_then ?_
   refine aw_false rfl ?_
   refine aw_skip ?_
   refine ae_then ?_
   refine aw_seq ?_
   refine aR [] [0, 1, 5] [] [slTrained false a, slTrained false b, I 0] [] [] hB trivial ?_
   refine aw_block ?_
   refine aw_loop (fun gn gσ => ∃ (i : Int), gn = ((a.length : Int) - i).toNat ∧ (0 ≤ i ∧ i ≤ (a.length : Int)) ∧ (∀ j : Nat, (j : Int) < i → at_ a j = at_ b j) ∧ gσ = mkS [(0, slTrained false a), (1, slTrained false b), (5, I i)] []) (((a.length : Int) - 0).toNat) ⟨0, rfl, (by omega), (by intro j hj; omega), rfl⟩ (fun gn gσ hI => ?_)
   obtain ⟨i, rfl, hi0, he0, rfl⟩ := hI
   refine aw_seq ?_
   refine aw_seq ?_
   by_cases h2 : i < (a.length : Int)
   ·have hi : i.toNat < a.length := by omega
    have hib : i.toNat < b.length := by omega
    refine aw_r [(3, .dec true)] [0, 1, 5, 14] [] [slTrained false a, slTrained false b, I i, Bv true] [] [i < (a.length : Int)] hB ⟨h2, trivial⟩ ?_
    refine ae_then ?_
    refine aw_true rfl ?_
    refine aw_skip ?_
    refine ae_then ?_
    refine aw_seq ?_
    refine aw_block ?_
    refine aw_seq ?_
    rcases Bool.eq_false_or_eq_true (same (at_ a i.toNat) (at_ b i.toNat)) with h3 | h3
    ·have HEQ := h3
     refine aw_r [(8, .call [(true, .any), (true, .any)] true (Bv true))] [0, 1, 5, 26] [] [slTrained false a, slTrained false b, I i, Bv false] [] [(0 : Int) ≤ i ∧ i < (a.length : Int), (0 : Int) ≤ i ∧ i < (b.length : Int), Con Try.prog 46 [agTrained (at_ a i.toNat), agTrained (at_ b i.toNat)] true (Bv true) ∧ True] hB ⟨⟨(by omega), (by omega)⟩, ⟨(by omega), (by omega)⟩, ⟨(con_bool h3 (eqTrained_ok (at_ a i.toNat) (at_ b i.toNat))), trivial⟩, trivial⟩ ?_
     refine ae_then ?_
     refine aw_false rfl ?_
     refine aw_skip ?_
     refine ae_block 1 ?_
     refine ae_then ?_
     refine aw_r [] [0, 1, 5] [] [slTrained false a, slTrained false b, I (i + 1)] [] [inR .i64 (i + 1)] hB ⟨(inR_i64 (by omega) (by omega)), trivial⟩ ?_
     exact ae_again _ (by omega) ⟨(i + 1), rfl, (by omega), (by intro j hj; by_cases ej : j = i.toNat; (subst ej; simpa [same] using HEQ); exact he0 j (by omega)), rfl⟩
    refine aw_r [(8, .call [(true, .any), (true, .any)] true (Bv false))] [0, 1, 5, 26] [] [slTrained false a, slTrained false b, I i, Bv true] [] [(0 : Int) ≤ i ∧ i < (a.length : Int), (0 : Int) ≤ i ∧ i < (b.length : Int), Con Try.prog 46 [agTrained (at_ a i.toNat), agTrained (at_ b i.toNat)] true (Bv false) ∧ True] hB ⟨⟨(by omega), (by omega)⟩, ⟨(by omega), (by omega)⟩, ⟨(con_bool h3 (eqTrained_ok (at_ a i.toNat) (at_ b i.toNat))), trivial⟩, trivial⟩ ?_
    refine ae_then ?_
    refine aw_true rfl ?_
    refine aR [] [4] [] [Bv false] [] [] hB trivial ?_
    refine aw_ret ?_
    refine ae_ret_block (ae_ret_then (ae_ret_then (ae_ret_block (ae_ret_then ?_))))
    refine ae_ret hB (Bv false) (by kernel_rfl) (.inl (by first | (refine congrArg Bv (Eq.symm (decide_eq_false ?_)); intro e; subst e; simp_all [same]; done) | (exact congrArg Bv (Eq.symm (decide_eq_true hfin))))) rfl (fun _ => trivial)
   have hfin : a = b := ext_at (by omega) (fun j hj => he0 j (by omega))
   refine aw_r [(3, .dec false)] [0, 1, 5, 14] [] [slTrained false a, slTrained false b, I i, Bv false] [] [¬ (i < (a.length : Int))] hB ⟨h2, trivial⟩ ?_
   refine ae_then ?_
   refine aw_false rfl ?_
   refine aw_exit ?_
   refine ae_exit_then ?_
   refine ae_exit_then ?_
   refine ae_exit_same ?_
   refine ae_then ?_
   refine aR [] [4] [] [Bv true] [] [] hB trivial ?_
   refine aw_ret ?_
   refine ae_ret hB (Bv true) (by kernel_rfl) (.inl (by first | (refine congrArg Bv (Eq.symm (decide_eq_false ?_)); intro e; subst e; simp_all [same]; done) | (exact congrArg Bv (Eq.symm (decide_eq_true hfin))))) rfl (fun _ => trivial)
  refine aw_r [(4, .dec true)] [0, 1, 10] [] [slTrained false a, slTrained false b, Bv true] [] [(a.length : Int) ≠ (b.length : Int)] hB ⟨h1, trivial⟩ ?_
  refine ae_then ?_
  refine aw_true rfl ?_
  refine aR [] [4] [] [Bv false] [] [] hB trivial ?_
  refine aw_ret ?_
  refine ae_ret_then ?_
  refine ae_ret hB (Bv false) (by kernel_rfl) (.inl (by first | (refine congrArg Bv (Eq.symm (decide_eq_false ?_)); intro e; subst e; simp_all [same]; done) | (exact congrArg Bv (Eq.symm (decide_eq_true hfin))))) rfl (fun _ => trivial)


-- laws.eqWriter
theorem eqWriter_ok (a : Writer) (b : Writer) : Con Try.prog 9 [agWriter a, agWriter b] true (Bv (same a b)) := by
  refine fn_ok (fn := Try.f9) (nt := 16) Try.func9 rfl rfl rfl rfl (by simp [taggedL, tagged, tagTrained]) fun B hB => ?_
  refine aw_lens (x := agWriter a) 0 rfl (fun len_a => ?_)
  simp [LenOK, LenL, cFeat, cTrained, fFeat, fTrained, slFeat, slTrained] at len_a
  refine aw_lens (x := agWriter b) 1 rfl (fun len_b => ?_)
  simp [LenOK, LenL, cFeat, cTrained, fFeat, fTrained, slFeat, slTrained] at len_b
  refine aR [(0, .new 2), (1, .new 3)] [2, 3] [2, 3] [.ref 2 0, .ref 3 0] [some (bxWriter a), some (bxWriter b)] [] hB trivial ?_
  refine aw_seq ?_
  refine aw_seq ?_
  by_cases h1 : a.Band = b.Band
  ·refine aw_r [(4, .dec false)] [2, 3, 9] [2, 3] [.ref 2 0, .ref 3 0, Bv false] [some (bxWriter a), some (bxWriter b)] [¬ (a.Band ≠ b.Band)] hB ⟨(fun hq => hq h1), trivial⟩ ?_
   refine ae_then ?_
   refine aw_false rfl ?_
   refine aw_skip ?_
   refine ae_then ?_
   refine aw_seq ?_
   refine aw_seq ?_
   rcases Bool.eq_false_or_eq_true (same a.Trained b.Trained) with h2 | h2
   ·refine aw_r [(4, .call [(true, .any), (true, .any)] true (Bv true))] [15] [] [Bv false] [] [Con Try.prog 25 [slTrained false a.Trained, slTrained false b.Trained] true (Bv true) ∧ True] hB ⟨⟨(con_bool h2 (eqTrainedS_ok a.Trained b.Trained)), trivial⟩, trivial⟩ ?_
    refine ae_then ?_
    refine aw_false rfl ?_
    refine aw_skip ?_
    refine ae_then ?_
    refine aR [] [4] [] [Bv true] [] [] hB trivial ?_
    refine aw_ret ?_
    refine ae_ret hB (Bv true) (by kernel_rfl) (.inl (by first | (cases a; cases b; simp_all [same]; done) | (cases a; cases b; simp_all [same]; omega))) rfl (fun _ => trivial)
   refine aw_r [(4, .call [(true, .any), (true, .any)] true (Bv false))] [15] [] [Bv true] [] [Con Try.prog 25 [slTrained false a.Trained, slTrained false b.Trained] true (Bv false) ∧ True] hB ⟨⟨(con_bool h2 (eqTrainedS_ok a.Trained b.Trained)), trivial⟩, trivial⟩ ?_
   refine ae_then ?_
   refine aw_true rfl ?_
   refine aR [] [4] [] [Bv false] [] [] hB trivial ?_
   refine aw_ret ?_
   refine ae_ret_then ?_
   refine ae_ret hB (Bv false) (by kernel_rfl) (.inl (by first | (cases a; cases b; simp_all [same]; done) | (cases a; cases b; simp_all [same]; omega))) rfl (fun _ => trivial)
  refine aw_r [(4, .dec true)] [2, 3, 9] [2, 3] [.ref 2 0, .ref 3 0, Bv true] [some (bxWriter a), some (bxWriter b)] [a.Band ≠ b.Band] hB ⟨h1, trivial⟩ ?_
  refine ae_then ?_
  refine aw_true rfl ?_
  refine aR [] [4] [] [Bv false] [] [] hB trivial ?_
  refine aw_ret ?_
  refine ae_ret_then ?_
  refine ae_ret hB (Bv false) (by kernel_rfl) (.inl (by first | (cases a; cases b; simp_all [same]; done) | (cases a; cases b; simp_all [same]; omega))) rfl (fun _ => trivial)


theorem cat_one {α : Type} [Inhabited α] {enc : α → List AV} {x : α} {xs : List α} {g : Nat → List AV} (hx : g 0 = enc x) (i : Nat) (hi : i < ([x] ++ xs).length) : catF 1 g (fun i => enc (at_ xs i)) i = enc (at_ ([x] ++ xs) i) := by
  cases i with
  | zero => rw [catF_lt (by decide), hx]; rfl
  | succ i => rw [catF_ge (by omega), at_right (by simp)]; simp

/-- The string with these bytes. -/
def strB (xs : List Int) : ByteArray := ⟨(xs.map fun n => UInt8.ofNat n.toNat).toArray⟩
theorem strB_size (xs : List Int) : (strB xs).size = xs.length := by simp [strB, ByteArray.size]
theorem strB_at {xs : List Int} {i : Nat} (h : i < xs.length) (hb : 0 ≤ at_ xs i ∧ at_ xs i ≤ 255) : bAt (strB xs) i = at_ xs i := by
  have e : (strB xs).data.toList[i]? = some (UInt8.ofNat (at_ xs i).toNat) := by simp [strB, at_, List.getElem?_eq_getElem h]
  rw [bAt, List.getD_eq_getElem?_getD, e]
  simp
  omega
theorem strB_ok' {xs : List Int} (h : ∀ x ∈ xs, 0 ≤ x ∧ x ≤ 255) {n : Nat} {f : Nat → List AV} (hn : n = xs.length) (hf : ∀ i, i < xs.length → f i = fU8 xs i ∨ False) : (strB xs).size = n ∧ ∀ i, i < n → f i = byteF (strB xs) i := by
  subst hn
  refine ⟨strB_size xs, fun i hi => ?_⟩
  rw [(hf i hi).resolve_right id]
  unfold byteF
  rw [strB_at hi (h _ (at_mem hi))]
  rfl
theorem strB_ok {xs : List Int} (h : ∀ x ∈ xs, 0 ≤ x ∧ x ≤ 255) : (strB xs).size = xs.length ∧ ∀ i, i < xs.length → fU8 xs i = byteF (strB xs) i := strB_ok' h rfl fun i _ => .inl rfl
/-- A string's bytes. -/
def bytesL (s : ByteArray) : List Int := s.data.toList.map fun b => (b.toNat : Int)
theorem bytesL_len (s : ByteArray) : (bytesL s).length = s.size := by unfold bytesL; rw [List.length_map, Array.length_toList]; rfl
theorem bytesL_at {s : ByteArray} (i : Nat) (h : i < (bytesL s).length) : byteF s i = fU8 (bytesL s) i := by
  unfold byteF fU8 cU8
  have h' : i < s.data.toList.length := by simpa [bytesL] using h
  congr 3
  simp only [bAt, at_, bytesL, List.getD_eq_getElem?_getD, List.getElem?_map, List.getElem?_eq_getElem h', Option.map_some, Option.getD_some]

/-- The text that marks a place. -/
def mkD : Nat → Int → ByteArray → ByteArray
  | 0, _, out => out
  | n + 1, k, out => if 0 < k then mkD n (k / 10) (strB [48 + k % 10] ++ out) else out
theorem mkD_neg (n : Nat) {k : Int} (h : ¬ 0 < k) (out : ByteArray) : mkD n k out = out := by cases n with | zero => rfl | succ n => exact if_neg h
theorem mkD_any : ∀ (n m : Nat) (k : Int) (out : ByteArray), k.toNat ≤ n → k.toNat ≤ m → mkD n k out = mkD m k out
  | 0, m, k, out, h1, h2 => (mkD_neg 0 (by omega) _).trans (mkD_neg m (by omega) _).symm
  | n + 1, 0, k, out, h1, h2 => (mkD_neg (n + 1) (by omega) _).trans (mkD_neg 0 (by omega) _).symm
  | n + 1, m + 1, k, out, h1, h2 => by
    by_cases h : 0 < k
    · simp only [mkD, if_pos h]; exact mkD_any n m _ _ (by omega) (by omega)
    · rw [mkD_neg _ h, mkD_neg _ h]
theorem mkD_step {k : Int} (h : 0 < k) (out : ByteArray) : mkD k.toNat k out = mkD (k / 10).toNat (k / 10) (strB [48 + k % 10] ++ out) := by
  obtain ⟨n, hn⟩ : ∃ n, k.toNat = n + 1 := ⟨k.toNat - 1, by omega⟩
  rw [hn, mkD, if_pos h]
  exact mkD_any _ _ _ _ (by omega) (Nat.le_refl _)
def mkTx (k : Int) : ByteArray := if k ≤ 0 then ⟨#[109, 48]⟩ else ⟨#[109]⟩ ++ mkD k.toNat k ⟨#[]⟩
theorem mkTx_nn {k : Int} (h : k ≤ 0) : mkTx k = ⟨#[109, 48]⟩ := if_pos h
theorem mkTx_ps {k : Int} (h : ¬ k ≤ 0) : mkTx k = ⟨#[109]⟩ ++ mkD k.toNat k ⟨#[]⟩ := if_neg h

-- laws.markText
theorem markText_ok (k : Int) (hk : 0 ≤ k ∧ k ≤ 1000000000) : Con Try.prog 48 [I k] true (Sv (mkTx k)) := by
  refine fn_ok (fn := Try.f48) (nt := 20) Try.func48 rfl rfl rfl rfl (by simp [taggedL, tagged]) fun B hB => ?_
  refine aR [] [0] [] [I k] [] [] hB trivial ?_
  refine aw_seq ?_
  refine aw_seq ?_
  by_cases h1 : k ≤ 0
  ·have e0 := mkTx_nn h1
   refine aw_r [(1, .dec true)] [0, 5] [] [I k, Bv true] [] [k ≤ 0] hB ⟨h1, trivial⟩ ?_
   refine ae_then ?_
   refine aw_true rfl ?_
   refine aR [] [2] [] [Sv (⟨#[109, 48]⟩ : ByteArray)] [] [] hB trivial ?_
   refine aw_ret ?_
   refine ae_ret_then ?_
   refine ae_ret hB (Sv (⟨#[109, 48]⟩ : ByteArray)) (by kernel_rfl) (.inl (by first | (rw [e0]; done) | (rw [e0, ← hm1, mkD_neg _ (by omega)]; done) | (rw [e0, ← hm1, mkD_neg _ (by omega)]; rfl))) rfl (fun _ => trivial)
  have e0 := mkTx_ps h1
  refine aw_r [(1, .dec false)] [0, 5] [] [I k, Bv false] [] [¬ (k ≤ 0)] hB ⟨h1, trivial⟩ ?_
  refine ae_then ?_
  refine aw_false rfl ?_
  refine aw_skip ?_
  refine ae_then ?_
  refine aR [] [0, 3] [] [I k, Sv (⟨#[]⟩ : ByteArray)] [] [] hB trivial ?_
  refine aw_seq ?_
  refine aw_block ?_
  refine aw_loop (fun gn gσ => ∃ (k' : Int) (out : ByteArray), gn = k'.toNat ∧ (0 ≤ k' ∧ k' ≤ 1000000000) ∧ ((out.size : Int) + k' ≤ k) ∧ (mkD k'.toNat k' out = mkD k.toNat k ⟨#[]⟩) ∧ gσ = mkS [(0, I k'), (3, Sv out)] []) (k.toNat) ⟨k, (⟨#[]⟩ : ByteArray), rfl, (by omega), (by first | omega | (show (0 : Int) + k ≤ k; omega)), (by rfl), rfl⟩ (fun gn gσ hI => ?_)
  obtain ⟨k', out, rfl, hk1, hs1, hm1, rfl⟩ := hI
  refine aw_seq ?_
  refine aw_seq ?_
  by_cases h2 : 0 < k'
  ·refine aw_r [(1, .dec true)] [0, 3, 7] [] [I k', Sv out, Bv true] [] [0 < k'] hB ⟨h2, trivial⟩ ?_
   refine ae_then ?_
   refine aw_true rfl ?_
   refine aw_skip ?_
   refine ae_then ?_
   refine aw_block ?_
   refine aR [(1, .nn), (4, .new 12), (5, .as (Sv (strB ([(48 + (k' % 10))]))))] [0, 3] [] [I k', Sv ((strB ([(48 + (k' % 10))])) ++ out)] [] [(0 : Int) ≤ k' ∧ (0 : Int) < 10, inR .i64 (48 + (k' % 10)), inR .u8 (48 + (k' % 10)), (strB ([(48 + (k' % 10))])).size = 1 ∧ ∀ i_, i_ < 1 → (litF [.val (.int .u8 (48 + (k' % 10)))] 1) i_ = byteF (strB ([(48 + (k' % 10))])) i_, (strB ([(48 + (k' % 10))])).size + out.size ≤ 9223372036854775807] hB ⟨⟨(by first | omega | (show (1 : Nat) + out.size ≤ 9223372036854775807; omega) | (simp only [ByteArray.size_append, strB_size, List.length_singleton]; omega)), (by first | omega | (show (1 : Nat) + out.size ≤ 9223372036854775807; omega) | (simp only [ByteArray.size_append, strB_size, List.length_singleton]; omega))⟩, (inR_i64 (by first | omega | (show (1 : Nat) + out.size ≤ 9223372036854775807; omega) | (simp only [ByteArray.size_append, strB_size, List.length_singleton]; omega)) (by first | omega | (show (1 : Nat) + out.size ≤ 9223372036854775807; omega) | (simp only [ByteArray.size_append, strB_size, List.length_singleton]; omega))), (inR_u8 (by first | omega | (show (1 : Nat) + out.size ≤ 9223372036854775807; omega) | (simp only [ByteArray.size_append, strB_size, List.length_singleton]; omega)) (by first | omega | (show (1 : Nat) + out.size ≤ 9223372036854775807; omega) | (simp only [ByteArray.size_append, strB_size, List.length_singleton]; omega))), (strB_ok' (fun x hx => by simp only [List.mem_singleton] at hx; omega) (by first | rfl | (simp; done) | (simp; omega) | omega) (fun i_ hi_ => .inl (match i_, hi_ with | 0, _ => rfl | (i + 1), h => absurd h (by simp)))), (by first | omega | (show (1 : Nat) + out.size ≤ 9223372036854775807; omega) | (simp only [ByteArray.size_append, strB_size, List.length_singleton]; omega)), trivial⟩ ?_
   refine aw_r [(1, .nn)] [0, 3] [] [I (k' / 10), Sv ((strB ([(48 + (k' % 10))])) ++ out)] [] [(0 : Int) ≤ k' ∧ (0 : Int) < 10 ∧ inR .i64 k'] hB ⟨⟨(by first | omega | (show (1 : Nat) + out.size ≤ 9223372036854775807; omega) | (simp only [ByteArray.size_append, strB_size, List.length_singleton]; omega)), (by first | omega | (show (1 : Nat) + out.size ≤ 9223372036854775807; omega) | (simp only [ByteArray.size_append, strB_size, List.length_singleton]; omega)), (inR_i64 (by first | omega | (show (1 : Nat) + out.size ≤ 9223372036854775807; omega) | (simp only [ByteArray.size_append, strB_size, List.length_singleton]; omega)) (by first | omega | (show (1 : Nat) + out.size ≤ 9223372036854775807; omega) | (simp only [ByteArray.size_append, strB_size, List.length_singleton]; omega)))⟩, trivial⟩ ?_
   refine ae_block 1 ?_
   exact ae_again _ (by omega) ⟨(k' / 10), ((strB ([(48 + (k' % 10))])) ++ out), rfl, (by omega), (by rw [ByteArray.size_append, strB_size]; simp; omega), (by rw [← hm1]; exact (mkD_step (by omega) out).symm), rfl⟩
  refine aw_r [(1, .dec false)] [0, 3, 7] [] [I k', Sv out, Bv false] [] [¬ (0 < k')] hB ⟨h2, trivial⟩ ?_
  refine ae_then ?_
  refine aw_false rfl ?_
  refine aw_exit ?_
  refine ae_exit_then ?_
  refine ae_exit_then ?_
  refine ae_exit_same ?_
  refine ae_then ?_
  refine aR [] [2] [] [Sv ((⟨#[109]⟩ : ByteArray) ++ out)] [] [(⟨#[109]⟩ : ByteArray).size + out.size ≤ 9223372036854775807] hB ⟨(by first | omega | (show (1 : Nat) + out.size ≤ 9223372036854775807; omega) | (simp only [ByteArray.size_append, strB_size, List.length_singleton]; omega)), trivial⟩ ?_
  refine aw_ret ?_
  refine ae_ret hB (Sv ((⟨#[109]⟩ : ByteArray) ++ out)) (by kernel_rfl) (.inl (by first | (rw [e0]; done) | (rw [e0, ← hm1, mkD_neg _ (by omega)]; done) | (rw [e0, ← hm1, mkD_neg _ (by omega)]; rfl))) rfl (fun _ => trivial)


-- laws.markFeatS
theorem markFeatS0_ok (al : List Feat) (k : Int) (hk : 0 ≤ k ∧ k ≤ 100000000 ∧ al.length ≤ 1048576) : ∃ (v : Int) (al' : List Feat), (v = k + 3 * (al.length : Int)) ∧ (al' = mkL k al.length) ∧ CallOK Try.prog 49 [.arr 7301, I k] (lookO [(7301, .arr 3 al.length (fFeat al))]) true (I v) (lookO [(7301, .arr 3 al'.length (fFeat al'))]) := by
  have hh : ∃ r : Int × (List Feat), ((r.1 = k + 3 * (al.length : Int)) ∧ (r.2 = mkL k al.length) ∧ (True)) ∧ CallOK Try.prog 49 [.arr 7301, I k] (lookO [(7301, .arr 3 al.length (fFeat al))]) true (I r.1) (lookO [(7301, .arr 3 r.2.length (fFeat r.2))]) := by
    refine fn_okX (Φ := fun r : Int × (List Feat) => (r.1 = k + 3 * (al.length : Int)) ∧ (r.2 = mkL k al.length) ∧ (True)) [(7301, .arr 3 al.length (fFeat al))] (fun r => [(7301, .arr 3 r.2.length (fFeat r.2))]) (fn := Try.f49) (nt := 34) Try.func49 rfl rfl (args := [.arr 7301, I k]) rfl (allcons (.inr trivial) (allcons (.inl ⟨rfl, trivial⟩) allnil)) (res := fun r => I r.1) ?_
    refine xR [] [0, 1] [7301] [.arr 7301, I k] [some (.arr 3 al.length (fFeat al))] [] trivial ?_
    refine x_seq ?_
    refine xR [] [0, 1, 5] [7301] [.arr 7301, I k, I 0] [some (.arr 3 al.length (fFeat al))] [] trivial ?_
    refine x_block ?_
    refine x_loop (X := Int × Int × (List Feat)) (fun x => mkS [(0, .arr 7301), (1, I x.1), (5, I x.2.1)] [(7301, .arr 3 x.2.2.length (fFeat x.2.2))]) (fun x => (0 ≤ x.2.1 ∧ x.2.1 ≤ (al.length : Int)) ∧ (x.2.2.length = al.length) ∧ (x.1 = k + 3 * x.2.1) ∧ (∀ j : Nat, (j : Int) < x.2.1 → at_ x.2.2 j = ⟨k + 3 * (j : Int), k + 3 * (j : Int) + 1, k + 3 * (j : Int) + 2⟩) ∧ True) (fun x => ((al.length : Int) - x.2.1).toNat) (k, 0, al) rfl (show (0 ≤ (0 : Int) ∧ (0 : Int) ≤ (al.length : Int)) ∧ (al.length = al.length) ∧ (k = k + 3 * (0 : Int)) ∧ (∀ j : Nat, (j : Int) < (0 : Int) → at_ al j = ⟨k + 3 * (j : Int), k + 3 * (j : Int) + 1, k + 3 * (j : Int) + 2⟩) ∧ True from ⟨(by omega), (by rfl), (by omega), (by intro j hj; omega), trivial⟩) (fun x hI => ?_)
    obtain ⟨k', i, ys⟩ := x
    obtain ⟨hi0, hy0, hk1, hy1, _⟩ : (0 ≤ i ∧ i ≤ (al.length : Int)) ∧ (ys.length = al.length) ∧ (k' = k + 3 * i) ∧ (∀ j : Nat, (j : Int) < i → at_ ys j = ⟨k + 3 * (j : Int), k + 3 * (j : Int) + 1, k + 3 * (j : Int) + 2⟩) ∧ True := hI
    show XW _ _ _ _ (mkS [(0, .arr 7301), (1, I k'), (5, I i)] [(7301, .arr 3 ys.length (fFeat ys))]) _ _
    refine x_seq ?_
    refine x_seq ?_
    by_cases h1 : i < (ys.length : Int)
    ·have hi : i.toNat < al.length := by omega
     have hiy : i.toNat < ys.length := by omega
     refine x_r [(3, .dec true)] [0, 1, 5, 9] [7301] [.arr 7301, I k', I i, Bv true] [some (.arr 3 ys.length (fFeat ys))] [i < (ys.length : Int)] ⟨h1, trivial⟩ ?_
     refine xe_then ?_
     refine x_true rfl ?_
     refine x_skip ?_
     refine xe_then ?_
     refine x_seq ?_
     refine x_block ?_
     refine xR [] [0, 1, 5] [7301] [.arr 7301, I k', I i] [some (.arr 3 ys.length (fun q => bif Nat.beq q i.toNat then [I k', I ((at_ ys i.toNat).Y), I ((at_ ys i.toNat).D)] else (fFeat ys) q))] [(0 : Int) ≤ i ∧ i < (ys.length : Int), i.toNat < ys.length] ⟨⟨(by omega), (by omega)⟩, (by omega), trivial⟩ ?_
     refine x_seq ?_
     refine x_weak [] (T := [(0, .arr 7301), (1, I k'), (5, I i)]) (O := [(7301, .arr 3 ((ys.set i.toNat (Feat.mk k' ((at_ ys i.toNat).Y) ((at_ ys i.toNat).D))).length) (fFeat (ys.set i.toNat (Feat.mk k' ((at_ ys i.toNat).Y) ((at_ ys i.toNat).D)))))]) rfl (⟨.inl rfl, .inl rfl, .inl rfl, trivial⟩) (⟨.inr ⟨rfl, (by first | rfl | (simp; done) | (simp; omega) | omega), fun i_ hi_ => .inl (upd_enc (enc := cFeat) rfl i_ hi_)⟩, trivial⟩) ?_
     refine x_r [] [0, 1, 5] [7301] [.arr 7301, I (k' + 1), I i] [some (.arr 3 ((ys.set i.toNat (Feat.mk k' ((at_ ys i.toNat).Y) ((at_ ys i.toNat).D))).length) (fFeat (ys.set i.toNat (Feat.mk k' ((at_ ys i.toNat).Y) ((at_ ys i.toNat).D)))))] [inR .i64 (k' + 1)] ⟨(inR_i64 (by omega) (by omega)), trivial⟩ ?_
     refine xe_then ?_
     refine xR [] [0, 1, 5] [7301] [.arr 7301, I (k' + 1), I i] [some (.arr 3 ((ys.set i.toNat (Feat.mk k' ((at_ ys i.toNat).Y) ((at_ ys i.toNat).D))).length) (fun q => bif Nat.beq q i.toNat then [I ((at_ (ys.set i.toNat (Feat.mk k' ((at_ ys i.toNat).Y) ((at_ ys i.toNat).D))) i.toNat).X), I (k' + 1), I ((at_ (ys.set i.toNat (Feat.mk k' ((at_ ys i.toNat).Y) ((at_ ys i.toNat).D))) i.toNat).D)] else (fFeat (ys.set i.toNat (Feat.mk k' ((at_ ys i.toNat).Y) ((at_ ys i.toNat).D)))) q))] [(0 : Int) ≤ i ∧ i < (((ys.set i.toNat (Feat.mk k' ((at_ ys i.toNat).Y) ((at_ ys i.toNat).D))).length) : Int), i.toNat < (ys.set i.toNat (Feat.mk k' ((at_ ys i.toNat).Y) ((at_ ys i.toNat).D))).length] ⟨⟨(by (try simp only [List.length_set]); omega), (by (try simp only [List.length_set]); omega)⟩, (by (try simp only [List.length_set]); omega), trivial⟩ ?_
     refine x_seq ?_
     refine x_weak [] (T := [(0, .arr 7301), (1, I (k' + 1)), (5, I i)]) (O := [(7301, .arr 3 (((ys.set i.toNat (Feat.mk k' ((at_ ys i.toNat).Y) ((at_ ys i.toNat).D))).set i.toNat (Feat.mk ((at_ (ys.set i.toNat (Feat.mk k' ((at_ ys i.toNat).Y) ((at_ ys i.toNat).D))) i.toNat).X) (k' + 1) ((at_ (ys.set i.toNat (Feat.mk k' ((at_ ys i.toNat).Y) ((at_ ys i.toNat).D))) i.toNat).D))).length) (fFeat ((ys.set i.toNat (Feat.mk k' ((at_ ys i.toNat).Y) ((at_ ys i.toNat).D))).set i.toNat (Feat.mk ((at_ (ys.set i.toNat (Feat.mk k' ((at_ ys i.toNat).Y) ((at_ ys i.toNat).D))) i.toNat).X) (k' + 1) ((at_ (ys.set i.toNat (Feat.mk k' ((at_ ys i.toNat).Y) ((at_ ys i.toNat).D))) i.toNat).D)))))]) rfl (⟨.inl rfl, .inl rfl, .inl rfl, trivial⟩) (⟨.inr ⟨rfl, (by first | rfl | (simp; done) | (simp; omega) | omega), fun i_ hi_ => .inl (upd_enc (enc := cFeat) rfl i_ hi_)⟩, trivial⟩) ?_
     refine x_r [] [0, 1, 5] [7301] [.arr 7301, I ((k' + 1) + 1), I i] [some (.arr 3 (((ys.set i.toNat (Feat.mk k' ((at_ ys i.toNat).Y) ((at_ ys i.toNat).D))).set i.toNat (Feat.mk ((at_ (ys.set i.toNat (Feat.mk k' ((at_ ys i.toNat).Y) ((at_ ys i.toNat).D))) i.toNat).X) (k' + 1) ((at_ (ys.set i.toNat (Feat.mk k' ((at_ ys i.toNat).Y) ((at_ ys i.toNat).D))) i.toNat).D))).length) (fFeat ((ys.set i.toNat (Feat.mk k' ((at_ ys i.toNat).Y) ((at_ ys i.toNat).D))).set i.toNat (Feat.mk ((at_ (ys.set i.toNat (Feat.mk k' ((at_ ys i.toNat).Y) ((at_ ys i.toNat).D))) i.toNat).X) (k' + 1) ((at_ (ys.set i.toNat (Feat.mk k' ((at_ ys i.toNat).Y) ((at_ ys i.toNat).D))) i.toNat).D)))))] [inR .i64 ((k' + 1) + 1)] ⟨(inR_i64 (by omega) (by omega)), trivial⟩ ?_
     refine xe_then ?_
     refine xR [] [0, 1, 5] [7301] [.arr 7301, I ((k' + 1) + 1), I i] [some (.arr 3 (((ys.set i.toNat (Feat.mk k' ((at_ ys i.toNat).Y) ((at_ ys i.toNat).D))).set i.toNat (Feat.mk ((at_ (ys.set i.toNat (Feat.mk k' ((at_ ys i.toNat).Y) ((at_ ys i.toNat).D))) i.toNat).X) (k' + 1) ((at_ (ys.set i.toNat (Feat.mk k' ((at_ ys i.toNat).Y) ((at_ ys i.toNat).D))) i.toNat).D))).length) (fun q => bif Nat.beq q i.toNat then [I ((at_ ((ys.set i.toNat (Feat.mk k' ((at_ ys i.toNat).Y) ((at_ ys i.toNat).D))).set i.toNat (Feat.mk ((at_ (ys.set i.toNat (Feat.mk k' ((at_ ys i.toNat).Y) ((at_ ys i.toNat).D))) i.toNat).X) (k' + 1) ((at_ (ys.set i.toNat (Feat.mk k' ((at_ ys i.toNat).Y) ((at_ ys i.toNat).D))) i.toNat).D))) i.toNat).X), I ((at_ ((ys.set i.toNat (Feat.mk k' ((at_ ys i.toNat).Y) ((at_ ys i.toNat).D))).set i.toNat (Feat.mk ((at_ (ys.set i.toNat (Feat.mk k' ((at_ ys i.toNat).Y) ((at_ ys i.toNat).D))) i.toNat).X) (k' + 1) ((at_ (ys.set i.toNat (Feat.mk k' ((at_ ys i.toNat).Y) ((at_ ys i.toNat).D))) i.toNat).D))) i.toNat).Y), I ((k' + 1) + 1)] else (fFeat ((ys.set i.toNat (Feat.mk k' ((at_ ys i.toNat).Y) ((at_ ys i.toNat).D))).set i.toNat (Feat.mk ((at_ (ys.set i.toNat (Feat.mk k' ((at_ ys i.toNat).Y) ((at_ ys i.toNat).D))) i.toNat).X) (k' + 1) ((at_ (ys.set i.toNat (Feat.mk k' ((at_ ys i.toNat).Y) ((at_ ys i.toNat).D))) i.toNat).D)))) q))] [(0 : Int) ≤ i ∧ i < ((((ys.set i.toNat (Feat.mk k' ((at_ ys i.toNat).Y) ((at_ ys i.toNat).D))).set i.toNat (Feat.mk ((at_ (ys.set i.toNat (Feat.mk k' ((at_ ys i.toNat).Y) ((at_ ys i.toNat).D))) i.toNat).X) (k' + 1) ((at_ (ys.set i.toNat (Feat.mk k' ((at_ ys i.toNat).Y) ((at_ ys i.toNat).D))) i.toNat).D))).length) : Int), i.toNat < ((ys.set i.toNat (Feat.mk k' ((at_ ys i.toNat).Y) ((at_ ys i.toNat).D))).set i.toNat (Feat.mk ((at_ (ys.set i.toNat (Feat.mk k' ((at_ ys i.toNat).Y) ((at_ ys i.toNat).D))) i.toNat).X) (k' + 1) ((at_ (ys.set i.toNat (Feat.mk k' ((at_ ys i.toNat).Y) ((at_ ys i.toNat).D))) i.toNat).D))).length] ⟨⟨(by (try simp only [List.length_set]); omega), (by (try simp only [List.length_set]); omega)⟩, (by (try simp only [List.length_set]); omega), trivial⟩ ?_
     refine x_weak [] (T := [(0, .arr 7301), (1, I ((k' + 1) + 1)), (5, I i)]) (O := [(7301, .arr 3 ((((ys.set i.toNat (Feat.mk k' ((at_ ys i.toNat).Y) ((at_ ys i.toNat).D))).set i.toNat (Feat.mk ((at_ (ys.set i.toNat (Feat.mk k' ((at_ ys i.toNat).Y) ((at_ ys i.toNat).D))) i.toNat).X) (k' + 1) ((at_ (ys.set i.toNat (Feat.mk k' ((at_ ys i.toNat).Y) ((at_ ys i.toNat).D))) i.toNat).D))).set i.toNat (Feat.mk ((at_ ((ys.set i.toNat (Feat.mk k' ((at_ ys i.toNat).Y) ((at_ ys i.toNat).D))).set i.toNat (Feat.mk ((at_ (ys.set i.toNat (Feat.mk k' ((at_ ys i.toNat).Y) ((at_ ys i.toNat).D))) i.toNat).X) (k' + 1) ((at_ (ys.set i.toNat (Feat.mk k' ((at_ ys i.toNat).Y) ((at_ ys i.toNat).D))) i.toNat).D))) i.toNat).X) ((at_ ((ys.set i.toNat (Feat.mk k' ((at_ ys i.toNat).Y) ((at_ ys i.toNat).D))).set i.toNat (Feat.mk ((at_ (ys.set i.toNat (Feat.mk k' ((at_ ys i.toNat).Y) ((at_ ys i.toNat).D))) i.toNat).X) (k' + 1) ((at_ (ys.set i.toNat (Feat.mk k' ((at_ ys i.toNat).Y) ((at_ ys i.toNat).D))) i.toNat).D))) i.toNat).Y) ((k' + 1) + 1))).length) (fFeat (((ys.set i.toNat (Feat.mk k' ((at_ ys i.toNat).Y) ((at_ ys i.toNat).D))).set i.toNat (Feat.mk ((at_ (ys.set i.toNat (Feat.mk k' ((at_ ys i.toNat).Y) ((at_ ys i.toNat).D))) i.toNat).X) (k' + 1) ((at_ (ys.set i.toNat (Feat.mk k' ((at_ ys i.toNat).Y) ((at_ ys i.toNat).D))) i.toNat).D))).set i.toNat (Feat.mk ((at_ ((ys.set i.toNat (Feat.mk k' ((at_ ys i.toNat).Y) ((at_ ys i.toNat).D))).set i.toNat (Feat.mk ((at_ (ys.set i.toNat (Feat.mk k' ((at_ ys i.toNat).Y) ((at_ ys i.toNat).D))) i.toNat).X) (k' + 1) ((at_ (ys.set i.toNat (Feat.mk k' ((at_ ys i.toNat).Y) ((at_ ys i.toNat).D))) i.toNat).D))) i.toNat).X) ((at_ ((ys.set i.toNat (Feat.mk k' ((at_ ys i.toNat).Y) ((at_ ys i.toNat).D))).set i.toNat (Feat.mk ((at_ (ys.set i.toNat (Feat.mk k' ((at_ ys i.toNat).Y) ((at_ ys i.toNat).D))) i.toNat).X) (k' + 1) ((at_ (ys.set i.toNat (Feat.mk k' ((at_ ys i.toNat).Y) ((at_ ys i.toNat).D))) i.toNat).D))) i.toNat).Y) ((k' + 1) + 1)))))]) rfl (⟨.inl rfl, .inl rfl, .inl rfl, trivial⟩) (⟨.inr ⟨rfl, (by first | rfl | (simp; done) | (simp; omega) | omega), fun i_ hi_ => .inl (upd_enc (enc := cFeat) rfl i_ hi_)⟩, trivial⟩) ?_
     refine x_r [] [0, 1, 5] [7301] [.arr 7301, I (((k' + 1) + 1) + 1), I i] [some (.arr 3 ((((ys.set i.toNat (Feat.mk k' ((at_ ys i.toNat).Y) ((at_ ys i.toNat).D))).set i.toNat (Feat.mk ((at_ (ys.set i.toNat (Feat.mk k' ((at_ ys i.toNat).Y) ((at_ ys i.toNat).D))) i.toNat).X) (k' + 1) ((at_ (ys.set i.toNat (Feat.mk k' ((at_ ys i.toNat).Y) ((at_ ys i.toNat).D))) i.toNat).D))).set i.toNat (Feat.mk ((at_ ((ys.set i.toNat (Feat.mk k' ((at_ ys i.toNat).Y) ((at_ ys i.toNat).D))).set i.toNat (Feat.mk ((at_ (ys.set i.toNat (Feat.mk k' ((at_ ys i.toNat).Y) ((at_ ys i.toNat).D))) i.toNat).X) (k' + 1) ((at_ (ys.set i.toNat (Feat.mk k' ((at_ ys i.toNat).Y) ((at_ ys i.toNat).D))) i.toNat).D))) i.toNat).X) ((at_ ((ys.set i.toNat (Feat.mk k' ((at_ ys i.toNat).Y) ((at_ ys i.toNat).D))).set i.toNat (Feat.mk ((at_ (ys.set i.toNat (Feat.mk k' ((at_ ys i.toNat).Y) ((at_ ys i.toNat).D))) i.toNat).X) (k' + 1) ((at_ (ys.set i.toNat (Feat.mk k' ((at_ ys i.toNat).Y) ((at_ ys i.toNat).D))) i.toNat).D))) i.toNat).Y) ((k' + 1) + 1))).length) (fFeat (((ys.set i.toNat (Feat.mk k' ((at_ ys i.toNat).Y) ((at_ ys i.toNat).D))).set i.toNat (Feat.mk ((at_ (ys.set i.toNat (Feat.mk k' ((at_ ys i.toNat).Y) ((at_ ys i.toNat).D))) i.toNat).X) (k' + 1) ((at_ (ys.set i.toNat (Feat.mk k' ((at_ ys i.toNat).Y) ((at_ ys i.toNat).D))) i.toNat).D))).set i.toNat (Feat.mk ((at_ ((ys.set i.toNat (Feat.mk k' ((at_ ys i.toNat).Y) ((at_ ys i.toNat).D))).set i.toNat (Feat.mk ((at_ (ys.set i.toNat (Feat.mk k' ((at_ ys i.toNat).Y) ((at_ ys i.toNat).D))) i.toNat).X) (k' + 1) ((at_ (ys.set i.toNat (Feat.mk k' ((at_ ys i.toNat).Y) ((at_ ys i.toNat).D))) i.toNat).D))) i.toNat).X) ((at_ ((ys.set i.toNat (Feat.mk k' ((at_ ys i.toNat).Y) ((at_ ys i.toNat).D))).set i.toNat (Feat.mk ((at_ (ys.set i.toNat (Feat.mk k' ((at_ ys i.toNat).Y) ((at_ ys i.toNat).D))) i.toNat).X) (k' + 1) ((at_ (ys.set i.toNat (Feat.mk k' ((at_ ys i.toNat).Y) ((at_ ys i.toNat).D))) i.toNat).D))) i.toNat).Y) ((k' + 1) + 1)))))] [inR .i64 (((k' + 1) + 1) + 1)] ⟨(inR_i64 (by omega) (by omega)), trivial⟩ ?_
     refine xe_block 1 ?_
     refine xe_then ?_
     refine x_r [] [0, 1, 5] [7301] [.arr 7301, I (((k' + 1) + 1) + 1), I (i + 1)] [some (.arr 3 ((((ys.set i.toNat (Feat.mk k' ((at_ ys i.toNat).Y) ((at_ ys i.toNat).D))).set i.toNat (Feat.mk ((at_ (ys.set i.toNat (Feat.mk k' ((at_ ys i.toNat).Y) ((at_ ys i.toNat).D))) i.toNat).X) (k' + 1) ((at_ (ys.set i.toNat (Feat.mk k' ((at_ ys i.toNat).Y) ((at_ ys i.toNat).D))) i.toNat).D))).set i.toNat (Feat.mk ((at_ ((ys.set i.toNat (Feat.mk k' ((at_ ys i.toNat).Y) ((at_ ys i.toNat).D))).set i.toNat (Feat.mk ((at_ (ys.set i.toNat (Feat.mk k' ((at_ ys i.toNat).Y) ((at_ ys i.toNat).D))) i.toNat).X) (k' + 1) ((at_ (ys.set i.toNat (Feat.mk k' ((at_ ys i.toNat).Y) ((at_ ys i.toNat).D))) i.toNat).D))) i.toNat).X) ((at_ ((ys.set i.toNat (Feat.mk k' ((at_ ys i.toNat).Y) ((at_ ys i.toNat).D))).set i.toNat (Feat.mk ((at_ (ys.set i.toNat (Feat.mk k' ((at_ ys i.toNat).Y) ((at_ ys i.toNat).D))) i.toNat).X) (k' + 1) ((at_ (ys.set i.toNat (Feat.mk k' ((at_ ys i.toNat).Y) ((at_ ys i.toNat).D))) i.toNat).D))) i.toNat).Y) ((k' + 1) + 1))).length) (fFeat (((ys.set i.toNat (Feat.mk k' ((at_ ys i.toNat).Y) ((at_ ys i.toNat).D))).set i.toNat (Feat.mk ((at_ (ys.set i.toNat (Feat.mk k' ((at_ ys i.toNat).Y) ((at_ ys i.toNat).D))) i.toNat).X) (k' + 1) ((at_ (ys.set i.toNat (Feat.mk k' ((at_ ys i.toNat).Y) ((at_ ys i.toNat).D))) i.toNat).D))).set i.toNat (Feat.mk ((at_ ((ys.set i.toNat (Feat.mk k' ((at_ ys i.toNat).Y) ((at_ ys i.toNat).D))).set i.toNat (Feat.mk ((at_ (ys.set i.toNat (Feat.mk k' ((at_ ys i.toNat).Y) ((at_ ys i.toNat).D))) i.toNat).X) (k' + 1) ((at_ (ys.set i.toNat (Feat.mk k' ((at_ ys i.toNat).Y) ((at_ ys i.toNat).D))) i.toNat).D))) i.toNat).X) ((at_ ((ys.set i.toNat (Feat.mk k' ((at_ ys i.toNat).Y) ((at_ ys i.toNat).D))).set i.toNat (Feat.mk ((at_ (ys.set i.toNat (Feat.mk k' ((at_ ys i.toNat).Y) ((at_ ys i.toNat).D))) i.toNat).X) (k' + 1) ((at_ (ys.set i.toNat (Feat.mk k' ((at_ ys i.toNat).Y) ((at_ ys i.toNat).D))) i.toNat).D))) i.toNat).Y) ((k' + 1) + 1)))))] [inR .i64 (i + 1)] ⟨(inR_i64 (by omega) (by omega)), trivial⟩ ?_
     exact xe_again ((((k' + 1) + 1) + 1), (i + 1), (((ys.set i.toNat (Feat.mk k' ((at_ ys i.toNat).Y) ((at_ ys i.toNat).D))).set i.toNat (Feat.mk ((at_ (ys.set i.toNat (Feat.mk k' ((at_ ys i.toNat).Y) ((at_ ys i.toNat).D))) i.toNat).X) (k' + 1) ((at_ (ys.set i.toNat (Feat.mk k' ((at_ ys i.toNat).Y) ((at_ ys i.toNat).D))) i.toNat).D))).set i.toNat (Feat.mk ((at_ ((ys.set i.toNat (Feat.mk k' ((at_ ys i.toNat).Y) ((at_ ys i.toNat).D))).set i.toNat (Feat.mk ((at_ (ys.set i.toNat (Feat.mk k' ((at_ ys i.toNat).Y) ((at_ ys i.toNat).D))) i.toNat).X) (k' + 1) ((at_ (ys.set i.toNat (Feat.mk k' ((at_ ys i.toNat).Y) ((at_ ys i.toNat).D))) i.toNat).D))) i.toNat).X) ((at_ ((ys.set i.toNat (Feat.mk k' ((at_ ys i.toNat).Y) ((at_ ys i.toNat).D))).set i.toNat (Feat.mk ((at_ (ys.set i.toNat (Feat.mk k' ((at_ ys i.toNat).Y) ((at_ ys i.toNat).D))) i.toNat).X) (k' + 1) ((at_ (ys.set i.toNat (Feat.mk k' ((at_ ys i.toNat).Y) ((at_ ys i.toNat).D))) i.toNat).D))) i.toNat).Y) ((k' + 1) + 1)))) rfl (show (0 ≤ (i + 1) ∧ (i + 1) ≤ (al.length : Int)) ∧ ((((ys.set i.toNat (Feat.mk k' ((at_ ys i.toNat).Y) ((at_ ys i.toNat).D))).set i.toNat (Feat.mk ((at_ (ys.set i.toNat (Feat.mk k' ((at_ ys i.toNat).Y) ((at_ ys i.toNat).D))) i.toNat).X) (k' + 1) ((at_ (ys.set i.toNat (Feat.mk k' ((at_ ys i.toNat).Y) ((at_ ys i.toNat).D))) i.toNat).D))).set i.toNat (Feat.mk ((at_ ((ys.set i.toNat (Feat.mk k' ((at_ ys i.toNat).Y) ((at_ ys i.toNat).D))).set i.toNat (Feat.mk ((at_ (ys.set i.toNat (Feat.mk k' ((at_ ys i.toNat).Y) ((at_ ys i.toNat).D))) i.toNat).X) (k' + 1) ((at_ (ys.set i.toNat (Feat.mk k' ((at_ ys i.toNat).Y) ((at_ ys i.toNat).D))) i.toNat).D))) i.toNat).X) ((at_ ((ys.set i.toNat (Feat.mk k' ((at_ ys i.toNat).Y) ((at_ ys i.toNat).D))).set i.toNat (Feat.mk ((at_ (ys.set i.toNat (Feat.mk k' ((at_ ys i.toNat).Y) ((at_ ys i.toNat).D))) i.toNat).X) (k' + 1) ((at_ (ys.set i.toNat (Feat.mk k' ((at_ ys i.toNat).Y) ((at_ ys i.toNat).D))) i.toNat).D))) i.toNat).Y) ((k' + 1) + 1))).length = al.length) ∧ ((((k' + 1) + 1) + 1) = k + 3 * (i + 1)) ∧ (∀ j : Nat, (j : Int) < (i + 1) → at_ (((ys.set i.toNat (Feat.mk k' ((at_ ys i.toNat).Y) ((at_ ys i.toNat).D))).set i.toNat (Feat.mk ((at_ (ys.set i.toNat (Feat.mk k' ((at_ ys i.toNat).Y) ((at_ ys i.toNat).D))) i.toNat).X) (k' + 1) ((at_ (ys.set i.toNat (Feat.mk k' ((at_ ys i.toNat).Y) ((at_ ys i.toNat).D))) i.toNat).D))).set i.toNat (Feat.mk ((at_ ((ys.set i.toNat (Feat.mk k' ((at_ ys i.toNat).Y) ((at_ ys i.toNat).D))).set i.toNat (Feat.mk ((at_ (ys.set i.toNat (Feat.mk k' ((at_ ys i.toNat).Y) ((at_ ys i.toNat).D))) i.toNat).X) (k' + 1) ((at_ (ys.set i.toNat (Feat.mk k' ((at_ ys i.toNat).Y) ((at_ ys i.toNat).D))) i.toNat).D))) i.toNat).X) ((at_ ((ys.set i.toNat (Feat.mk k' ((at_ ys i.toNat).Y) ((at_ ys i.toNat).D))).set i.toNat (Feat.mk ((at_ (ys.set i.toNat (Feat.mk k' ((at_ ys i.toNat).Y) ((at_ ys i.toNat).D))) i.toNat).X) (k' + 1) ((at_ (ys.set i.toNat (Feat.mk k' ((at_ ys i.toNat).Y) ((at_ ys i.toNat).D))) i.toNat).D))) i.toNat).Y) ((k' + 1) + 1))) j = ⟨k + 3 * (j : Int), k + 3 * (j : Int) + 1, k + 3 * (j : Int) + 2⟩) ∧ True from ⟨(by omega), (by simp; omega), (by omega), (by simp only [List.set_set, at_setQ hiy]; exact mk_next hi0.1 hiy hy1 (by simp only [Feat.mk.injEq]; omega)), trivial⟩) (by first | (show (((al.length : Int) - (i + 1)).toNat : Nat) < ((al.length : Int) - i).toNat; omega) | (dsimp only; omega))
    refine x_r [(3, .dec false)] [0, 1, 5, 9] [7301] [.arr 7301, I k', I i, Bv false] [some (.arr 3 ys.length (fFeat ys))] [¬ (i < (ys.length : Int))] ⟨h1, trivial⟩ ?_
    refine xe_then ?_
    refine x_false rfl ?_
    refine x_exit ?_
    refine xe_exit_then ?_
    refine xe_loop_exit ?_
    refine xe_exit_same ?_
    refine xe_then ?_
    refine xR [] [4] [7301] [I k'] [some (.arr 3 ys.length (fFeat ys))] [] trivial ?_
    refine x_ret ?_
    refine xe_end (k', ys) (show (k' = k + 3 * (al.length : Int)) ∧ (ys = mkL k al.length) ∧ (True) from ⟨(by first | omega | exact ext_at (by rw [hy0, mkL_len]) (fun j hj => by rw [hy1 j (by omega), mkL_at (by omega)])), (by first | omega | exact ext_at (by rw [hy0, mkL_len]) (fun j hj => by rw [hy1 j (by omega), mkL_at (by omega)])), trivial⟩) (⟨.inl rfl, trivial⟩) (I k') (by kernel_rfl) (.inl rfl) (fun _ => rfl) (fun _ => trivial)
  obtain ⟨⟨v, al'⟩, ⟨hh0, hh1, _⟩, hc⟩ := hh
  exact ⟨v, al', hh0, hh1, hc⟩

theorem markFeatS1_ok (al : List Feat) (k : Int) (hk : 0 ≤ k ∧ k ≤ 100000000 ∧ al.length ≤ 1048576) : ∃ (v : Int) (al' : List Feat), (v = k + 3 * (al.length : Int)) ∧ (al' = mkL k al.length) ∧ CallOK Try.prog 49 [.arr 7302, I k] (lookO [(7302, .arr 3 al.length (fFeat al))]) true (I v) (lookO [(7302, .arr 3 al'.length (fFeat al'))]) := by
  have hh : ∃ r : Int × (List Feat), ((r.1 = k + 3 * (al.length : Int)) ∧ (r.2 = mkL k al.length) ∧ (True)) ∧ CallOK Try.prog 49 [.arr 7302, I k] (lookO [(7302, .arr 3 al.length (fFeat al))]) true (I r.1) (lookO [(7302, .arr 3 r.2.length (fFeat r.2))]) := by
    refine fn_okX (Φ := fun r : Int × (List Feat) => (r.1 = k + 3 * (al.length : Int)) ∧ (r.2 = mkL k al.length) ∧ (True)) [(7302, .arr 3 al.length (fFeat al))] (fun r => [(7302, .arr 3 r.2.length (fFeat r.2))]) (fn := Try.f49) (nt := 34) Try.func49 rfl rfl (args := [.arr 7302, I k]) rfl (allcons (.inr trivial) (allcons (.inl ⟨rfl, trivial⟩) allnil)) (res := fun r => I r.1) ?_
    refine xR [] [0, 1] [7302] [.arr 7302, I k] [some (.arr 3 al.length (fFeat al))] [] trivial ?_
    refine x_seq ?_
    refine xR [] [0, 1, 5] [7302] [.arr 7302, I k, I 0] [some (.arr 3 al.length (fFeat al))] [] trivial ?_
    refine x_block ?_
    refine x_loop (X := Int × Int × (List Feat)) (fun x => mkS [(0, .arr 7302), (1, I x.1), (5, I x.2.1)] [(7302, .arr 3 x.2.2.length (fFeat x.2.2))]) (fun x => (0 ≤ x.2.1 ∧ x.2.1 ≤ (al.length : Int)) ∧ (x.2.2.length = al.length) ∧ (x.1 = k + 3 * x.2.1) ∧ (∀ j : Nat, (j : Int) < x.2.1 → at_ x.2.2 j = ⟨k + 3 * (j : Int), k + 3 * (j : Int) + 1, k + 3 * (j : Int) + 2⟩) ∧ True) (fun x => ((al.length : Int) - x.2.1).toNat) (k, 0, al) rfl (show (0 ≤ (0 : Int) ∧ (0 : Int) ≤ (al.length : Int)) ∧ (al.length = al.length) ∧ (k = k + 3 * (0 : Int)) ∧ (∀ j : Nat, (j : Int) < (0 : Int) → at_ al j = ⟨k + 3 * (j : Int), k + 3 * (j : Int) + 1, k + 3 * (j : Int) + 2⟩) ∧ True from ⟨(by omega), (by rfl), (by omega), (by intro j hj; omega), trivial⟩) (fun x hI => ?_)
    obtain ⟨k', i, ys⟩ := x
    obtain ⟨hi0, hy0, hk1, hy1, _⟩ : (0 ≤ i ∧ i ≤ (al.length : Int)) ∧ (ys.length = al.length) ∧ (k' = k + 3 * i) ∧ (∀ j : Nat, (j : Int) < i → at_ ys j = ⟨k + 3 * (j : Int), k + 3 * (j : Int) + 1, k + 3 * (j : Int) + 2⟩) ∧ True := hI
    show XW _ _ _ _ (mkS [(0, .arr 7302), (1, I k'), (5, I i)] [(7302, .arr 3 ys.length (fFeat ys))]) _ _
    refine x_seq ?_
    refine x_seq ?_
    by_cases h1 : i < (ys.length : Int)
    ·have hi : i.toNat < al.length := by omega
     have hiy : i.toNat < ys.length := by omega
     refine x_r [(3, .dec true)] [0, 1, 5, 9] [7302] [.arr 7302, I k', I i, Bv true] [some (.arr 3 ys.length (fFeat ys))] [i < (ys.length : Int)] ⟨h1, trivial⟩ ?_
     refine xe_then ?_
     refine x_true rfl ?_
     refine x_skip ?_
     refine xe_then ?_
     refine x_seq ?_
     refine x_block ?_
     refine xR [] [0, 1, 5] [7302] [.arr 7302, I k', I i] [some (.arr 3 ys.length (fun q => bif Nat.beq q i.toNat then [I k', I ((at_ ys i.toNat).Y), I ((at_ ys i.toNat).D)] else (fFeat ys) q))] [(0 : Int) ≤ i ∧ i < (ys.length : Int), i.toNat < ys.length] ⟨⟨(by omega), (by omega)⟩, (by omega), trivial⟩ ?_
     refine x_seq ?_
     refine x_weak [] (T := [(0, .arr 7302), (1, I k'), (5, I i)]) (O := [(7302, .arr 3 ((ys.set i.toNat (Feat.mk k' ((at_ ys i.toNat).Y) ((at_ ys i.toNat).D))).length) (fFeat (ys.set i.toNat (Feat.mk k' ((at_ ys i.toNat).Y) ((at_ ys i.toNat).D)))))]) rfl (⟨.inl rfl, .inl rfl, .inl rfl, trivial⟩) (⟨.inr ⟨rfl, (by first | rfl | (simp; done) | (simp; omega) | omega), fun i_ hi_ => .inl (upd_enc (enc := cFeat) rfl i_ hi_)⟩, trivial⟩) ?_
     refine x_r [] [0, 1, 5] [7302] [.arr 7302, I (k' + 1), I i] [some (.arr 3 ((ys.set i.toNat (Feat.mk k' ((at_ ys i.toNat).Y) ((at_ ys i.toNat).D))).length) (fFeat (ys.set i.toNat (Feat.mk k' ((at_ ys i.toNat).Y) ((at_ ys i.toNat).D)))))] [inR .i64 (k' + 1)] ⟨(inR_i64 (by omega) (by omega)), trivial⟩ ?_
     refine xe_then ?_
     refine xR [] [0, 1, 5] [7302] [.arr 7302, I (k' + 1), I i] [some (.arr 3 ((ys.set i.toNat (Feat.mk k' ((at_ ys i.toNat).Y) ((at_ ys i.toNat).D))).length) (fun q => bif Nat.beq q i.toNat then [I ((at_ (ys.set i.toNat (Feat.mk k' ((at_ ys i.toNat).Y) ((at_ ys i.toNat).D))) i.toNat).X), I (k' + 1), I ((at_ (ys.set i.toNat (Feat.mk k' ((at_ ys i.toNat).Y) ((at_ ys i.toNat).D))) i.toNat).D)] else (fFeat (ys.set i.toNat (Feat.mk k' ((at_ ys i.toNat).Y) ((at_ ys i.toNat).D)))) q))] [(0 : Int) ≤ i ∧ i < (((ys.set i.toNat (Feat.mk k' ((at_ ys i.toNat).Y) ((at_ ys i.toNat).D))).length) : Int), i.toNat < (ys.set i.toNat (Feat.mk k' ((at_ ys i.toNat).Y) ((at_ ys i.toNat).D))).length] ⟨⟨(by (try simp only [List.length_set]); omega), (by (try simp only [List.length_set]); omega)⟩, (by (try simp only [List.length_set]); omega), trivial⟩ ?_
     refine x_seq ?_
     refine x_weak [] (T := [(0, .arr 7302), (1, I (k' + 1)), (5, I i)]) (O := [(7302, .arr 3 (((ys.set i.toNat (Feat.mk k' ((at_ ys i.toNat).Y) ((at_ ys i.toNat).D))).set i.toNat (Feat.mk ((at_ (ys.set i.toNat (Feat.mk k' ((at_ ys i.toNat).Y) ((at_ ys i.toNat).D))) i.toNat).X) (k' + 1) ((at_ (ys.set i.toNat (Feat.mk k' ((at_ ys i.toNat).Y) ((at_ ys i.toNat).D))) i.toNat).D))).length) (fFeat ((ys.set i.toNat (Feat.mk k' ((at_ ys i.toNat).Y) ((at_ ys i.toNat).D))).set i.toNat (Feat.mk ((at_ (ys.set i.toNat (Feat.mk k' ((at_ ys i.toNat).Y) ((at_ ys i.toNat).D))) i.toNat).X) (k' + 1) ((at_ (ys.set i.toNat (Feat.mk k' ((at_ ys i.toNat).Y) ((at_ ys i.toNat).D))) i.toNat).D)))))]) rfl (⟨.inl rfl, .inl rfl, .inl rfl, trivial⟩) (⟨.inr ⟨rfl, (by first | rfl | (simp; done) | (simp; omega) | omega), fun i_ hi_ => .inl (upd_enc (enc := cFeat) rfl i_ hi_)⟩, trivial⟩) ?_
     refine x_r [] [0, 1, 5] [7302] [.arr 7302, I ((k' + 1) + 1), I i] [some (.arr 3 (((ys.set i.toNat (Feat.mk k' ((at_ ys i.toNat).Y) ((at_ ys i.toNat).D))).set i.toNat (Feat.mk ((at_ (ys.set i.toNat (Feat.mk k' ((at_ ys i.toNat).Y) ((at_ ys i.toNat).D))) i.toNat).X) (k' + 1) ((at_ (ys.set i.toNat (Feat.mk k' ((at_ ys i.toNat).Y) ((at_ ys i.toNat).D))) i.toNat).D))).length) (fFeat ((ys.set i.toNat (Feat.mk k' ((at_ ys i.toNat).Y) ((at_ ys i.toNat).D))).set i.toNat (Feat.mk ((at_ (ys.set i.toNat (Feat.mk k' ((at_ ys i.toNat).Y) ((at_ ys i.toNat).D))) i.toNat).X) (k' + 1) ((at_ (ys.set i.toNat (Feat.mk k' ((at_ ys i.toNat).Y) ((at_ ys i.toNat).D))) i.toNat).D)))))] [inR .i64 ((k' + 1) + 1)] ⟨(inR_i64 (by omega) (by omega)), trivial⟩ ?_
     refine xe_then ?_
     refine xR [] [0, 1, 5] [7302] [.arr 7302, I ((k' + 1) + 1), I i] [some (.arr 3 (((ys.set i.toNat (Feat.mk k' ((at_ ys i.toNat).Y) ((at_ ys i.toNat).D))).set i.toNat (Feat.mk ((at_ (ys.set i.toNat (Feat.mk k' ((at_ ys i.toNat).Y) ((at_ ys i.toNat).D))) i.toNat).X) (k' + 1) ((at_ (ys.set i.toNat (Feat.mk k' ((at_ ys i.toNat).Y) ((at_ ys i.toNat).D))) i.toNat).D))).length) (fun q => bif Nat.beq q i.toNat then [I ((at_ ((ys.set i.toNat (Feat.mk k' ((at_ ys i.toNat).Y) ((at_ ys i.toNat).D))).set i.toNat (Feat.mk ((at_ (ys.set i.toNat (Feat.mk k' ((at_ ys i.toNat).Y) ((at_ ys i.toNat).D))) i.toNat).X) (k' + 1) ((at_ (ys.set i.toNat (Feat.mk k' ((at_ ys i.toNat).Y) ((at_ ys i.toNat).D))) i.toNat).D))) i.toNat).X), I ((at_ ((ys.set i.toNat (Feat.mk k' ((at_ ys i.toNat).Y) ((at_ ys i.toNat).D))).set i.toNat (Feat.mk ((at_ (ys.set i.toNat (Feat.mk k' ((at_ ys i.toNat).Y) ((at_ ys i.toNat).D))) i.toNat).X) (k' + 1) ((at_ (ys.set i.toNat (Feat.mk k' ((at_ ys i.toNat).Y) ((at_ ys i.toNat).D))) i.toNat).D))) i.toNat).Y), I ((k' + 1) + 1)] else (fFeat ((ys.set i.toNat (Feat.mk k' ((at_ ys i.toNat).Y) ((at_ ys i.toNat).D))).set i.toNat (Feat.mk ((at_ (ys.set i.toNat (Feat.mk k' ((at_ ys i.toNat).Y) ((at_ ys i.toNat).D))) i.toNat).X) (k' + 1) ((at_ (ys.set i.toNat (Feat.mk k' ((at_ ys i.toNat).Y) ((at_ ys i.toNat).D))) i.toNat).D)))) q))] [(0 : Int) ≤ i ∧ i < ((((ys.set i.toNat (Feat.mk k' ((at_ ys i.toNat).Y) ((at_ ys i.toNat).D))).set i.toNat (Feat.mk ((at_ (ys.set i.toNat (Feat.mk k' ((at_ ys i.toNat).Y) ((at_ ys i.toNat).D))) i.toNat).X) (k' + 1) ((at_ (ys.set i.toNat (Feat.mk k' ((at_ ys i.toNat).Y) ((at_ ys i.toNat).D))) i.toNat).D))).length) : Int), i.toNat < ((ys.set i.toNat (Feat.mk k' ((at_ ys i.toNat).Y) ((at_ ys i.toNat).D))).set i.toNat (Feat.mk ((at_ (ys.set i.toNat (Feat.mk k' ((at_ ys i.toNat).Y) ((at_ ys i.toNat).D))) i.toNat).X) (k' + 1) ((at_ (ys.set i.toNat (Feat.mk k' ((at_ ys i.toNat).Y) ((at_ ys i.toNat).D))) i.toNat).D))).length] ⟨⟨(by (try simp only [List.length_set]); omega), (by (try simp only [List.length_set]); omega)⟩, (by (try simp only [List.length_set]); omega), trivial⟩ ?_
     refine x_weak [] (T := [(0, .arr 7302), (1, I ((k' + 1) + 1)), (5, I i)]) (O := [(7302, .arr 3 ((((ys.set i.toNat (Feat.mk k' ((at_ ys i.toNat).Y) ((at_ ys i.toNat).D))).set i.toNat (Feat.mk ((at_ (ys.set i.toNat (Feat.mk k' ((at_ ys i.toNat).Y) ((at_ ys i.toNat).D))) i.toNat).X) (k' + 1) ((at_ (ys.set i.toNat (Feat.mk k' ((at_ ys i.toNat).Y) ((at_ ys i.toNat).D))) i.toNat).D))).set i.toNat (Feat.mk ((at_ ((ys.set i.toNat (Feat.mk k' ((at_ ys i.toNat).Y) ((at_ ys i.toNat).D))).set i.toNat (Feat.mk ((at_ (ys.set i.toNat (Feat.mk k' ((at_ ys i.toNat).Y) ((at_ ys i.toNat).D))) i.toNat).X) (k' + 1) ((at_ (ys.set i.toNat (Feat.mk k' ((at_ ys i.toNat).Y) ((at_ ys i.toNat).D))) i.toNat).D))) i.toNat).X) ((at_ ((ys.set i.toNat (Feat.mk k' ((at_ ys i.toNat).Y) ((at_ ys i.toNat).D))).set i.toNat (Feat.mk ((at_ (ys.set i.toNat (Feat.mk k' ((at_ ys i.toNat).Y) ((at_ ys i.toNat).D))) i.toNat).X) (k' + 1) ((at_ (ys.set i.toNat (Feat.mk k' ((at_ ys i.toNat).Y) ((at_ ys i.toNat).D))) i.toNat).D))) i.toNat).Y) ((k' + 1) + 1))).length) (fFeat (((ys.set i.toNat (Feat.mk k' ((at_ ys i.toNat).Y) ((at_ ys i.toNat).D))).set i.toNat (Feat.mk ((at_ (ys.set i.toNat (Feat.mk k' ((at_ ys i.toNat).Y) ((at_ ys i.toNat).D))) i.toNat).X) (k' + 1) ((at_ (ys.set i.toNat (Feat.mk k' ((at_ ys i.toNat).Y) ((at_ ys i.toNat).D))) i.toNat).D))).set i.toNat (Feat.mk ((at_ ((ys.set i.toNat (Feat.mk k' ((at_ ys i.toNat).Y) ((at_ ys i.toNat).D))).set i.toNat (Feat.mk ((at_ (ys.set i.toNat (Feat.mk k' ((at_ ys i.toNat).Y) ((at_ ys i.toNat).D))) i.toNat).X) (k' + 1) ((at_ (ys.set i.toNat (Feat.mk k' ((at_ ys i.toNat).Y) ((at_ ys i.toNat).D))) i.toNat).D))) i.toNat).X) ((at_ ((ys.set i.toNat (Feat.mk k' ((at_ ys i.toNat).Y) ((at_ ys i.toNat).D))).set i.toNat (Feat.mk ((at_ (ys.set i.toNat (Feat.mk k' ((at_ ys i.toNat).Y) ((at_ ys i.toNat).D))) i.toNat).X) (k' + 1) ((at_ (ys.set i.toNat (Feat.mk k' ((at_ ys i.toNat).Y) ((at_ ys i.toNat).D))) i.toNat).D))) i.toNat).Y) ((k' + 1) + 1)))))]) rfl (⟨.inl rfl, .inl rfl, .inl rfl, trivial⟩) (⟨.inr ⟨rfl, (by first | rfl | (simp; done) | (simp; omega) | omega), fun i_ hi_ => .inl (upd_enc (enc := cFeat) rfl i_ hi_)⟩, trivial⟩) ?_
     refine x_r [] [0, 1, 5] [7302] [.arr 7302, I (((k' + 1) + 1) + 1), I i] [some (.arr 3 ((((ys.set i.toNat (Feat.mk k' ((at_ ys i.toNat).Y) ((at_ ys i.toNat).D))).set i.toNat (Feat.mk ((at_ (ys.set i.toNat (Feat.mk k' ((at_ ys i.toNat).Y) ((at_ ys i.toNat).D))) i.toNat).X) (k' + 1) ((at_ (ys.set i.toNat (Feat.mk k' ((at_ ys i.toNat).Y) ((at_ ys i.toNat).D))) i.toNat).D))).set i.toNat (Feat.mk ((at_ ((ys.set i.toNat (Feat.mk k' ((at_ ys i.toNat).Y) ((at_ ys i.toNat).D))).set i.toNat (Feat.mk ((at_ (ys.set i.toNat (Feat.mk k' ((at_ ys i.toNat).Y) ((at_ ys i.toNat).D))) i.toNat).X) (k' + 1) ((at_ (ys.set i.toNat (Feat.mk k' ((at_ ys i.toNat).Y) ((at_ ys i.toNat).D))) i.toNat).D))) i.toNat).X) ((at_ ((ys.set i.toNat (Feat.mk k' ((at_ ys i.toNat).Y) ((at_ ys i.toNat).D))).set i.toNat (Feat.mk ((at_ (ys.set i.toNat (Feat.mk k' ((at_ ys i.toNat).Y) ((at_ ys i.toNat).D))) i.toNat).X) (k' + 1) ((at_ (ys.set i.toNat (Feat.mk k' ((at_ ys i.toNat).Y) ((at_ ys i.toNat).D))) i.toNat).D))) i.toNat).Y) ((k' + 1) + 1))).length) (fFeat (((ys.set i.toNat (Feat.mk k' ((at_ ys i.toNat).Y) ((at_ ys i.toNat).D))).set i.toNat (Feat.mk ((at_ (ys.set i.toNat (Feat.mk k' ((at_ ys i.toNat).Y) ((at_ ys i.toNat).D))) i.toNat).X) (k' + 1) ((at_ (ys.set i.toNat (Feat.mk k' ((at_ ys i.toNat).Y) ((at_ ys i.toNat).D))) i.toNat).D))).set i.toNat (Feat.mk ((at_ ((ys.set i.toNat (Feat.mk k' ((at_ ys i.toNat).Y) ((at_ ys i.toNat).D))).set i.toNat (Feat.mk ((at_ (ys.set i.toNat (Feat.mk k' ((at_ ys i.toNat).Y) ((at_ ys i.toNat).D))) i.toNat).X) (k' + 1) ((at_ (ys.set i.toNat (Feat.mk k' ((at_ ys i.toNat).Y) ((at_ ys i.toNat).D))) i.toNat).D))) i.toNat).X) ((at_ ((ys.set i.toNat (Feat.mk k' ((at_ ys i.toNat).Y) ((at_ ys i.toNat).D))).set i.toNat (Feat.mk ((at_ (ys.set i.toNat (Feat.mk k' ((at_ ys i.toNat).Y) ((at_ ys i.toNat).D))) i.toNat).X) (k' + 1) ((at_ (ys.set i.toNat (Feat.mk k' ((at_ ys i.toNat).Y) ((at_ ys i.toNat).D))) i.toNat).D))) i.toNat).Y) ((k' + 1) + 1)))))] [inR .i64 (((k' + 1) + 1) + 1)] ⟨(inR_i64 (by omega) (by omega)), trivial⟩ ?_
     refine xe_block 1 ?_
     refine xe_then ?_
     refine x_r [] [0, 1, 5] [7302] [.arr 7302, I (((k' + 1) + 1) + 1), I (i + 1)] [some (.arr 3 ((((ys.set i.toNat (Feat.mk k' ((at_ ys i.toNat).Y) ((at_ ys i.toNat).D))).set i.toNat (Feat.mk ((at_ (ys.set i.toNat (Feat.mk k' ((at_ ys i.toNat).Y) ((at_ ys i.toNat).D))) i.toNat).X) (k' + 1) ((at_ (ys.set i.toNat (Feat.mk k' ((at_ ys i.toNat).Y) ((at_ ys i.toNat).D))) i.toNat).D))).set i.toNat (Feat.mk ((at_ ((ys.set i.toNat (Feat.mk k' ((at_ ys i.toNat).Y) ((at_ ys i.toNat).D))).set i.toNat (Feat.mk ((at_ (ys.set i.toNat (Feat.mk k' ((at_ ys i.toNat).Y) ((at_ ys i.toNat).D))) i.toNat).X) (k' + 1) ((at_ (ys.set i.toNat (Feat.mk k' ((at_ ys i.toNat).Y) ((at_ ys i.toNat).D))) i.toNat).D))) i.toNat).X) ((at_ ((ys.set i.toNat (Feat.mk k' ((at_ ys i.toNat).Y) ((at_ ys i.toNat).D))).set i.toNat (Feat.mk ((at_ (ys.set i.toNat (Feat.mk k' ((at_ ys i.toNat).Y) ((at_ ys i.toNat).D))) i.toNat).X) (k' + 1) ((at_ (ys.set i.toNat (Feat.mk k' ((at_ ys i.toNat).Y) ((at_ ys i.toNat).D))) i.toNat).D))) i.toNat).Y) ((k' + 1) + 1))).length) (fFeat (((ys.set i.toNat (Feat.mk k' ((at_ ys i.toNat).Y) ((at_ ys i.toNat).D))).set i.toNat (Feat.mk ((at_ (ys.set i.toNat (Feat.mk k' ((at_ ys i.toNat).Y) ((at_ ys i.toNat).D))) i.toNat).X) (k' + 1) ((at_ (ys.set i.toNat (Feat.mk k' ((at_ ys i.toNat).Y) ((at_ ys i.toNat).D))) i.toNat).D))).set i.toNat (Feat.mk ((at_ ((ys.set i.toNat (Feat.mk k' ((at_ ys i.toNat).Y) ((at_ ys i.toNat).D))).set i.toNat (Feat.mk ((at_ (ys.set i.toNat (Feat.mk k' ((at_ ys i.toNat).Y) ((at_ ys i.toNat).D))) i.toNat).X) (k' + 1) ((at_ (ys.set i.toNat (Feat.mk k' ((at_ ys i.toNat).Y) ((at_ ys i.toNat).D))) i.toNat).D))) i.toNat).X) ((at_ ((ys.set i.toNat (Feat.mk k' ((at_ ys i.toNat).Y) ((at_ ys i.toNat).D))).set i.toNat (Feat.mk ((at_ (ys.set i.toNat (Feat.mk k' ((at_ ys i.toNat).Y) ((at_ ys i.toNat).D))) i.toNat).X) (k' + 1) ((at_ (ys.set i.toNat (Feat.mk k' ((at_ ys i.toNat).Y) ((at_ ys i.toNat).D))) i.toNat).D))) i.toNat).Y) ((k' + 1) + 1)))))] [inR .i64 (i + 1)] ⟨(inR_i64 (by omega) (by omega)), trivial⟩ ?_
     exact xe_again ((((k' + 1) + 1) + 1), (i + 1), (((ys.set i.toNat (Feat.mk k' ((at_ ys i.toNat).Y) ((at_ ys i.toNat).D))).set i.toNat (Feat.mk ((at_ (ys.set i.toNat (Feat.mk k' ((at_ ys i.toNat).Y) ((at_ ys i.toNat).D))) i.toNat).X) (k' + 1) ((at_ (ys.set i.toNat (Feat.mk k' ((at_ ys i.toNat).Y) ((at_ ys i.toNat).D))) i.toNat).D))).set i.toNat (Feat.mk ((at_ ((ys.set i.toNat (Feat.mk k' ((at_ ys i.toNat).Y) ((at_ ys i.toNat).D))).set i.toNat (Feat.mk ((at_ (ys.set i.toNat (Feat.mk k' ((at_ ys i.toNat).Y) ((at_ ys i.toNat).D))) i.toNat).X) (k' + 1) ((at_ (ys.set i.toNat (Feat.mk k' ((at_ ys i.toNat).Y) ((at_ ys i.toNat).D))) i.toNat).D))) i.toNat).X) ((at_ ((ys.set i.toNat (Feat.mk k' ((at_ ys i.toNat).Y) ((at_ ys i.toNat).D))).set i.toNat (Feat.mk ((at_ (ys.set i.toNat (Feat.mk k' ((at_ ys i.toNat).Y) ((at_ ys i.toNat).D))) i.toNat).X) (k' + 1) ((at_ (ys.set i.toNat (Feat.mk k' ((at_ ys i.toNat).Y) ((at_ ys i.toNat).D))) i.toNat).D))) i.toNat).Y) ((k' + 1) + 1)))) rfl (show (0 ≤ (i + 1) ∧ (i + 1) ≤ (al.length : Int)) ∧ ((((ys.set i.toNat (Feat.mk k' ((at_ ys i.toNat).Y) ((at_ ys i.toNat).D))).set i.toNat (Feat.mk ((at_ (ys.set i.toNat (Feat.mk k' ((at_ ys i.toNat).Y) ((at_ ys i.toNat).D))) i.toNat).X) (k' + 1) ((at_ (ys.set i.toNat (Feat.mk k' ((at_ ys i.toNat).Y) ((at_ ys i.toNat).D))) i.toNat).D))).set i.toNat (Feat.mk ((at_ ((ys.set i.toNat (Feat.mk k' ((at_ ys i.toNat).Y) ((at_ ys i.toNat).D))).set i.toNat (Feat.mk ((at_ (ys.set i.toNat (Feat.mk k' ((at_ ys i.toNat).Y) ((at_ ys i.toNat).D))) i.toNat).X) (k' + 1) ((at_ (ys.set i.toNat (Feat.mk k' ((at_ ys i.toNat).Y) ((at_ ys i.toNat).D))) i.toNat).D))) i.toNat).X) ((at_ ((ys.set i.toNat (Feat.mk k' ((at_ ys i.toNat).Y) ((at_ ys i.toNat).D))).set i.toNat (Feat.mk ((at_ (ys.set i.toNat (Feat.mk k' ((at_ ys i.toNat).Y) ((at_ ys i.toNat).D))) i.toNat).X) (k' + 1) ((at_ (ys.set i.toNat (Feat.mk k' ((at_ ys i.toNat).Y) ((at_ ys i.toNat).D))) i.toNat).D))) i.toNat).Y) ((k' + 1) + 1))).length = al.length) ∧ ((((k' + 1) + 1) + 1) = k + 3 * (i + 1)) ∧ (∀ j : Nat, (j : Int) < (i + 1) → at_ (((ys.set i.toNat (Feat.mk k' ((at_ ys i.toNat).Y) ((at_ ys i.toNat).D))).set i.toNat (Feat.mk ((at_ (ys.set i.toNat (Feat.mk k' ((at_ ys i.toNat).Y) ((at_ ys i.toNat).D))) i.toNat).X) (k' + 1) ((at_ (ys.set i.toNat (Feat.mk k' ((at_ ys i.toNat).Y) ((at_ ys i.toNat).D))) i.toNat).D))).set i.toNat (Feat.mk ((at_ ((ys.set i.toNat (Feat.mk k' ((at_ ys i.toNat).Y) ((at_ ys i.toNat).D))).set i.toNat (Feat.mk ((at_ (ys.set i.toNat (Feat.mk k' ((at_ ys i.toNat).Y) ((at_ ys i.toNat).D))) i.toNat).X) (k' + 1) ((at_ (ys.set i.toNat (Feat.mk k' ((at_ ys i.toNat).Y) ((at_ ys i.toNat).D))) i.toNat).D))) i.toNat).X) ((at_ ((ys.set i.toNat (Feat.mk k' ((at_ ys i.toNat).Y) ((at_ ys i.toNat).D))).set i.toNat (Feat.mk ((at_ (ys.set i.toNat (Feat.mk k' ((at_ ys i.toNat).Y) ((at_ ys i.toNat).D))) i.toNat).X) (k' + 1) ((at_ (ys.set i.toNat (Feat.mk k' ((at_ ys i.toNat).Y) ((at_ ys i.toNat).D))) i.toNat).D))) i.toNat).Y) ((k' + 1) + 1))) j = ⟨k + 3 * (j : Int), k + 3 * (j : Int) + 1, k + 3 * (j : Int) + 2⟩) ∧ True from ⟨(by omega), (by simp; omega), (by omega), (by simp only [List.set_set, at_setQ hiy]; exact mk_next hi0.1 hiy hy1 (by simp only [Feat.mk.injEq]; omega)), trivial⟩) (by first | (show (((al.length : Int) - (i + 1)).toNat : Nat) < ((al.length : Int) - i).toNat; omega) | (dsimp only; omega))
    refine x_r [(3, .dec false)] [0, 1, 5, 9] [7302] [.arr 7302, I k', I i, Bv false] [some (.arr 3 ys.length (fFeat ys))] [¬ (i < (ys.length : Int))] ⟨h1, trivial⟩ ?_
    refine xe_then ?_
    refine x_false rfl ?_
    refine x_exit ?_
    refine xe_exit_then ?_
    refine xe_loop_exit ?_
    refine xe_exit_same ?_
    refine xe_then ?_
    refine xR [] [4] [7302] [I k'] [some (.arr 3 ys.length (fFeat ys))] [] trivial ?_
    refine x_ret ?_
    refine xe_end (k', ys) (show (k' = k + 3 * (al.length : Int)) ∧ (ys = mkL k al.length) ∧ (True) from ⟨(by first | omega | exact ext_at (by rw [hy0, mkL_len]) (fun j hj => by rw [hy1 j (by omega), mkL_at (by omega)])), (by first | omega | exact ext_at (by rw [hy0, mkL_len]) (fun j hj => by rw [hy1 j (by omega), mkL_at (by omega)])), trivial⟩) (⟨.inl rfl, trivial⟩) (I k') (by kernel_rfl) (.inl rfl) (fun _ => rfl) (fun _ => trivial)
  obtain ⟨⟨v, al'⟩, ⟨hh0, hh1, _⟩, hc⟩ := hh
  exact ⟨v, al', hh0, hh1, hc⟩

theorem markRow7410_ok (al : List Feat) (alN : Nat) (alm : Nat → Nat) (alg : Nat → Nat → List AV) (alp : Nat) (k : Int) (hk : 0 ≤ k ∧ k ≤ 100000000 ∧ al.length ≤ 2000000 ∧ alp < alN) : ∃ (v : Int) (al' : List Feat), (v = k + 3 * (al.length : Int)) ∧ (al' = mkL k al.length) ∧ CallOK Try.prog 49 [.row 7410 alp, I k] (lookO [(7410, .fam alN 3 (famUp alp al.length alm) (famUpF alp (fFeat al) alg))]) true (I v) (lookO [(7410, .fam alN 3 (famUp alp al'.length alm) (famUpF alp (fFeat al') alg))]) := by
  have hh : ∃ r : Int × (List Feat), ((r.1 = k + 3 * (al.length : Int)) ∧ (r.2 = mkL k al.length) ∧ (True)) ∧ CallOK Try.prog 49 [.row 7410 alp, I k] (lookO [(7410, .fam alN 3 (famUp alp al.length alm) (famUpF alp (fFeat al) alg))]) true (I r.1) (lookO [(7410, .fam alN 3 (famUp alp r.2.length alm) (famUpF alp (fFeat r.2) alg))]) := by
    refine fn_okX (Φ := fun r : Int × (List Feat) => (r.1 = k + 3 * (al.length : Int)) ∧ (r.2 = mkL k al.length) ∧ (True)) [(7410, .fam alN 3 (famUp alp al.length alm) (famUpF alp (fFeat al) alg))] (fun r => [(7410, .fam alN 3 (famUp alp r.2.length alm) (famUpF alp (fFeat r.2) alg))]) (fn := Try.f49) (nt := 34) Try.func49 rfl rfl (args := [.row 7410 alp, I k]) rfl (allcons (.inr (by simp [tagged, taggedL])) (allcons (.inl ⟨rfl, trivial⟩) allnil)) (res := fun r => I r.1) ?_
    refine xR [] [0, 1] [7410] [.row 7410 alp, I k] [some (.fam alN 3 (famUp alp al.length alm) (famUpF alp (fFeat al) alg))] [] trivial ?_
    refine x_seq ?_
    refine xR [] [0, 1, 5] [7410] [.row 7410 alp, I k, I 0] [some (.fam alN 3 (famUp alp al.length alm) (famUpF alp (fFeat al) alg))] [] trivial ?_
    refine x_block ?_
    refine x_loop (X := Int × Int × (List Feat)) (fun x => mkS [(0, .row 7410 alp), (1, I x.1), (5, I x.2.1)] [(7410, .fam alN 3 (famUp alp x.2.2.length alm) (famUpF alp (fFeat x.2.2) alg))]) (fun x => (0 ≤ x.2.1 ∧ x.2.1 ≤ (al.length : Int)) ∧ (x.2.2.length = al.length) ∧ (x.1 = k + 3 * x.2.1) ∧ (∀ j : Nat, (j : Int) < x.2.1 → at_ x.2.2 j = ⟨k + 3 * (j : Int), k + 3 * (j : Int) + 1, k + 3 * (j : Int) + 2⟩) ∧ True) (fun x => ((al.length : Int) - x.2.1).toNat) (k, 0, al) rfl (show (0 ≤ (0 : Int) ∧ (0 : Int) ≤ (al.length : Int)) ∧ (al.length = al.length) ∧ (k = k + 3 * (0 : Int)) ∧ (∀ j : Nat, (j : Int) < (0 : Int) → at_ al j = ⟨k + 3 * (j : Int), k + 3 * (j : Int) + 1, k + 3 * (j : Int) + 2⟩) ∧ True from ⟨(by omega), (by rfl), (by omega), (by intro j hj; omega), trivial⟩) (fun x hI => ?_)
    obtain ⟨k', i, ys⟩ := x
    obtain ⟨hi0, hy0, hk1, hy1, _⟩ : (0 ≤ i ∧ i ≤ (al.length : Int)) ∧ (ys.length = al.length) ∧ (k' = k + 3 * i) ∧ (∀ j : Nat, (j : Int) < i → at_ ys j = ⟨k + 3 * (j : Int), k + 3 * (j : Int) + 1, k + 3 * (j : Int) + 2⟩) ∧ True := hI
    show XW _ _ _ _ (mkS [(0, .row 7410 alp), (1, I k'), (5, I i)] [(7410, .fam alN 3 (famUp alp ys.length alm) (famUpF alp (fFeat ys) alg))]) _ _
    refine x_seq ?_
    refine x_seq ?_
    by_cases h1 : i < ((famUp alp ys.length alm alp) : Int)
    ·have hq := h1
     rw [famUp_at] at hq
     have hi : i.toNat < al.length := by omega
     have hiy : i.toNat < ys.length := by omega
     refine x_r [(3, .dec true)] [0, 1, 5, 9] [7410] [.row 7410 alp, I k', I i, Bv true] [some (.fam alN 3 (famUp alp ys.length alm) (famUpF alp (fFeat ys) alg))] [alp < alN, i < ((famUp alp ys.length alm alp) : Int)] ⟨(by omega), h1, trivial⟩ ?_
     refine xe_then ?_
     refine x_true rfl ?_
     refine x_skip ?_
     refine xe_then ?_
     refine x_seq ?_
     refine x_block ?_
     refine xR [] [0, 1, 5] [7410] [.row 7410 alp, I k', I i] [some (.fam alN 3 (famUp alp ys.length alm) (fun q => bif Nat.beq q alp then (fun q => bif Nat.beq q i.toNat then spl ((famUpF alp (fFeat ys) alg) alp i.toNat) 0 [I k'] else (famUpF alp (fFeat ys) alg) alp q) else (famUpF alp (fFeat ys) alg) q))] [alp < alN ∧ (0 : Int) ≤ i ∧ i < ((famUp alp ys.length alm alp) : Int), alp < alN ∧ i.toNat < (famUp alp ys.length alm alp)] ⟨⟨(by omega), (by omega), (by (try simp only [List.length_set, famUp_at]); omega)⟩, ⟨(by omega), (by (try simp only [List.length_set, famUp_at]); omega)⟩, trivial⟩ ?_
     refine x_seq ?_
     refine x_weak [] (T := [(0, .row 7410 alp), (1, I k'), (5, I i)]) (O := [(7410, .fam alN 3 (famUp alp (ys.set i.toNat (Feat.mk k' ((at_ ys i.toNat).Y) ((at_ ys i.toNat).D))).length alm) (famUpF alp (fFeat (ys.set i.toNat (Feat.mk k' ((at_ ys i.toNat).Y) ((at_ ys i.toNat).D)))) alg))]) rfl (⟨.inl rfl, .inl rfl, .inl rfl, trivial⟩) (⟨.inr (fgsetFeat ((by omega)) rfl), trivial⟩) ?_
     refine x_r [] [0, 1, 5] [7410] [.row 7410 alp, I (k' + 1), I i] [some (.fam alN 3 (famUp alp (ys.set i.toNat (Feat.mk k' ((at_ ys i.toNat).Y) ((at_ ys i.toNat).D))).length alm) (famUpF alp (fFeat (ys.set i.toNat (Feat.mk k' ((at_ ys i.toNat).Y) ((at_ ys i.toNat).D)))) alg))] [inR .i64 (k' + 1)] ⟨(inR_i64 (by omega) (by omega)), trivial⟩ ?_
     refine xe_then ?_
     refine xR [] [0, 1, 5] [7410] [.row 7410 alp, I (k' + 1), I i] [some (.fam alN 3 (famUp alp (ys.set i.toNat (Feat.mk k' ((at_ ys i.toNat).Y) ((at_ ys i.toNat).D))).length alm) (fun q => bif Nat.beq q alp then (fun q => bif Nat.beq q i.toNat then spl ((famUpF alp (fFeat (ys.set i.toNat (Feat.mk k' ((at_ ys i.toNat).Y) ((at_ ys i.toNat).D)))) alg) alp i.toNat) 1 [I (k' + 1)] else (famUpF alp (fFeat (ys.set i.toNat (Feat.mk k' ((at_ ys i.toNat).Y) ((at_ ys i.toNat).D)))) alg) alp q) else (famUpF alp (fFeat (ys.set i.toNat (Feat.mk k' ((at_ ys i.toNat).Y) ((at_ ys i.toNat).D)))) alg) q))] [alp < alN ∧ (0 : Int) ≤ i ∧ i < ((famUp alp (ys.set i.toNat (Feat.mk k' ((at_ ys i.toNat).Y) ((at_ ys i.toNat).D))).length alm alp) : Int), alp < alN ∧ i.toNat < (famUp alp (ys.set i.toNat (Feat.mk k' ((at_ ys i.toNat).Y) ((at_ ys i.toNat).D))).length alm alp)] ⟨⟨(by omega), (by omega), (by (try simp only [List.length_set, famUp_at]); omega)⟩, ⟨(by omega), (by (try simp only [List.length_set, famUp_at]); omega)⟩, trivial⟩ ?_
     refine x_seq ?_
     refine x_weak [] (T := [(0, .row 7410 alp), (1, I (k' + 1)), (5, I i)]) (O := [(7410, .fam alN 3 (famUp alp ((ys.set i.toNat (Feat.mk k' ((at_ ys i.toNat).Y) ((at_ ys i.toNat).D))).set i.toNat (Feat.mk ((at_ (ys.set i.toNat (Feat.mk k' ((at_ ys i.toNat).Y) ((at_ ys i.toNat).D))) i.toNat).X) (k' + 1) ((at_ (ys.set i.toNat (Feat.mk k' ((at_ ys i.toNat).Y) ((at_ ys i.toNat).D))) i.toNat).D))).length alm) (famUpF alp (fFeat ((ys.set i.toNat (Feat.mk k' ((at_ ys i.toNat).Y) ((at_ ys i.toNat).D))).set i.toNat (Feat.mk ((at_ (ys.set i.toNat (Feat.mk k' ((at_ ys i.toNat).Y) ((at_ ys i.toNat).D))) i.toNat).X) (k' + 1) ((at_ (ys.set i.toNat (Feat.mk k' ((at_ ys i.toNat).Y) ((at_ ys i.toNat).D))) i.toNat).D)))) alg))]) rfl (⟨.inl rfl, .inl rfl, .inl rfl, trivial⟩) (⟨.inr (fgsetFeat ((by (try simp only [List.length_set, famUp_at]); omega)) rfl), trivial⟩) ?_
     refine x_r [] [0, 1, 5] [7410] [.row 7410 alp, I ((k' + 1) + 1), I i] [some (.fam alN 3 (famUp alp ((ys.set i.toNat (Feat.mk k' ((at_ ys i.toNat).Y) ((at_ ys i.toNat).D))).set i.toNat (Feat.mk ((at_ (ys.set i.toNat (Feat.mk k' ((at_ ys i.toNat).Y) ((at_ ys i.toNat).D))) i.toNat).X) (k' + 1) ((at_ (ys.set i.toNat (Feat.mk k' ((at_ ys i.toNat).Y) ((at_ ys i.toNat).D))) i.toNat).D))).length alm) (famUpF alp (fFeat ((ys.set i.toNat (Feat.mk k' ((at_ ys i.toNat).Y) ((at_ ys i.toNat).D))).set i.toNat (Feat.mk ((at_ (ys.set i.toNat (Feat.mk k' ((at_ ys i.toNat).Y) ((at_ ys i.toNat).D))) i.toNat).X) (k' + 1) ((at_ (ys.set i.toNat (Feat.mk k' ((at_ ys i.toNat).Y) ((at_ ys i.toNat).D))) i.toNat).D)))) alg))] [inR .i64 ((k' + 1) + 1)] ⟨(inR_i64 (by omega) (by omega)), trivial⟩ ?_
     refine xe_then ?_
     refine xR [] [0, 1, 5] [7410] [.row 7410 alp, I ((k' + 1) + 1), I i] [some (.fam alN 3 (famUp alp ((ys.set i.toNat (Feat.mk k' ((at_ ys i.toNat).Y) ((at_ ys i.toNat).D))).set i.toNat (Feat.mk ((at_ (ys.set i.toNat (Feat.mk k' ((at_ ys i.toNat).Y) ((at_ ys i.toNat).D))) i.toNat).X) (k' + 1) ((at_ (ys.set i.toNat (Feat.mk k' ((at_ ys i.toNat).Y) ((at_ ys i.toNat).D))) i.toNat).D))).length alm) (fun q => bif Nat.beq q alp then (fun q => bif Nat.beq q i.toNat then spl ((famUpF alp (fFeat ((ys.set i.toNat (Feat.mk k' ((at_ ys i.toNat).Y) ((at_ ys i.toNat).D))).set i.toNat (Feat.mk ((at_ (ys.set i.toNat (Feat.mk k' ((at_ ys i.toNat).Y) ((at_ ys i.toNat).D))) i.toNat).X) (k' + 1) ((at_ (ys.set i.toNat (Feat.mk k' ((at_ ys i.toNat).Y) ((at_ ys i.toNat).D))) i.toNat).D)))) alg) alp i.toNat) 2 [I ((k' + 1) + 1)] else (famUpF alp (fFeat ((ys.set i.toNat (Feat.mk k' ((at_ ys i.toNat).Y) ((at_ ys i.toNat).D))).set i.toNat (Feat.mk ((at_ (ys.set i.toNat (Feat.mk k' ((at_ ys i.toNat).Y) ((at_ ys i.toNat).D))) i.toNat).X) (k' + 1) ((at_ (ys.set i.toNat (Feat.mk k' ((at_ ys i.toNat).Y) ((at_ ys i.toNat).D))) i.toNat).D)))) alg) alp q) else (famUpF alp (fFeat ((ys.set i.toNat (Feat.mk k' ((at_ ys i.toNat).Y) ((at_ ys i.toNat).D))).set i.toNat (Feat.mk ((at_ (ys.set i.toNat (Feat.mk k' ((at_ ys i.toNat).Y) ((at_ ys i.toNat).D))) i.toNat).X) (k' + 1) ((at_ (ys.set i.toNat (Feat.mk k' ((at_ ys i.toNat).Y) ((at_ ys i.toNat).D))) i.toNat).D)))) alg) q))] [alp < alN ∧ (0 : Int) ≤ i ∧ i < ((famUp alp ((ys.set i.toNat (Feat.mk k' ((at_ ys i.toNat).Y) ((at_ ys i.toNat).D))).set i.toNat (Feat.mk ((at_ (ys.set i.toNat (Feat.mk k' ((at_ ys i.toNat).Y) ((at_ ys i.toNat).D))) i.toNat).X) (k' + 1) ((at_ (ys.set i.toNat (Feat.mk k' ((at_ ys i.toNat).Y) ((at_ ys i.toNat).D))) i.toNat).D))).length alm alp) : Int), alp < alN ∧ i.toNat < (famUp alp ((ys.set i.toNat (Feat.mk k' ((at_ ys i.toNat).Y) ((at_ ys i.toNat).D))).set i.toNat (Feat.mk ((at_ (ys.set i.toNat (Feat.mk k' ((at_ ys i.toNat).Y) ((at_ ys i.toNat).D))) i.toNat).X) (k' + 1) ((at_ (ys.set i.toNat (Feat.mk k' ((at_ ys i.toNat).Y) ((at_ ys i.toNat).D))) i.toNat).D))).length alm alp)] ⟨⟨(by omega), (by omega), (by (try simp only [List.length_set, famUp_at]); omega)⟩, ⟨(by omega), (by (try simp only [List.length_set, famUp_at]); omega)⟩, trivial⟩ ?_
     refine x_weak [] (T := [(0, .row 7410 alp), (1, I ((k' + 1) + 1)), (5, I i)]) (O := [(7410, .fam alN 3 (famUp alp (((ys.set i.toNat (Feat.mk k' ((at_ ys i.toNat).Y) ((at_ ys i.toNat).D))).set i.toNat (Feat.mk ((at_ (ys.set i.toNat (Feat.mk k' ((at_ ys i.toNat).Y) ((at_ ys i.toNat).D))) i.toNat).X) (k' + 1) ((at_ (ys.set i.toNat (Feat.mk k' ((at_ ys i.toNat).Y) ((at_ ys i.toNat).D))) i.toNat).D))).set i.toNat (Feat.mk ((at_ ((ys.set i.toNat (Feat.mk k' ((at_ ys i.toNat).Y) ((at_ ys i.toNat).D))).set i.toNat (Feat.mk ((at_ (ys.set i.toNat (Feat.mk k' ((at_ ys i.toNat).Y) ((at_ ys i.toNat).D))) i.toNat).X) (k' + 1) ((at_ (ys.set i.toNat (Feat.mk k' ((at_ ys i.toNat).Y) ((at_ ys i.toNat).D))) i.toNat).D))) i.toNat).X) ((at_ ((ys.set i.toNat (Feat.mk k' ((at_ ys i.toNat).Y) ((at_ ys i.toNat).D))).set i.toNat (Feat.mk ((at_ (ys.set i.toNat (Feat.mk k' ((at_ ys i.toNat).Y) ((at_ ys i.toNat).D))) i.toNat).X) (k' + 1) ((at_ (ys.set i.toNat (Feat.mk k' ((at_ ys i.toNat).Y) ((at_ ys i.toNat).D))) i.toNat).D))) i.toNat).Y) ((k' + 1) + 1))).length alm) (famUpF alp (fFeat (((ys.set i.toNat (Feat.mk k' ((at_ ys i.toNat).Y) ((at_ ys i.toNat).D))).set i.toNat (Feat.mk ((at_ (ys.set i.toNat (Feat.mk k' ((at_ ys i.toNat).Y) ((at_ ys i.toNat).D))) i.toNat).X) (k' + 1) ((at_ (ys.set i.toNat (Feat.mk k' ((at_ ys i.toNat).Y) ((at_ ys i.toNat).D))) i.toNat).D))).set i.toNat (Feat.mk ((at_ ((ys.set i.toNat (Feat.mk k' ((at_ ys i.toNat).Y) ((at_ ys i.toNat).D))).set i.toNat (Feat.mk ((at_ (ys.set i.toNat (Feat.mk k' ((at_ ys i.toNat).Y) ((at_ ys i.toNat).D))) i.toNat).X) (k' + 1) ((at_ (ys.set i.toNat (Feat.mk k' ((at_ ys i.toNat).Y) ((at_ ys i.toNat).D))) i.toNat).D))) i.toNat).X) ((at_ ((ys.set i.toNat (Feat.mk k' ((at_ ys i.toNat).Y) ((at_ ys i.toNat).D))).set i.toNat (Feat.mk ((at_ (ys.set i.toNat (Feat.mk k' ((at_ ys i.toNat).Y) ((at_ ys i.toNat).D))) i.toNat).X) (k' + 1) ((at_ (ys.set i.toNat (Feat.mk k' ((at_ ys i.toNat).Y) ((at_ ys i.toNat).D))) i.toNat).D))) i.toNat).Y) ((k' + 1) + 1)))) alg))]) rfl (⟨.inl rfl, .inl rfl, .inl rfl, trivial⟩) (⟨.inr (fgsetFeat ((by (try simp only [List.length_set, famUp_at]); omega)) rfl), trivial⟩) ?_
     refine x_r [] [0, 1, 5] [7410] [.row 7410 alp, I (((k' + 1) + 1) + 1), I i] [some (.fam alN 3 (famUp alp (((ys.set i.toNat (Feat.mk k' ((at_ ys i.toNat).Y) ((at_ ys i.toNat).D))).set i.toNat (Feat.mk ((at_ (ys.set i.toNat (Feat.mk k' ((at_ ys i.toNat).Y) ((at_ ys i.toNat).D))) i.toNat).X) (k' + 1) ((at_ (ys.set i.toNat (Feat.mk k' ((at_ ys i.toNat).Y) ((at_ ys i.toNat).D))) i.toNat).D))).set i.toNat (Feat.mk ((at_ ((ys.set i.toNat (Feat.mk k' ((at_ ys i.toNat).Y) ((at_ ys i.toNat).D))).set i.toNat (Feat.mk ((at_ (ys.set i.toNat (Feat.mk k' ((at_ ys i.toNat).Y) ((at_ ys i.toNat).D))) i.toNat).X) (k' + 1) ((at_ (ys.set i.toNat (Feat.mk k' ((at_ ys i.toNat).Y) ((at_ ys i.toNat).D))) i.toNat).D))) i.toNat).X) ((at_ ((ys.set i.toNat (Feat.mk k' ((at_ ys i.toNat).Y) ((at_ ys i.toNat).D))).set i.toNat (Feat.mk ((at_ (ys.set i.toNat (Feat.mk k' ((at_ ys i.toNat).Y) ((at_ ys i.toNat).D))) i.toNat).X) (k' + 1) ((at_ (ys.set i.toNat (Feat.mk k' ((at_ ys i.toNat).Y) ((at_ ys i.toNat).D))) i.toNat).D))) i.toNat).Y) ((k' + 1) + 1))).length alm) (famUpF alp (fFeat (((ys.set i.toNat (Feat.mk k' ((at_ ys i.toNat).Y) ((at_ ys i.toNat).D))).set i.toNat (Feat.mk ((at_ (ys.set i.toNat (Feat.mk k' ((at_ ys i.toNat).Y) ((at_ ys i.toNat).D))) i.toNat).X) (k' + 1) ((at_ (ys.set i.toNat (Feat.mk k' ((at_ ys i.toNat).Y) ((at_ ys i.toNat).D))) i.toNat).D))).set i.toNat (Feat.mk ((at_ ((ys.set i.toNat (Feat.mk k' ((at_ ys i.toNat).Y) ((at_ ys i.toNat).D))).set i.toNat (Feat.mk ((at_ (ys.set i.toNat (Feat.mk k' ((at_ ys i.toNat).Y) ((at_ ys i.toNat).D))) i.toNat).X) (k' + 1) ((at_ (ys.set i.toNat (Feat.mk k' ((at_ ys i.toNat).Y) ((at_ ys i.toNat).D))) i.toNat).D))) i.toNat).X) ((at_ ((ys.set i.toNat (Feat.mk k' ((at_ ys i.toNat).Y) ((at_ ys i.toNat).D))).set i.toNat (Feat.mk ((at_ (ys.set i.toNat (Feat.mk k' ((at_ ys i.toNat).Y) ((at_ ys i.toNat).D))) i.toNat).X) (k' + 1) ((at_ (ys.set i.toNat (Feat.mk k' ((at_ ys i.toNat).Y) ((at_ ys i.toNat).D))) i.toNat).D))) i.toNat).Y) ((k' + 1) + 1)))) alg))] [inR .i64 (((k' + 1) + 1) + 1)] ⟨(inR_i64 (by omega) (by omega)), trivial⟩ ?_
     refine xe_block 1 ?_
     refine xe_then ?_
     refine x_r [] [0, 1, 5] [7410] [.row 7410 alp, I (((k' + 1) + 1) + 1), I (i + 1)] [some (.fam alN 3 (famUp alp (((ys.set i.toNat (Feat.mk k' ((at_ ys i.toNat).Y) ((at_ ys i.toNat).D))).set i.toNat (Feat.mk ((at_ (ys.set i.toNat (Feat.mk k' ((at_ ys i.toNat).Y) ((at_ ys i.toNat).D))) i.toNat).X) (k' + 1) ((at_ (ys.set i.toNat (Feat.mk k' ((at_ ys i.toNat).Y) ((at_ ys i.toNat).D))) i.toNat).D))).set i.toNat (Feat.mk ((at_ ((ys.set i.toNat (Feat.mk k' ((at_ ys i.toNat).Y) ((at_ ys i.toNat).D))).set i.toNat (Feat.mk ((at_ (ys.set i.toNat (Feat.mk k' ((at_ ys i.toNat).Y) ((at_ ys i.toNat).D))) i.toNat).X) (k' + 1) ((at_ (ys.set i.toNat (Feat.mk k' ((at_ ys i.toNat).Y) ((at_ ys i.toNat).D))) i.toNat).D))) i.toNat).X) ((at_ ((ys.set i.toNat (Feat.mk k' ((at_ ys i.toNat).Y) ((at_ ys i.toNat).D))).set i.toNat (Feat.mk ((at_ (ys.set i.toNat (Feat.mk k' ((at_ ys i.toNat).Y) ((at_ ys i.toNat).D))) i.toNat).X) (k' + 1) ((at_ (ys.set i.toNat (Feat.mk k' ((at_ ys i.toNat).Y) ((at_ ys i.toNat).D))) i.toNat).D))) i.toNat).Y) ((k' + 1) + 1))).length alm) (famUpF alp (fFeat (((ys.set i.toNat (Feat.mk k' ((at_ ys i.toNat).Y) ((at_ ys i.toNat).D))).set i.toNat (Feat.mk ((at_ (ys.set i.toNat (Feat.mk k' ((at_ ys i.toNat).Y) ((at_ ys i.toNat).D))) i.toNat).X) (k' + 1) ((at_ (ys.set i.toNat (Feat.mk k' ((at_ ys i.toNat).Y) ((at_ ys i.toNat).D))) i.toNat).D))).set i.toNat (Feat.mk ((at_ ((ys.set i.toNat (Feat.mk k' ((at_ ys i.toNat).Y) ((at_ ys i.toNat).D))).set i.toNat (Feat.mk ((at_ (ys.set i.toNat (Feat.mk k' ((at_ ys i.toNat).Y) ((at_ ys i.toNat).D))) i.toNat).X) (k' + 1) ((at_ (ys.set i.toNat (Feat.mk k' ((at_ ys i.toNat).Y) ((at_ ys i.toNat).D))) i.toNat).D))) i.toNat).X) ((at_ ((ys.set i.toNat (Feat.mk k' ((at_ ys i.toNat).Y) ((at_ ys i.toNat).D))).set i.toNat (Feat.mk ((at_ (ys.set i.toNat (Feat.mk k' ((at_ ys i.toNat).Y) ((at_ ys i.toNat).D))) i.toNat).X) (k' + 1) ((at_ (ys.set i.toNat (Feat.mk k' ((at_ ys i.toNat).Y) ((at_ ys i.toNat).D))) i.toNat).D))) i.toNat).Y) ((k' + 1) + 1)))) alg))] [inR .i64 (i + 1)] ⟨(inR_i64 (by omega) (by omega)), trivial⟩ ?_
     exact xe_again ((((k' + 1) + 1) + 1), (i + 1), (((ys.set i.toNat (Feat.mk k' ((at_ ys i.toNat).Y) ((at_ ys i.toNat).D))).set i.toNat (Feat.mk ((at_ (ys.set i.toNat (Feat.mk k' ((at_ ys i.toNat).Y) ((at_ ys i.toNat).D))) i.toNat).X) (k' + 1) ((at_ (ys.set i.toNat (Feat.mk k' ((at_ ys i.toNat).Y) ((at_ ys i.toNat).D))) i.toNat).D))).set i.toNat (Feat.mk ((at_ ((ys.set i.toNat (Feat.mk k' ((at_ ys i.toNat).Y) ((at_ ys i.toNat).D))).set i.toNat (Feat.mk ((at_ (ys.set i.toNat (Feat.mk k' ((at_ ys i.toNat).Y) ((at_ ys i.toNat).D))) i.toNat).X) (k' + 1) ((at_ (ys.set i.toNat (Feat.mk k' ((at_ ys i.toNat).Y) ((at_ ys i.toNat).D))) i.toNat).D))) i.toNat).X) ((at_ ((ys.set i.toNat (Feat.mk k' ((at_ ys i.toNat).Y) ((at_ ys i.toNat).D))).set i.toNat (Feat.mk ((at_ (ys.set i.toNat (Feat.mk k' ((at_ ys i.toNat).Y) ((at_ ys i.toNat).D))) i.toNat).X) (k' + 1) ((at_ (ys.set i.toNat (Feat.mk k' ((at_ ys i.toNat).Y) ((at_ ys i.toNat).D))) i.toNat).D))) i.toNat).Y) ((k' + 1) + 1)))) rfl (show (0 ≤ (i + 1) ∧ (i + 1) ≤ (al.length : Int)) ∧ ((((ys.set i.toNat (Feat.mk k' ((at_ ys i.toNat).Y) ((at_ ys i.toNat).D))).set i.toNat (Feat.mk ((at_ (ys.set i.toNat (Feat.mk k' ((at_ ys i.toNat).Y) ((at_ ys i.toNat).D))) i.toNat).X) (k' + 1) ((at_ (ys.set i.toNat (Feat.mk k' ((at_ ys i.toNat).Y) ((at_ ys i.toNat).D))) i.toNat).D))).set i.toNat (Feat.mk ((at_ ((ys.set i.toNat (Feat.mk k' ((at_ ys i.toNat).Y) ((at_ ys i.toNat).D))).set i.toNat (Feat.mk ((at_ (ys.set i.toNat (Feat.mk k' ((at_ ys i.toNat).Y) ((at_ ys i.toNat).D))) i.toNat).X) (k' + 1) ((at_ (ys.set i.toNat (Feat.mk k' ((at_ ys i.toNat).Y) ((at_ ys i.toNat).D))) i.toNat).D))) i.toNat).X) ((at_ ((ys.set i.toNat (Feat.mk k' ((at_ ys i.toNat).Y) ((at_ ys i.toNat).D))).set i.toNat (Feat.mk ((at_ (ys.set i.toNat (Feat.mk k' ((at_ ys i.toNat).Y) ((at_ ys i.toNat).D))) i.toNat).X) (k' + 1) ((at_ (ys.set i.toNat (Feat.mk k' ((at_ ys i.toNat).Y) ((at_ ys i.toNat).D))) i.toNat).D))) i.toNat).Y) ((k' + 1) + 1))).length = al.length) ∧ ((((k' + 1) + 1) + 1) = k + 3 * (i + 1)) ∧ (∀ j : Nat, (j : Int) < (i + 1) → at_ (((ys.set i.toNat (Feat.mk k' ((at_ ys i.toNat).Y) ((at_ ys i.toNat).D))).set i.toNat (Feat.mk ((at_ (ys.set i.toNat (Feat.mk k' ((at_ ys i.toNat).Y) ((at_ ys i.toNat).D))) i.toNat).X) (k' + 1) ((at_ (ys.set i.toNat (Feat.mk k' ((at_ ys i.toNat).Y) ((at_ ys i.toNat).D))) i.toNat).D))).set i.toNat (Feat.mk ((at_ ((ys.set i.toNat (Feat.mk k' ((at_ ys i.toNat).Y) ((at_ ys i.toNat).D))).set i.toNat (Feat.mk ((at_ (ys.set i.toNat (Feat.mk k' ((at_ ys i.toNat).Y) ((at_ ys i.toNat).D))) i.toNat).X) (k' + 1) ((at_ (ys.set i.toNat (Feat.mk k' ((at_ ys i.toNat).Y) ((at_ ys i.toNat).D))) i.toNat).D))) i.toNat).X) ((at_ ((ys.set i.toNat (Feat.mk k' ((at_ ys i.toNat).Y) ((at_ ys i.toNat).D))).set i.toNat (Feat.mk ((at_ (ys.set i.toNat (Feat.mk k' ((at_ ys i.toNat).Y) ((at_ ys i.toNat).D))) i.toNat).X) (k' + 1) ((at_ (ys.set i.toNat (Feat.mk k' ((at_ ys i.toNat).Y) ((at_ ys i.toNat).D))) i.toNat).D))) i.toNat).Y) ((k' + 1) + 1))) j = ⟨k + 3 * (j : Int), k + 3 * (j : Int) + 1, k + 3 * (j : Int) + 2⟩) ∧ True from ⟨(by omega), (by simp; omega), (by omega), (by simp only [List.set_set, at_setQ hiy]; exact mk_next hi0.1 hiy hy1 (by simp only [Feat.mk.injEq]; omega)), trivial⟩) (by first | (show (((al.length : Int) - (i + 1)).toNat : Nat) < ((al.length : Int) - i).toNat; omega) | (dsimp only; omega))
    have hq := h1
    rw [famUp_at] at hq
    refine x_r [(3, .dec false)] [0, 1, 5, 9] [7410] [.row 7410 alp, I k', I i, Bv false] [some (.fam alN 3 (famUp alp ys.length alm) (famUpF alp (fFeat ys) alg))] [alp < alN, ¬ (i < ((famUp alp ys.length alm alp) : Int))] ⟨(by omega), h1, trivial⟩ ?_
    refine xe_then ?_
    refine x_false rfl ?_
    refine x_exit ?_
    refine xe_exit_then ?_
    refine xe_loop_exit ?_
    refine xe_exit_same ?_
    refine xe_then ?_
    refine xR [] [4] [7410] [I k'] [some (.fam alN 3 (famUp alp ys.length alm) (famUpF alp (fFeat ys) alg))] [] trivial ?_
    refine x_ret ?_
    refine xe_end (k', ys) (show (k' = k + 3 * (al.length : Int)) ∧ (ys = mkL k al.length) ∧ (True) from ⟨(by first | omega | exact ext_at (by rw [hy0, mkL_len]) (fun j hj => by rw [hy1 j (by omega), mkL_at (by omega)])), (by first | omega | exact ext_at (by rw [hy0, mkL_len]) (fun j hj => by rw [hy1 j (by omega), mkL_at (by omega)])), trivial⟩) (⟨.inl rfl, trivial⟩) (I k') (by kernel_rfl) (.inl rfl) (fun _ => rfl) (fun _ => trivial)
  obtain ⟨⟨v, al'⟩, ⟨hh0, hh1, _⟩, hc⟩ := hh
  exact ⟨v, al', hh0, hh1, hc⟩

theorem markRow7411_ok (al : List Feat) (alN : Nat) (alm : Nat → Nat) (alg : Nat → Nat → List AV) (alp : Nat) (k : Int) (hk : 0 ≤ k ∧ k ≤ 100000000 ∧ al.length ≤ 2000000 ∧ alp < alN) : ∃ (v : Int) (al' : List Feat), (v = k + 3 * (al.length : Int)) ∧ (al' = mkL k al.length) ∧ CallOK Try.prog 49 [.row 7411 alp, I k] (lookO [(7411, .fam alN 3 (famUp alp al.length alm) (famUpF alp (fFeat al) alg))]) true (I v) (lookO [(7411, .fam alN 3 (famUp alp al'.length alm) (famUpF alp (fFeat al') alg))]) := by
  have hh : ∃ r : Int × (List Feat), ((r.1 = k + 3 * (al.length : Int)) ∧ (r.2 = mkL k al.length) ∧ (True)) ∧ CallOK Try.prog 49 [.row 7411 alp, I k] (lookO [(7411, .fam alN 3 (famUp alp al.length alm) (famUpF alp (fFeat al) alg))]) true (I r.1) (lookO [(7411, .fam alN 3 (famUp alp r.2.length alm) (famUpF alp (fFeat r.2) alg))]) := by
    refine fn_okX (Φ := fun r : Int × (List Feat) => (r.1 = k + 3 * (al.length : Int)) ∧ (r.2 = mkL k al.length) ∧ (True)) [(7411, .fam alN 3 (famUp alp al.length alm) (famUpF alp (fFeat al) alg))] (fun r => [(7411, .fam alN 3 (famUp alp r.2.length alm) (famUpF alp (fFeat r.2) alg))]) (fn := Try.f49) (nt := 34) Try.func49 rfl rfl (args := [.row 7411 alp, I k]) rfl (allcons (.inr (by simp [tagged, taggedL])) (allcons (.inl ⟨rfl, trivial⟩) allnil)) (res := fun r => I r.1) ?_
    refine xR [] [0, 1] [7411] [.row 7411 alp, I k] [some (.fam alN 3 (famUp alp al.length alm) (famUpF alp (fFeat al) alg))] [] trivial ?_
    refine x_seq ?_
    refine xR [] [0, 1, 5] [7411] [.row 7411 alp, I k, I 0] [some (.fam alN 3 (famUp alp al.length alm) (famUpF alp (fFeat al) alg))] [] trivial ?_
    refine x_block ?_
    refine x_loop (X := Int × Int × (List Feat)) (fun x => mkS [(0, .row 7411 alp), (1, I x.1), (5, I x.2.1)] [(7411, .fam alN 3 (famUp alp x.2.2.length alm) (famUpF alp (fFeat x.2.2) alg))]) (fun x => (0 ≤ x.2.1 ∧ x.2.1 ≤ (al.length : Int)) ∧ (x.2.2.length = al.length) ∧ (x.1 = k + 3 * x.2.1) ∧ (∀ j : Nat, (j : Int) < x.2.1 → at_ x.2.2 j = ⟨k + 3 * (j : Int), k + 3 * (j : Int) + 1, k + 3 * (j : Int) + 2⟩) ∧ True) (fun x => ((al.length : Int) - x.2.1).toNat) (k, 0, al) rfl (show (0 ≤ (0 : Int) ∧ (0 : Int) ≤ (al.length : Int)) ∧ (al.length = al.length) ∧ (k = k + 3 * (0 : Int)) ∧ (∀ j : Nat, (j : Int) < (0 : Int) → at_ al j = ⟨k + 3 * (j : Int), k + 3 * (j : Int) + 1, k + 3 * (j : Int) + 2⟩) ∧ True from ⟨(by omega), (by rfl), (by omega), (by intro j hj; omega), trivial⟩) (fun x hI => ?_)
    obtain ⟨k', i, ys⟩ := x
    obtain ⟨hi0, hy0, hk1, hy1, _⟩ : (0 ≤ i ∧ i ≤ (al.length : Int)) ∧ (ys.length = al.length) ∧ (k' = k + 3 * i) ∧ (∀ j : Nat, (j : Int) < i → at_ ys j = ⟨k + 3 * (j : Int), k + 3 * (j : Int) + 1, k + 3 * (j : Int) + 2⟩) ∧ True := hI
    show XW _ _ _ _ (mkS [(0, .row 7411 alp), (1, I k'), (5, I i)] [(7411, .fam alN 3 (famUp alp ys.length alm) (famUpF alp (fFeat ys) alg))]) _ _
    refine x_seq ?_
    refine x_seq ?_
    by_cases h1 : i < ((famUp alp ys.length alm alp) : Int)
    ·have hq := h1
     rw [famUp_at] at hq
     have hi : i.toNat < al.length := by omega
     have hiy : i.toNat < ys.length := by omega
     refine x_r [(3, .dec true)] [0, 1, 5, 9] [7411] [.row 7411 alp, I k', I i, Bv true] [some (.fam alN 3 (famUp alp ys.length alm) (famUpF alp (fFeat ys) alg))] [alp < alN, i < ((famUp alp ys.length alm alp) : Int)] ⟨(by omega), h1, trivial⟩ ?_
     refine xe_then ?_
     refine x_true rfl ?_
     refine x_skip ?_
     refine xe_then ?_
     refine x_seq ?_
     refine x_block ?_
     refine xR [] [0, 1, 5] [7411] [.row 7411 alp, I k', I i] [some (.fam alN 3 (famUp alp ys.length alm) (fun q => bif Nat.beq q alp then (fun q => bif Nat.beq q i.toNat then spl ((famUpF alp (fFeat ys) alg) alp i.toNat) 0 [I k'] else (famUpF alp (fFeat ys) alg) alp q) else (famUpF alp (fFeat ys) alg) q))] [alp < alN ∧ (0 : Int) ≤ i ∧ i < ((famUp alp ys.length alm alp) : Int), alp < alN ∧ i.toNat < (famUp alp ys.length alm alp)] ⟨⟨(by omega), (by omega), (by (try simp only [List.length_set, famUp_at]); omega)⟩, ⟨(by omega), (by (try simp only [List.length_set, famUp_at]); omega)⟩, trivial⟩ ?_
     refine x_seq ?_
     refine x_weak [] (T := [(0, .row 7411 alp), (1, I k'), (5, I i)]) (O := [(7411, .fam alN 3 (famUp alp (ys.set i.toNat (Feat.mk k' ((at_ ys i.toNat).Y) ((at_ ys i.toNat).D))).length alm) (famUpF alp (fFeat (ys.set i.toNat (Feat.mk k' ((at_ ys i.toNat).Y) ((at_ ys i.toNat).D)))) alg))]) rfl (⟨.inl rfl, .inl rfl, .inl rfl, trivial⟩) (⟨.inr (fgsetFeat ((by omega)) rfl), trivial⟩) ?_
     refine x_r [] [0, 1, 5] [7411] [.row 7411 alp, I (k' + 1), I i] [some (.fam alN 3 (famUp alp (ys.set i.toNat (Feat.mk k' ((at_ ys i.toNat).Y) ((at_ ys i.toNat).D))).length alm) (famUpF alp (fFeat (ys.set i.toNat (Feat.mk k' ((at_ ys i.toNat).Y) ((at_ ys i.toNat).D)))) alg))] [inR .i64 (k' + 1)] ⟨(inR_i64 (by omega) (by omega)), trivial⟩ ?_
     refine xe_then ?_
     refine xR [] [0, 1, 5] [7411] [.row 7411 alp, I (k' + 1), I i] [some (.fam alN 3 (famUp alp (ys.set i.toNat (Feat.mk k' ((at_ ys i.toNat).Y) ((at_ ys i.toNat).D))).length alm) (fun q => bif Nat.beq q alp then (fun q => bif Nat.beq q i.toNat then spl ((famUpF alp (fFeat (ys.set i.toNat (Feat.mk k' ((at_ ys i.toNat).Y) ((at_ ys i.toNat).D)))) alg) alp i.toNat) 1 [I (k' + 1)] else (famUpF alp (fFeat (ys.set i.toNat (Feat.mk k' ((at_ ys i.toNat).Y) ((at_ ys i.toNat).D)))) alg) alp q) else (famUpF alp (fFeat (ys.set i.toNat (Feat.mk k' ((at_ ys i.toNat).Y) ((at_ ys i.toNat).D)))) alg) q))] [alp < alN ∧ (0 : Int) ≤ i ∧ i < ((famUp alp (ys.set i.toNat (Feat.mk k' ((at_ ys i.toNat).Y) ((at_ ys i.toNat).D))).length alm alp) : Int), alp < alN ∧ i.toNat < (famUp alp (ys.set i.toNat (Feat.mk k' ((at_ ys i.toNat).Y) ((at_ ys i.toNat).D))).length alm alp)] ⟨⟨(by omega), (by omega), (by (try simp only [List.length_set, famUp_at]); omega)⟩, ⟨(by omega), (by (try simp only [List.length_set, famUp_at]); omega)⟩, trivial⟩ ?_
     refine x_seq ?_
     refine x_weak [] (T := [(0, .row 7411 alp), (1, I (k' + 1)), (5, I i)]) (O := [(7411, .fam alN 3 (famUp alp ((ys.set i.toNat (Feat.mk k' ((at_ ys i.toNat).Y) ((at_ ys i.toNat).D))).set i.toNat (Feat.mk ((at_ (ys.set i.toNat (Feat.mk k' ((at_ ys i.toNat).Y) ((at_ ys i.toNat).D))) i.toNat).X) (k' + 1) ((at_ (ys.set i.toNat (Feat.mk k' ((at_ ys i.toNat).Y) ((at_ ys i.toNat).D))) i.toNat).D))).length alm) (famUpF alp (fFeat ((ys.set i.toNat (Feat.mk k' ((at_ ys i.toNat).Y) ((at_ ys i.toNat).D))).set i.toNat (Feat.mk ((at_ (ys.set i.toNat (Feat.mk k' ((at_ ys i.toNat).Y) ((at_ ys i.toNat).D))) i.toNat).X) (k' + 1) ((at_ (ys.set i.toNat (Feat.mk k' ((at_ ys i.toNat).Y) ((at_ ys i.toNat).D))) i.toNat).D)))) alg))]) rfl (⟨.inl rfl, .inl rfl, .inl rfl, trivial⟩) (⟨.inr (fgsetFeat ((by (try simp only [List.length_set, famUp_at]); omega)) rfl), trivial⟩) ?_
     refine x_r [] [0, 1, 5] [7411] [.row 7411 alp, I ((k' + 1) + 1), I i] [some (.fam alN 3 (famUp alp ((ys.set i.toNat (Feat.mk k' ((at_ ys i.toNat).Y) ((at_ ys i.toNat).D))).set i.toNat (Feat.mk ((at_ (ys.set i.toNat (Feat.mk k' ((at_ ys i.toNat).Y) ((at_ ys i.toNat).D))) i.toNat).X) (k' + 1) ((at_ (ys.set i.toNat (Feat.mk k' ((at_ ys i.toNat).Y) ((at_ ys i.toNat).D))) i.toNat).D))).length alm) (famUpF alp (fFeat ((ys.set i.toNat (Feat.mk k' ((at_ ys i.toNat).Y) ((at_ ys i.toNat).D))).set i.toNat (Feat.mk ((at_ (ys.set i.toNat (Feat.mk k' ((at_ ys i.toNat).Y) ((at_ ys i.toNat).D))) i.toNat).X) (k' + 1) ((at_ (ys.set i.toNat (Feat.mk k' ((at_ ys i.toNat).Y) ((at_ ys i.toNat).D))) i.toNat).D)))) alg))] [inR .i64 ((k' + 1) + 1)] ⟨(inR_i64 (by omega) (by omega)), trivial⟩ ?_
     refine xe_then ?_
     refine xR [] [0, 1, 5] [7411] [.row 7411 alp, I ((k' + 1) + 1), I i] [some (.fam alN 3 (famUp alp ((ys.set i.toNat (Feat.mk k' ((at_ ys i.toNat).Y) ((at_ ys i.toNat).D))).set i.toNat (Feat.mk ((at_ (ys.set i.toNat (Feat.mk k' ((at_ ys i.toNat).Y) ((at_ ys i.toNat).D))) i.toNat).X) (k' + 1) ((at_ (ys.set i.toNat (Feat.mk k' ((at_ ys i.toNat).Y) ((at_ ys i.toNat).D))) i.toNat).D))).length alm) (fun q => bif Nat.beq q alp then (fun q => bif Nat.beq q i.toNat then spl ((famUpF alp (fFeat ((ys.set i.toNat (Feat.mk k' ((at_ ys i.toNat).Y) ((at_ ys i.toNat).D))).set i.toNat (Feat.mk ((at_ (ys.set i.toNat (Feat.mk k' ((at_ ys i.toNat).Y) ((at_ ys i.toNat).D))) i.toNat).X) (k' + 1) ((at_ (ys.set i.toNat (Feat.mk k' ((at_ ys i.toNat).Y) ((at_ ys i.toNat).D))) i.toNat).D)))) alg) alp i.toNat) 2 [I ((k' + 1) + 1)] else (famUpF alp (fFeat ((ys.set i.toNat (Feat.mk k' ((at_ ys i.toNat).Y) ((at_ ys i.toNat).D))).set i.toNat (Feat.mk ((at_ (ys.set i.toNat (Feat.mk k' ((at_ ys i.toNat).Y) ((at_ ys i.toNat).D))) i.toNat).X) (k' + 1) ((at_ (ys.set i.toNat (Feat.mk k' ((at_ ys i.toNat).Y) ((at_ ys i.toNat).D))) i.toNat).D)))) alg) alp q) else (famUpF alp (fFeat ((ys.set i.toNat (Feat.mk k' ((at_ ys i.toNat).Y) ((at_ ys i.toNat).D))).set i.toNat (Feat.mk ((at_ (ys.set i.toNat (Feat.mk k' ((at_ ys i.toNat).Y) ((at_ ys i.toNat).D))) i.toNat).X) (k' + 1) ((at_ (ys.set i.toNat (Feat.mk k' ((at_ ys i.toNat).Y) ((at_ ys i.toNat).D))) i.toNat).D)))) alg) q))] [alp < alN ∧ (0 : Int) ≤ i ∧ i < ((famUp alp ((ys.set i.toNat (Feat.mk k' ((at_ ys i.toNat).Y) ((at_ ys i.toNat).D))).set i.toNat (Feat.mk ((at_ (ys.set i.toNat (Feat.mk k' ((at_ ys i.toNat).Y) ((at_ ys i.toNat).D))) i.toNat).X) (k' + 1) ((at_ (ys.set i.toNat (Feat.mk k' ((at_ ys i.toNat).Y) ((at_ ys i.toNat).D))) i.toNat).D))).length alm alp) : Int), alp < alN ∧ i.toNat < (famUp alp ((ys.set i.toNat (Feat.mk k' ((at_ ys i.toNat).Y) ((at_ ys i.toNat).D))).set i.toNat (Feat.mk ((at_ (ys.set i.toNat (Feat.mk k' ((at_ ys i.toNat).Y) ((at_ ys i.toNat).D))) i.toNat).X) (k' + 1) ((at_ (ys.set i.toNat (Feat.mk k' ((at_ ys i.toNat).Y) ((at_ ys i.toNat).D))) i.toNat).D))).length alm alp)] ⟨⟨(by omega), (by omega), (by (try simp only [List.length_set, famUp_at]); omega)⟩, ⟨(by omega), (by (try simp only [List.length_set, famUp_at]); omega)⟩, trivial⟩ ?_
     refine x_weak [] (T := [(0, .row 7411 alp), (1, I ((k' + 1) + 1)), (5, I i)]) (O := [(7411, .fam alN 3 (famUp alp (((ys.set i.toNat (Feat.mk k' ((at_ ys i.toNat).Y) ((at_ ys i.toNat).D))).set i.toNat (Feat.mk ((at_ (ys.set i.toNat (Feat.mk k' ((at_ ys i.toNat).Y) ((at_ ys i.toNat).D))) i.toNat).X) (k' + 1) ((at_ (ys.set i.toNat (Feat.mk k' ((at_ ys i.toNat).Y) ((at_ ys i.toNat).D))) i.toNat).D))).set i.toNat (Feat.mk ((at_ ((ys.set i.toNat (Feat.mk k' ((at_ ys i.toNat).Y) ((at_ ys i.toNat).D))).set i.toNat (Feat.mk ((at_ (ys.set i.toNat (Feat.mk k' ((at_ ys i.toNat).Y) ((at_ ys i.toNat).D))) i.toNat).X) (k' + 1) ((at_ (ys.set i.toNat (Feat.mk k' ((at_ ys i.toNat).Y) ((at_ ys i.toNat).D))) i.toNat).D))) i.toNat).X) ((at_ ((ys.set i.toNat (Feat.mk k' ((at_ ys i.toNat).Y) ((at_ ys i.toNat).D))).set i.toNat (Feat.mk ((at_ (ys.set i.toNat (Feat.mk k' ((at_ ys i.toNat).Y) ((at_ ys i.toNat).D))) i.toNat).X) (k' + 1) ((at_ (ys.set i.toNat (Feat.mk k' ((at_ ys i.toNat).Y) ((at_ ys i.toNat).D))) i.toNat).D))) i.toNat).Y) ((k' + 1) + 1))).length alm) (famUpF alp (fFeat (((ys.set i.toNat (Feat.mk k' ((at_ ys i.toNat).Y) ((at_ ys i.toNat).D))).set i.toNat (Feat.mk ((at_ (ys.set i.toNat (Feat.mk k' ((at_ ys i.toNat).Y) ((at_ ys i.toNat).D))) i.toNat).X) (k' + 1) ((at_ (ys.set i.toNat (Feat.mk k' ((at_ ys i.toNat).Y) ((at_ ys i.toNat).D))) i.toNat).D))).set i.toNat (Feat.mk ((at_ ((ys.set i.toNat (Feat.mk k' ((at_ ys i.toNat).Y) ((at_ ys i.toNat).D))).set i.toNat (Feat.mk ((at_ (ys.set i.toNat (Feat.mk k' ((at_ ys i.toNat).Y) ((at_ ys i.toNat).D))) i.toNat).X) (k' + 1) ((at_ (ys.set i.toNat (Feat.mk k' ((at_ ys i.toNat).Y) ((at_ ys i.toNat).D))) i.toNat).D))) i.toNat).X) ((at_ ((ys.set i.toNat (Feat.mk k' ((at_ ys i.toNat).Y) ((at_ ys i.toNat).D))).set i.toNat (Feat.mk ((at_ (ys.set i.toNat (Feat.mk k' ((at_ ys i.toNat).Y) ((at_ ys i.toNat).D))) i.toNat).X) (k' + 1) ((at_ (ys.set i.toNat (Feat.mk k' ((at_ ys i.toNat).Y) ((at_ ys i.toNat).D))) i.toNat).D))) i.toNat).Y) ((k' + 1) + 1)))) alg))]) rfl (⟨.inl rfl, .inl rfl, .inl rfl, trivial⟩) (⟨.inr (fgsetFeat ((by (try simp only [List.length_set, famUp_at]); omega)) rfl), trivial⟩) ?_
     refine x_r [] [0, 1, 5] [7411] [.row 7411 alp, I (((k' + 1) + 1) + 1), I i] [some (.fam alN 3 (famUp alp (((ys.set i.toNat (Feat.mk k' ((at_ ys i.toNat).Y) ((at_ ys i.toNat).D))).set i.toNat (Feat.mk ((at_ (ys.set i.toNat (Feat.mk k' ((at_ ys i.toNat).Y) ((at_ ys i.toNat).D))) i.toNat).X) (k' + 1) ((at_ (ys.set i.toNat (Feat.mk k' ((at_ ys i.toNat).Y) ((at_ ys i.toNat).D))) i.toNat).D))).set i.toNat (Feat.mk ((at_ ((ys.set i.toNat (Feat.mk k' ((at_ ys i.toNat).Y) ((at_ ys i.toNat).D))).set i.toNat (Feat.mk ((at_ (ys.set i.toNat (Feat.mk k' ((at_ ys i.toNat).Y) ((at_ ys i.toNat).D))) i.toNat).X) (k' + 1) ((at_ (ys.set i.toNat (Feat.mk k' ((at_ ys i.toNat).Y) ((at_ ys i.toNat).D))) i.toNat).D))) i.toNat).X) ((at_ ((ys.set i.toNat (Feat.mk k' ((at_ ys i.toNat).Y) ((at_ ys i.toNat).D))).set i.toNat (Feat.mk ((at_ (ys.set i.toNat (Feat.mk k' ((at_ ys i.toNat).Y) ((at_ ys i.toNat).D))) i.toNat).X) (k' + 1) ((at_ (ys.set i.toNat (Feat.mk k' ((at_ ys i.toNat).Y) ((at_ ys i.toNat).D))) i.toNat).D))) i.toNat).Y) ((k' + 1) + 1))).length alm) (famUpF alp (fFeat (((ys.set i.toNat (Feat.mk k' ((at_ ys i.toNat).Y) ((at_ ys i.toNat).D))).set i.toNat (Feat.mk ((at_ (ys.set i.toNat (Feat.mk k' ((at_ ys i.toNat).Y) ((at_ ys i.toNat).D))) i.toNat).X) (k' + 1) ((at_ (ys.set i.toNat (Feat.mk k' ((at_ ys i.toNat).Y) ((at_ ys i.toNat).D))) i.toNat).D))).set i.toNat (Feat.mk ((at_ ((ys.set i.toNat (Feat.mk k' ((at_ ys i.toNat).Y) ((at_ ys i.toNat).D))).set i.toNat (Feat.mk ((at_ (ys.set i.toNat (Feat.mk k' ((at_ ys i.toNat).Y) ((at_ ys i.toNat).D))) i.toNat).X) (k' + 1) ((at_ (ys.set i.toNat (Feat.mk k' ((at_ ys i.toNat).Y) ((at_ ys i.toNat).D))) i.toNat).D))) i.toNat).X) ((at_ ((ys.set i.toNat (Feat.mk k' ((at_ ys i.toNat).Y) ((at_ ys i.toNat).D))).set i.toNat (Feat.mk ((at_ (ys.set i.toNat (Feat.mk k' ((at_ ys i.toNat).Y) ((at_ ys i.toNat).D))) i.toNat).X) (k' + 1) ((at_ (ys.set i.toNat (Feat.mk k' ((at_ ys i.toNat).Y) ((at_ ys i.toNat).D))) i.toNat).D))) i.toNat).Y) ((k' + 1) + 1)))) alg))] [inR .i64 (((k' + 1) + 1) + 1)] ⟨(inR_i64 (by omega) (by omega)), trivial⟩ ?_
     refine xe_block 1 ?_
     refine xe_then ?_
     refine x_r [] [0, 1, 5] [7411] [.row 7411 alp, I (((k' + 1) + 1) + 1), I (i + 1)] [some (.fam alN 3 (famUp alp (((ys.set i.toNat (Feat.mk k' ((at_ ys i.toNat).Y) ((at_ ys i.toNat).D))).set i.toNat (Feat.mk ((at_ (ys.set i.toNat (Feat.mk k' ((at_ ys i.toNat).Y) ((at_ ys i.toNat).D))) i.toNat).X) (k' + 1) ((at_ (ys.set i.toNat (Feat.mk k' ((at_ ys i.toNat).Y) ((at_ ys i.toNat).D))) i.toNat).D))).set i.toNat (Feat.mk ((at_ ((ys.set i.toNat (Feat.mk k' ((at_ ys i.toNat).Y) ((at_ ys i.toNat).D))).set i.toNat (Feat.mk ((at_ (ys.set i.toNat (Feat.mk k' ((at_ ys i.toNat).Y) ((at_ ys i.toNat).D))) i.toNat).X) (k' + 1) ((at_ (ys.set i.toNat (Feat.mk k' ((at_ ys i.toNat).Y) ((at_ ys i.toNat).D))) i.toNat).D))) i.toNat).X) ((at_ ((ys.set i.toNat (Feat.mk k' ((at_ ys i.toNat).Y) ((at_ ys i.toNat).D))).set i.toNat (Feat.mk ((at_ (ys.set i.toNat (Feat.mk k' ((at_ ys i.toNat).Y) ((at_ ys i.toNat).D))) i.toNat).X) (k' + 1) ((at_ (ys.set i.toNat (Feat.mk k' ((at_ ys i.toNat).Y) ((at_ ys i.toNat).D))) i.toNat).D))) i.toNat).Y) ((k' + 1) + 1))).length alm) (famUpF alp (fFeat (((ys.set i.toNat (Feat.mk k' ((at_ ys i.toNat).Y) ((at_ ys i.toNat).D))).set i.toNat (Feat.mk ((at_ (ys.set i.toNat (Feat.mk k' ((at_ ys i.toNat).Y) ((at_ ys i.toNat).D))) i.toNat).X) (k' + 1) ((at_ (ys.set i.toNat (Feat.mk k' ((at_ ys i.toNat).Y) ((at_ ys i.toNat).D))) i.toNat).D))).set i.toNat (Feat.mk ((at_ ((ys.set i.toNat (Feat.mk k' ((at_ ys i.toNat).Y) ((at_ ys i.toNat).D))).set i.toNat (Feat.mk ((at_ (ys.set i.toNat (Feat.mk k' ((at_ ys i.toNat).Y) ((at_ ys i.toNat).D))) i.toNat).X) (k' + 1) ((at_ (ys.set i.toNat (Feat.mk k' ((at_ ys i.toNat).Y) ((at_ ys i.toNat).D))) i.toNat).D))) i.toNat).X) ((at_ ((ys.set i.toNat (Feat.mk k' ((at_ ys i.toNat).Y) ((at_ ys i.toNat).D))).set i.toNat (Feat.mk ((at_ (ys.set i.toNat (Feat.mk k' ((at_ ys i.toNat).Y) ((at_ ys i.toNat).D))) i.toNat).X) (k' + 1) ((at_ (ys.set i.toNat (Feat.mk k' ((at_ ys i.toNat).Y) ((at_ ys i.toNat).D))) i.toNat).D))) i.toNat).Y) ((k' + 1) + 1)))) alg))] [inR .i64 (i + 1)] ⟨(inR_i64 (by omega) (by omega)), trivial⟩ ?_
     exact xe_again ((((k' + 1) + 1) + 1), (i + 1), (((ys.set i.toNat (Feat.mk k' ((at_ ys i.toNat).Y) ((at_ ys i.toNat).D))).set i.toNat (Feat.mk ((at_ (ys.set i.toNat (Feat.mk k' ((at_ ys i.toNat).Y) ((at_ ys i.toNat).D))) i.toNat).X) (k' + 1) ((at_ (ys.set i.toNat (Feat.mk k' ((at_ ys i.toNat).Y) ((at_ ys i.toNat).D))) i.toNat).D))).set i.toNat (Feat.mk ((at_ ((ys.set i.toNat (Feat.mk k' ((at_ ys i.toNat).Y) ((at_ ys i.toNat).D))).set i.toNat (Feat.mk ((at_ (ys.set i.toNat (Feat.mk k' ((at_ ys i.toNat).Y) ((at_ ys i.toNat).D))) i.toNat).X) (k' + 1) ((at_ (ys.set i.toNat (Feat.mk k' ((at_ ys i.toNat).Y) ((at_ ys i.toNat).D))) i.toNat).D))) i.toNat).X) ((at_ ((ys.set i.toNat (Feat.mk k' ((at_ ys i.toNat).Y) ((at_ ys i.toNat).D))).set i.toNat (Feat.mk ((at_ (ys.set i.toNat (Feat.mk k' ((at_ ys i.toNat).Y) ((at_ ys i.toNat).D))) i.toNat).X) (k' + 1) ((at_ (ys.set i.toNat (Feat.mk k' ((at_ ys i.toNat).Y) ((at_ ys i.toNat).D))) i.toNat).D))) i.toNat).Y) ((k' + 1) + 1)))) rfl (show (0 ≤ (i + 1) ∧ (i + 1) ≤ (al.length : Int)) ∧ ((((ys.set i.toNat (Feat.mk k' ((at_ ys i.toNat).Y) ((at_ ys i.toNat).D))).set i.toNat (Feat.mk ((at_ (ys.set i.toNat (Feat.mk k' ((at_ ys i.toNat).Y) ((at_ ys i.toNat).D))) i.toNat).X) (k' + 1) ((at_ (ys.set i.toNat (Feat.mk k' ((at_ ys i.toNat).Y) ((at_ ys i.toNat).D))) i.toNat).D))).set i.toNat (Feat.mk ((at_ ((ys.set i.toNat (Feat.mk k' ((at_ ys i.toNat).Y) ((at_ ys i.toNat).D))).set i.toNat (Feat.mk ((at_ (ys.set i.toNat (Feat.mk k' ((at_ ys i.toNat).Y) ((at_ ys i.toNat).D))) i.toNat).X) (k' + 1) ((at_ (ys.set i.toNat (Feat.mk k' ((at_ ys i.toNat).Y) ((at_ ys i.toNat).D))) i.toNat).D))) i.toNat).X) ((at_ ((ys.set i.toNat (Feat.mk k' ((at_ ys i.toNat).Y) ((at_ ys i.toNat).D))).set i.toNat (Feat.mk ((at_ (ys.set i.toNat (Feat.mk k' ((at_ ys i.toNat).Y) ((at_ ys i.toNat).D))) i.toNat).X) (k' + 1) ((at_ (ys.set i.toNat (Feat.mk k' ((at_ ys i.toNat).Y) ((at_ ys i.toNat).D))) i.toNat).D))) i.toNat).Y) ((k' + 1) + 1))).length = al.length) ∧ ((((k' + 1) + 1) + 1) = k + 3 * (i + 1)) ∧ (∀ j : Nat, (j : Int) < (i + 1) → at_ (((ys.set i.toNat (Feat.mk k' ((at_ ys i.toNat).Y) ((at_ ys i.toNat).D))).set i.toNat (Feat.mk ((at_ (ys.set i.toNat (Feat.mk k' ((at_ ys i.toNat).Y) ((at_ ys i.toNat).D))) i.toNat).X) (k' + 1) ((at_ (ys.set i.toNat (Feat.mk k' ((at_ ys i.toNat).Y) ((at_ ys i.toNat).D))) i.toNat).D))).set i.toNat (Feat.mk ((at_ ((ys.set i.toNat (Feat.mk k' ((at_ ys i.toNat).Y) ((at_ ys i.toNat).D))).set i.toNat (Feat.mk ((at_ (ys.set i.toNat (Feat.mk k' ((at_ ys i.toNat).Y) ((at_ ys i.toNat).D))) i.toNat).X) (k' + 1) ((at_ (ys.set i.toNat (Feat.mk k' ((at_ ys i.toNat).Y) ((at_ ys i.toNat).D))) i.toNat).D))) i.toNat).X) ((at_ ((ys.set i.toNat (Feat.mk k' ((at_ ys i.toNat).Y) ((at_ ys i.toNat).D))).set i.toNat (Feat.mk ((at_ (ys.set i.toNat (Feat.mk k' ((at_ ys i.toNat).Y) ((at_ ys i.toNat).D))) i.toNat).X) (k' + 1) ((at_ (ys.set i.toNat (Feat.mk k' ((at_ ys i.toNat).Y) ((at_ ys i.toNat).D))) i.toNat).D))) i.toNat).Y) ((k' + 1) + 1))) j = ⟨k + 3 * (j : Int), k + 3 * (j : Int) + 1, k + 3 * (j : Int) + 2⟩) ∧ True from ⟨(by omega), (by simp; omega), (by omega), (by simp only [List.set_set, at_setQ hiy]; exact mk_next hi0.1 hiy hy1 (by simp only [Feat.mk.injEq]; omega)), trivial⟩) (by first | (show (((al.length : Int) - (i + 1)).toNat : Nat) < ((al.length : Int) - i).toNat; omega) | (dsimp only; omega))
    have hq := h1
    rw [famUp_at] at hq
    refine x_r [(3, .dec false)] [0, 1, 5, 9] [7411] [.row 7411 alp, I k', I i, Bv false] [some (.fam alN 3 (famUp alp ys.length alm) (famUpF alp (fFeat ys) alg))] [alp < alN, ¬ (i < ((famUp alp ys.length alm alp) : Int))] ⟨(by omega), h1, trivial⟩ ?_
    refine xe_then ?_
    refine x_false rfl ?_
    refine x_exit ?_
    refine xe_exit_then ?_
    refine xe_loop_exit ?_
    refine xe_exit_same ?_
    refine xe_then ?_
    refine xR [] [4] [7411] [I k'] [some (.fam alN 3 (famUp alp ys.length alm) (famUpF alp (fFeat ys) alg))] [] trivial ?_
    refine x_ret ?_
    refine xe_end (k', ys) (show (k' = k + 3 * (al.length : Int)) ∧ (ys = mkL k al.length) ∧ (True) from ⟨(by first | omega | exact ext_at (by rw [hy0, mkL_len]) (fun j hj => by rw [hy1 j (by omega), mkL_at (by omega)])), (by first | omega | exact ext_at (by rw [hy0, mkL_len]) (fun j hj => by rw [hy1 j (by omega), mkL_at (by omega)])), trivial⟩) (⟨.inl rfl, trivial⟩) (I k') (by kernel_rfl) (.inl rfl) (fun _ => rfl) (fun _ => trivial)
  obtain ⟨⟨v, al'⟩, ⟨hh0, hh1, _⟩, hc⟩ := hh
  exact ⟨v, al', hh0, hh1, hc⟩

theorem markRow7412_ok (al : List Feat) (alN : Nat) (alm : Nat → Nat) (alg : Nat → Nat → List AV) (alp : Nat) (k : Int) (hk : 0 ≤ k ∧ k ≤ 100000000 ∧ al.length ≤ 2000000 ∧ alp < alN) : ∃ (v : Int) (al' : List Feat), (v = k + 3 * (al.length : Int)) ∧ (al' = mkL k al.length) ∧ CallOK Try.prog 49 [.row 7412 alp, I k] (lookO [(7412, .fam alN 3 (famUp alp al.length alm) (famUpF alp (fFeat al) alg))]) true (I v) (lookO [(7412, .fam alN 3 (famUp alp al'.length alm) (famUpF alp (fFeat al') alg))]) := by
  have hh : ∃ r : Int × (List Feat), ((r.1 = k + 3 * (al.length : Int)) ∧ (r.2 = mkL k al.length) ∧ (True)) ∧ CallOK Try.prog 49 [.row 7412 alp, I k] (lookO [(7412, .fam alN 3 (famUp alp al.length alm) (famUpF alp (fFeat al) alg))]) true (I r.1) (lookO [(7412, .fam alN 3 (famUp alp r.2.length alm) (famUpF alp (fFeat r.2) alg))]) := by
    refine fn_okX (Φ := fun r : Int × (List Feat) => (r.1 = k + 3 * (al.length : Int)) ∧ (r.2 = mkL k al.length) ∧ (True)) [(7412, .fam alN 3 (famUp alp al.length alm) (famUpF alp (fFeat al) alg))] (fun r => [(7412, .fam alN 3 (famUp alp r.2.length alm) (famUpF alp (fFeat r.2) alg))]) (fn := Try.f49) (nt := 34) Try.func49 rfl rfl (args := [.row 7412 alp, I k]) rfl (allcons (.inr (by simp [tagged, taggedL])) (allcons (.inl ⟨rfl, trivial⟩) allnil)) (res := fun r => I r.1) ?_
    refine xR [] [0, 1] [7412] [.row 7412 alp, I k] [some (.fam alN 3 (famUp alp al.length alm) (famUpF alp (fFeat al) alg))] [] trivial ?_
    refine x_seq ?_
    refine xR [] [0, 1, 5] [7412] [.row 7412 alp, I k, I 0] [some (.fam alN 3 (famUp alp al.length alm) (famUpF alp (fFeat al) alg))] [] trivial ?_
    refine x_block ?_
    refine x_loop (X := Int × Int × (List Feat)) (fun x => mkS [(0, .row 7412 alp), (1, I x.1), (5, I x.2.1)] [(7412, .fam alN 3 (famUp alp x.2.2.length alm) (famUpF alp (fFeat x.2.2) alg))]) (fun x => (0 ≤ x.2.1 ∧ x.2.1 ≤ (al.length : Int)) ∧ (x.2.2.length = al.length) ∧ (x.1 = k + 3 * x.2.1) ∧ (∀ j : Nat, (j : Int) < x.2.1 → at_ x.2.2 j = ⟨k + 3 * (j : Int), k + 3 * (j : Int) + 1, k + 3 * (j : Int) + 2⟩) ∧ True) (fun x => ((al.length : Int) - x.2.1).toNat) (k, 0, al) rfl (show (0 ≤ (0 : Int) ∧ (0 : Int) ≤ (al.length : Int)) ∧ (al.length = al.length) ∧ (k = k + 3 * (0 : Int)) ∧ (∀ j : Nat, (j : Int) < (0 : Int) → at_ al j = ⟨k + 3 * (j : Int), k + 3 * (j : Int) + 1, k + 3 * (j : Int) + 2⟩) ∧ True from ⟨(by omega), (by rfl), (by omega), (by intro j hj; omega), trivial⟩) (fun x hI => ?_)
    obtain ⟨k', i, ys⟩ := x
    obtain ⟨hi0, hy0, hk1, hy1, _⟩ : (0 ≤ i ∧ i ≤ (al.length : Int)) ∧ (ys.length = al.length) ∧ (k' = k + 3 * i) ∧ (∀ j : Nat, (j : Int) < i → at_ ys j = ⟨k + 3 * (j : Int), k + 3 * (j : Int) + 1, k + 3 * (j : Int) + 2⟩) ∧ True := hI
    show XW _ _ _ _ (mkS [(0, .row 7412 alp), (1, I k'), (5, I i)] [(7412, .fam alN 3 (famUp alp ys.length alm) (famUpF alp (fFeat ys) alg))]) _ _
    refine x_seq ?_
    refine x_seq ?_
    by_cases h1 : i < ((famUp alp ys.length alm alp) : Int)
    ·have hq := h1
     rw [famUp_at] at hq
     have hi : i.toNat < al.length := by omega
     have hiy : i.toNat < ys.length := by omega
     refine x_r [(3, .dec true)] [0, 1, 5, 9] [7412] [.row 7412 alp, I k', I i, Bv true] [some (.fam alN 3 (famUp alp ys.length alm) (famUpF alp (fFeat ys) alg))] [alp < alN, i < ((famUp alp ys.length alm alp) : Int)] ⟨(by omega), h1, trivial⟩ ?_
     refine xe_then ?_
     refine x_true rfl ?_
     refine x_skip ?_
     refine xe_then ?_
     refine x_seq ?_
     refine x_block ?_
     refine xR [] [0, 1, 5] [7412] [.row 7412 alp, I k', I i] [some (.fam alN 3 (famUp alp ys.length alm) (fun q => bif Nat.beq q alp then (fun q => bif Nat.beq q i.toNat then spl ((famUpF alp (fFeat ys) alg) alp i.toNat) 0 [I k'] else (famUpF alp (fFeat ys) alg) alp q) else (famUpF alp (fFeat ys) alg) q))] [alp < alN ∧ (0 : Int) ≤ i ∧ i < ((famUp alp ys.length alm alp) : Int), alp < alN ∧ i.toNat < (famUp alp ys.length alm alp)] ⟨⟨(by omega), (by omega), (by (try simp only [List.length_set, famUp_at]); omega)⟩, ⟨(by omega), (by (try simp only [List.length_set, famUp_at]); omega)⟩, trivial⟩ ?_
     refine x_seq ?_
     refine x_weak [] (T := [(0, .row 7412 alp), (1, I k'), (5, I i)]) (O := [(7412, .fam alN 3 (famUp alp (ys.set i.toNat (Feat.mk k' ((at_ ys i.toNat).Y) ((at_ ys i.toNat).D))).length alm) (famUpF alp (fFeat (ys.set i.toNat (Feat.mk k' ((at_ ys i.toNat).Y) ((at_ ys i.toNat).D)))) alg))]) rfl (⟨.inl rfl, .inl rfl, .inl rfl, trivial⟩) (⟨.inr (fgsetFeat ((by omega)) rfl), trivial⟩) ?_
     refine x_r [] [0, 1, 5] [7412] [.row 7412 alp, I (k' + 1), I i] [some (.fam alN 3 (famUp alp (ys.set i.toNat (Feat.mk k' ((at_ ys i.toNat).Y) ((at_ ys i.toNat).D))).length alm) (famUpF alp (fFeat (ys.set i.toNat (Feat.mk k' ((at_ ys i.toNat).Y) ((at_ ys i.toNat).D)))) alg))] [inR .i64 (k' + 1)] ⟨(inR_i64 (by omega) (by omega)), trivial⟩ ?_
     refine xe_then ?_
     refine xR [] [0, 1, 5] [7412] [.row 7412 alp, I (k' + 1), I i] [some (.fam alN 3 (famUp alp (ys.set i.toNat (Feat.mk k' ((at_ ys i.toNat).Y) ((at_ ys i.toNat).D))).length alm) (fun q => bif Nat.beq q alp then (fun q => bif Nat.beq q i.toNat then spl ((famUpF alp (fFeat (ys.set i.toNat (Feat.mk k' ((at_ ys i.toNat).Y) ((at_ ys i.toNat).D)))) alg) alp i.toNat) 1 [I (k' + 1)] else (famUpF alp (fFeat (ys.set i.toNat (Feat.mk k' ((at_ ys i.toNat).Y) ((at_ ys i.toNat).D)))) alg) alp q) else (famUpF alp (fFeat (ys.set i.toNat (Feat.mk k' ((at_ ys i.toNat).Y) ((at_ ys i.toNat).D)))) alg) q))] [alp < alN ∧ (0 : Int) ≤ i ∧ i < ((famUp alp (ys.set i.toNat (Feat.mk k' ((at_ ys i.toNat).Y) ((at_ ys i.toNat).D))).length alm alp) : Int), alp < alN ∧ i.toNat < (famUp alp (ys.set i.toNat (Feat.mk k' ((at_ ys i.toNat).Y) ((at_ ys i.toNat).D))).length alm alp)] ⟨⟨(by omega), (by omega), (by (try simp only [List.length_set, famUp_at]); omega)⟩, ⟨(by omega), (by (try simp only [List.length_set, famUp_at]); omega)⟩, trivial⟩ ?_
     refine x_seq ?_
     refine x_weak [] (T := [(0, .row 7412 alp), (1, I (k' + 1)), (5, I i)]) (O := [(7412, .fam alN 3 (famUp alp ((ys.set i.toNat (Feat.mk k' ((at_ ys i.toNat).Y) ((at_ ys i.toNat).D))).set i.toNat (Feat.mk ((at_ (ys.set i.toNat (Feat.mk k' ((at_ ys i.toNat).Y) ((at_ ys i.toNat).D))) i.toNat).X) (k' + 1) ((at_ (ys.set i.toNat (Feat.mk k' ((at_ ys i.toNat).Y) ((at_ ys i.toNat).D))) i.toNat).D))).length alm) (famUpF alp (fFeat ((ys.set i.toNat (Feat.mk k' ((at_ ys i.toNat).Y) ((at_ ys i.toNat).D))).set i.toNat (Feat.mk ((at_ (ys.set i.toNat (Feat.mk k' ((at_ ys i.toNat).Y) ((at_ ys i.toNat).D))) i.toNat).X) (k' + 1) ((at_ (ys.set i.toNat (Feat.mk k' ((at_ ys i.toNat).Y) ((at_ ys i.toNat).D))) i.toNat).D)))) alg))]) rfl (⟨.inl rfl, .inl rfl, .inl rfl, trivial⟩) (⟨.inr (fgsetFeat ((by (try simp only [List.length_set, famUp_at]); omega)) rfl), trivial⟩) ?_
     refine x_r [] [0, 1, 5] [7412] [.row 7412 alp, I ((k' + 1) + 1), I i] [some (.fam alN 3 (famUp alp ((ys.set i.toNat (Feat.mk k' ((at_ ys i.toNat).Y) ((at_ ys i.toNat).D))).set i.toNat (Feat.mk ((at_ (ys.set i.toNat (Feat.mk k' ((at_ ys i.toNat).Y) ((at_ ys i.toNat).D))) i.toNat).X) (k' + 1) ((at_ (ys.set i.toNat (Feat.mk k' ((at_ ys i.toNat).Y) ((at_ ys i.toNat).D))) i.toNat).D))).length alm) (famUpF alp (fFeat ((ys.set i.toNat (Feat.mk k' ((at_ ys i.toNat).Y) ((at_ ys i.toNat).D))).set i.toNat (Feat.mk ((at_ (ys.set i.toNat (Feat.mk k' ((at_ ys i.toNat).Y) ((at_ ys i.toNat).D))) i.toNat).X) (k' + 1) ((at_ (ys.set i.toNat (Feat.mk k' ((at_ ys i.toNat).Y) ((at_ ys i.toNat).D))) i.toNat).D)))) alg))] [inR .i64 ((k' + 1) + 1)] ⟨(inR_i64 (by omega) (by omega)), trivial⟩ ?_
     refine xe_then ?_
     refine xR [] [0, 1, 5] [7412] [.row 7412 alp, I ((k' + 1) + 1), I i] [some (.fam alN 3 (famUp alp ((ys.set i.toNat (Feat.mk k' ((at_ ys i.toNat).Y) ((at_ ys i.toNat).D))).set i.toNat (Feat.mk ((at_ (ys.set i.toNat (Feat.mk k' ((at_ ys i.toNat).Y) ((at_ ys i.toNat).D))) i.toNat).X) (k' + 1) ((at_ (ys.set i.toNat (Feat.mk k' ((at_ ys i.toNat).Y) ((at_ ys i.toNat).D))) i.toNat).D))).length alm) (fun q => bif Nat.beq q alp then (fun q => bif Nat.beq q i.toNat then spl ((famUpF alp (fFeat ((ys.set i.toNat (Feat.mk k' ((at_ ys i.toNat).Y) ((at_ ys i.toNat).D))).set i.toNat (Feat.mk ((at_ (ys.set i.toNat (Feat.mk k' ((at_ ys i.toNat).Y) ((at_ ys i.toNat).D))) i.toNat).X) (k' + 1) ((at_ (ys.set i.toNat (Feat.mk k' ((at_ ys i.toNat).Y) ((at_ ys i.toNat).D))) i.toNat).D)))) alg) alp i.toNat) 2 [I ((k' + 1) + 1)] else (famUpF alp (fFeat ((ys.set i.toNat (Feat.mk k' ((at_ ys i.toNat).Y) ((at_ ys i.toNat).D))).set i.toNat (Feat.mk ((at_ (ys.set i.toNat (Feat.mk k' ((at_ ys i.toNat).Y) ((at_ ys i.toNat).D))) i.toNat).X) (k' + 1) ((at_ (ys.set i.toNat (Feat.mk k' ((at_ ys i.toNat).Y) ((at_ ys i.toNat).D))) i.toNat).D)))) alg) alp q) else (famUpF alp (fFeat ((ys.set i.toNat (Feat.mk k' ((at_ ys i.toNat).Y) ((at_ ys i.toNat).D))).set i.toNat (Feat.mk ((at_ (ys.set i.toNat (Feat.mk k' ((at_ ys i.toNat).Y) ((at_ ys i.toNat).D))) i.toNat).X) (k' + 1) ((at_ (ys.set i.toNat (Feat.mk k' ((at_ ys i.toNat).Y) ((at_ ys i.toNat).D))) i.toNat).D)))) alg) q))] [alp < alN ∧ (0 : Int) ≤ i ∧ i < ((famUp alp ((ys.set i.toNat (Feat.mk k' ((at_ ys i.toNat).Y) ((at_ ys i.toNat).D))).set i.toNat (Feat.mk ((at_ (ys.set i.toNat (Feat.mk k' ((at_ ys i.toNat).Y) ((at_ ys i.toNat).D))) i.toNat).X) (k' + 1) ((at_ (ys.set i.toNat (Feat.mk k' ((at_ ys i.toNat).Y) ((at_ ys i.toNat).D))) i.toNat).D))).length alm alp) : Int), alp < alN ∧ i.toNat < (famUp alp ((ys.set i.toNat (Feat.mk k' ((at_ ys i.toNat).Y) ((at_ ys i.toNat).D))).set i.toNat (Feat.mk ((at_ (ys.set i.toNat (Feat.mk k' ((at_ ys i.toNat).Y) ((at_ ys i.toNat).D))) i.toNat).X) (k' + 1) ((at_ (ys.set i.toNat (Feat.mk k' ((at_ ys i.toNat).Y) ((at_ ys i.toNat).D))) i.toNat).D))).length alm alp)] ⟨⟨(by omega), (by omega), (by (try simp only [List.length_set, famUp_at]); omega)⟩, ⟨(by omega), (by (try simp only [List.length_set, famUp_at]); omega)⟩, trivial⟩ ?_
     refine x_weak [] (T := [(0, .row 7412 alp), (1, I ((k' + 1) + 1)), (5, I i)]) (O := [(7412, .fam alN 3 (famUp alp (((ys.set i.toNat (Feat.mk k' ((at_ ys i.toNat).Y) ((at_ ys i.toNat).D))).set i.toNat (Feat.mk ((at_ (ys.set i.toNat (Feat.mk k' ((at_ ys i.toNat).Y) ((at_ ys i.toNat).D))) i.toNat).X) (k' + 1) ((at_ (ys.set i.toNat (Feat.mk k' ((at_ ys i.toNat).Y) ((at_ ys i.toNat).D))) i.toNat).D))).set i.toNat (Feat.mk ((at_ ((ys.set i.toNat (Feat.mk k' ((at_ ys i.toNat).Y) ((at_ ys i.toNat).D))).set i.toNat (Feat.mk ((at_ (ys.set i.toNat (Feat.mk k' ((at_ ys i.toNat).Y) ((at_ ys i.toNat).D))) i.toNat).X) (k' + 1) ((at_ (ys.set i.toNat (Feat.mk k' ((at_ ys i.toNat).Y) ((at_ ys i.toNat).D))) i.toNat).D))) i.toNat).X) ((at_ ((ys.set i.toNat (Feat.mk k' ((at_ ys i.toNat).Y) ((at_ ys i.toNat).D))).set i.toNat (Feat.mk ((at_ (ys.set i.toNat (Feat.mk k' ((at_ ys i.toNat).Y) ((at_ ys i.toNat).D))) i.toNat).X) (k' + 1) ((at_ (ys.set i.toNat (Feat.mk k' ((at_ ys i.toNat).Y) ((at_ ys i.toNat).D))) i.toNat).D))) i.toNat).Y) ((k' + 1) + 1))).length alm) (famUpF alp (fFeat (((ys.set i.toNat (Feat.mk k' ((at_ ys i.toNat).Y) ((at_ ys i.toNat).D))).set i.toNat (Feat.mk ((at_ (ys.set i.toNat (Feat.mk k' ((at_ ys i.toNat).Y) ((at_ ys i.toNat).D))) i.toNat).X) (k' + 1) ((at_ (ys.set i.toNat (Feat.mk k' ((at_ ys i.toNat).Y) ((at_ ys i.toNat).D))) i.toNat).D))).set i.toNat (Feat.mk ((at_ ((ys.set i.toNat (Feat.mk k' ((at_ ys i.toNat).Y) ((at_ ys i.toNat).D))).set i.toNat (Feat.mk ((at_ (ys.set i.toNat (Feat.mk k' ((at_ ys i.toNat).Y) ((at_ ys i.toNat).D))) i.toNat).X) (k' + 1) ((at_ (ys.set i.toNat (Feat.mk k' ((at_ ys i.toNat).Y) ((at_ ys i.toNat).D))) i.toNat).D))) i.toNat).X) ((at_ ((ys.set i.toNat (Feat.mk k' ((at_ ys i.toNat).Y) ((at_ ys i.toNat).D))).set i.toNat (Feat.mk ((at_ (ys.set i.toNat (Feat.mk k' ((at_ ys i.toNat).Y) ((at_ ys i.toNat).D))) i.toNat).X) (k' + 1) ((at_ (ys.set i.toNat (Feat.mk k' ((at_ ys i.toNat).Y) ((at_ ys i.toNat).D))) i.toNat).D))) i.toNat).Y) ((k' + 1) + 1)))) alg))]) rfl (⟨.inl rfl, .inl rfl, .inl rfl, trivial⟩) (⟨.inr (fgsetFeat ((by (try simp only [List.length_set, famUp_at]); omega)) rfl), trivial⟩) ?_
     refine x_r [] [0, 1, 5] [7412] [.row 7412 alp, I (((k' + 1) + 1) + 1), I i] [some (.fam alN 3 (famUp alp (((ys.set i.toNat (Feat.mk k' ((at_ ys i.toNat).Y) ((at_ ys i.toNat).D))).set i.toNat (Feat.mk ((at_ (ys.set i.toNat (Feat.mk k' ((at_ ys i.toNat).Y) ((at_ ys i.toNat).D))) i.toNat).X) (k' + 1) ((at_ (ys.set i.toNat (Feat.mk k' ((at_ ys i.toNat).Y) ((at_ ys i.toNat).D))) i.toNat).D))).set i.toNat (Feat.mk ((at_ ((ys.set i.toNat (Feat.mk k' ((at_ ys i.toNat).Y) ((at_ ys i.toNat).D))).set i.toNat (Feat.mk ((at_ (ys.set i.toNat (Feat.mk k' ((at_ ys i.toNat).Y) ((at_ ys i.toNat).D))) i.toNat).X) (k' + 1) ((at_ (ys.set i.toNat (Feat.mk k' ((at_ ys i.toNat).Y) ((at_ ys i.toNat).D))) i.toNat).D))) i.toNat).X) ((at_ ((ys.set i.toNat (Feat.mk k' ((at_ ys i.toNat).Y) ((at_ ys i.toNat).D))).set i.toNat (Feat.mk ((at_ (ys.set i.toNat (Feat.mk k' ((at_ ys i.toNat).Y) ((at_ ys i.toNat).D))) i.toNat).X) (k' + 1) ((at_ (ys.set i.toNat (Feat.mk k' ((at_ ys i.toNat).Y) ((at_ ys i.toNat).D))) i.toNat).D))) i.toNat).Y) ((k' + 1) + 1))).length alm) (famUpF alp (fFeat (((ys.set i.toNat (Feat.mk k' ((at_ ys i.toNat).Y) ((at_ ys i.toNat).D))).set i.toNat (Feat.mk ((at_ (ys.set i.toNat (Feat.mk k' ((at_ ys i.toNat).Y) ((at_ ys i.toNat).D))) i.toNat).X) (k' + 1) ((at_ (ys.set i.toNat (Feat.mk k' ((at_ ys i.toNat).Y) ((at_ ys i.toNat).D))) i.toNat).D))).set i.toNat (Feat.mk ((at_ ((ys.set i.toNat (Feat.mk k' ((at_ ys i.toNat).Y) ((at_ ys i.toNat).D))).set i.toNat (Feat.mk ((at_ (ys.set i.toNat (Feat.mk k' ((at_ ys i.toNat).Y) ((at_ ys i.toNat).D))) i.toNat).X) (k' + 1) ((at_ (ys.set i.toNat (Feat.mk k' ((at_ ys i.toNat).Y) ((at_ ys i.toNat).D))) i.toNat).D))) i.toNat).X) ((at_ ((ys.set i.toNat (Feat.mk k' ((at_ ys i.toNat).Y) ((at_ ys i.toNat).D))).set i.toNat (Feat.mk ((at_ (ys.set i.toNat (Feat.mk k' ((at_ ys i.toNat).Y) ((at_ ys i.toNat).D))) i.toNat).X) (k' + 1) ((at_ (ys.set i.toNat (Feat.mk k' ((at_ ys i.toNat).Y) ((at_ ys i.toNat).D))) i.toNat).D))) i.toNat).Y) ((k' + 1) + 1)))) alg))] [inR .i64 (((k' + 1) + 1) + 1)] ⟨(inR_i64 (by omega) (by omega)), trivial⟩ ?_
     refine xe_block 1 ?_
     refine xe_then ?_
     refine x_r [] [0, 1, 5] [7412] [.row 7412 alp, I (((k' + 1) + 1) + 1), I (i + 1)] [some (.fam alN 3 (famUp alp (((ys.set i.toNat (Feat.mk k' ((at_ ys i.toNat).Y) ((at_ ys i.toNat).D))).set i.toNat (Feat.mk ((at_ (ys.set i.toNat (Feat.mk k' ((at_ ys i.toNat).Y) ((at_ ys i.toNat).D))) i.toNat).X) (k' + 1) ((at_ (ys.set i.toNat (Feat.mk k' ((at_ ys i.toNat).Y) ((at_ ys i.toNat).D))) i.toNat).D))).set i.toNat (Feat.mk ((at_ ((ys.set i.toNat (Feat.mk k' ((at_ ys i.toNat).Y) ((at_ ys i.toNat).D))).set i.toNat (Feat.mk ((at_ (ys.set i.toNat (Feat.mk k' ((at_ ys i.toNat).Y) ((at_ ys i.toNat).D))) i.toNat).X) (k' + 1) ((at_ (ys.set i.toNat (Feat.mk k' ((at_ ys i.toNat).Y) ((at_ ys i.toNat).D))) i.toNat).D))) i.toNat).X) ((at_ ((ys.set i.toNat (Feat.mk k' ((at_ ys i.toNat).Y) ((at_ ys i.toNat).D))).set i.toNat (Feat.mk ((at_ (ys.set i.toNat (Feat.mk k' ((at_ ys i.toNat).Y) ((at_ ys i.toNat).D))) i.toNat).X) (k' + 1) ((at_ (ys.set i.toNat (Feat.mk k' ((at_ ys i.toNat).Y) ((at_ ys i.toNat).D))) i.toNat).D))) i.toNat).Y) ((k' + 1) + 1))).length alm) (famUpF alp (fFeat (((ys.set i.toNat (Feat.mk k' ((at_ ys i.toNat).Y) ((at_ ys i.toNat).D))).set i.toNat (Feat.mk ((at_ (ys.set i.toNat (Feat.mk k' ((at_ ys i.toNat).Y) ((at_ ys i.toNat).D))) i.toNat).X) (k' + 1) ((at_ (ys.set i.toNat (Feat.mk k' ((at_ ys i.toNat).Y) ((at_ ys i.toNat).D))) i.toNat).D))).set i.toNat (Feat.mk ((at_ ((ys.set i.toNat (Feat.mk k' ((at_ ys i.toNat).Y) ((at_ ys i.toNat).D))).set i.toNat (Feat.mk ((at_ (ys.set i.toNat (Feat.mk k' ((at_ ys i.toNat).Y) ((at_ ys i.toNat).D))) i.toNat).X) (k' + 1) ((at_ (ys.set i.toNat (Feat.mk k' ((at_ ys i.toNat).Y) ((at_ ys i.toNat).D))) i.toNat).D))) i.toNat).X) ((at_ ((ys.set i.toNat (Feat.mk k' ((at_ ys i.toNat).Y) ((at_ ys i.toNat).D))).set i.toNat (Feat.mk ((at_ (ys.set i.toNat (Feat.mk k' ((at_ ys i.toNat).Y) ((at_ ys i.toNat).D))) i.toNat).X) (k' + 1) ((at_ (ys.set i.toNat (Feat.mk k' ((at_ ys i.toNat).Y) ((at_ ys i.toNat).D))) i.toNat).D))) i.toNat).Y) ((k' + 1) + 1)))) alg))] [inR .i64 (i + 1)] ⟨(inR_i64 (by omega) (by omega)), trivial⟩ ?_
     exact xe_again ((((k' + 1) + 1) + 1), (i + 1), (((ys.set i.toNat (Feat.mk k' ((at_ ys i.toNat).Y) ((at_ ys i.toNat).D))).set i.toNat (Feat.mk ((at_ (ys.set i.toNat (Feat.mk k' ((at_ ys i.toNat).Y) ((at_ ys i.toNat).D))) i.toNat).X) (k' + 1) ((at_ (ys.set i.toNat (Feat.mk k' ((at_ ys i.toNat).Y) ((at_ ys i.toNat).D))) i.toNat).D))).set i.toNat (Feat.mk ((at_ ((ys.set i.toNat (Feat.mk k' ((at_ ys i.toNat).Y) ((at_ ys i.toNat).D))).set i.toNat (Feat.mk ((at_ (ys.set i.toNat (Feat.mk k' ((at_ ys i.toNat).Y) ((at_ ys i.toNat).D))) i.toNat).X) (k' + 1) ((at_ (ys.set i.toNat (Feat.mk k' ((at_ ys i.toNat).Y) ((at_ ys i.toNat).D))) i.toNat).D))) i.toNat).X) ((at_ ((ys.set i.toNat (Feat.mk k' ((at_ ys i.toNat).Y) ((at_ ys i.toNat).D))).set i.toNat (Feat.mk ((at_ (ys.set i.toNat (Feat.mk k' ((at_ ys i.toNat).Y) ((at_ ys i.toNat).D))) i.toNat).X) (k' + 1) ((at_ (ys.set i.toNat (Feat.mk k' ((at_ ys i.toNat).Y) ((at_ ys i.toNat).D))) i.toNat).D))) i.toNat).Y) ((k' + 1) + 1)))) rfl (show (0 ≤ (i + 1) ∧ (i + 1) ≤ (al.length : Int)) ∧ ((((ys.set i.toNat (Feat.mk k' ((at_ ys i.toNat).Y) ((at_ ys i.toNat).D))).set i.toNat (Feat.mk ((at_ (ys.set i.toNat (Feat.mk k' ((at_ ys i.toNat).Y) ((at_ ys i.toNat).D))) i.toNat).X) (k' + 1) ((at_ (ys.set i.toNat (Feat.mk k' ((at_ ys i.toNat).Y) ((at_ ys i.toNat).D))) i.toNat).D))).set i.toNat (Feat.mk ((at_ ((ys.set i.toNat (Feat.mk k' ((at_ ys i.toNat).Y) ((at_ ys i.toNat).D))).set i.toNat (Feat.mk ((at_ (ys.set i.toNat (Feat.mk k' ((at_ ys i.toNat).Y) ((at_ ys i.toNat).D))) i.toNat).X) (k' + 1) ((at_ (ys.set i.toNat (Feat.mk k' ((at_ ys i.toNat).Y) ((at_ ys i.toNat).D))) i.toNat).D))) i.toNat).X) ((at_ ((ys.set i.toNat (Feat.mk k' ((at_ ys i.toNat).Y) ((at_ ys i.toNat).D))).set i.toNat (Feat.mk ((at_ (ys.set i.toNat (Feat.mk k' ((at_ ys i.toNat).Y) ((at_ ys i.toNat).D))) i.toNat).X) (k' + 1) ((at_ (ys.set i.toNat (Feat.mk k' ((at_ ys i.toNat).Y) ((at_ ys i.toNat).D))) i.toNat).D))) i.toNat).Y) ((k' + 1) + 1))).length = al.length) ∧ ((((k' + 1) + 1) + 1) = k + 3 * (i + 1)) ∧ (∀ j : Nat, (j : Int) < (i + 1) → at_ (((ys.set i.toNat (Feat.mk k' ((at_ ys i.toNat).Y) ((at_ ys i.toNat).D))).set i.toNat (Feat.mk ((at_ (ys.set i.toNat (Feat.mk k' ((at_ ys i.toNat).Y) ((at_ ys i.toNat).D))) i.toNat).X) (k' + 1) ((at_ (ys.set i.toNat (Feat.mk k' ((at_ ys i.toNat).Y) ((at_ ys i.toNat).D))) i.toNat).D))).set i.toNat (Feat.mk ((at_ ((ys.set i.toNat (Feat.mk k' ((at_ ys i.toNat).Y) ((at_ ys i.toNat).D))).set i.toNat (Feat.mk ((at_ (ys.set i.toNat (Feat.mk k' ((at_ ys i.toNat).Y) ((at_ ys i.toNat).D))) i.toNat).X) (k' + 1) ((at_ (ys.set i.toNat (Feat.mk k' ((at_ ys i.toNat).Y) ((at_ ys i.toNat).D))) i.toNat).D))) i.toNat).X) ((at_ ((ys.set i.toNat (Feat.mk k' ((at_ ys i.toNat).Y) ((at_ ys i.toNat).D))).set i.toNat (Feat.mk ((at_ (ys.set i.toNat (Feat.mk k' ((at_ ys i.toNat).Y) ((at_ ys i.toNat).D))) i.toNat).X) (k' + 1) ((at_ (ys.set i.toNat (Feat.mk k' ((at_ ys i.toNat).Y) ((at_ ys i.toNat).D))) i.toNat).D))) i.toNat).Y) ((k' + 1) + 1))) j = ⟨k + 3 * (j : Int), k + 3 * (j : Int) + 1, k + 3 * (j : Int) + 2⟩) ∧ True from ⟨(by omega), (by simp; omega), (by omega), (by simp only [List.set_set, at_setQ hiy]; exact mk_next hi0.1 hiy hy1 (by simp only [Feat.mk.injEq]; omega)), trivial⟩) (by first | (show (((al.length : Int) - (i + 1)).toNat : Nat) < ((al.length : Int) - i).toNat; omega) | (dsimp only; omega))
    have hq := h1
    rw [famUp_at] at hq
    refine x_r [(3, .dec false)] [0, 1, 5, 9] [7412] [.row 7412 alp, I k', I i, Bv false] [some (.fam alN 3 (famUp alp ys.length alm) (famUpF alp (fFeat ys) alg))] [alp < alN, ¬ (i < ((famUp alp ys.length alm alp) : Int))] ⟨(by omega), h1, trivial⟩ ?_
    refine xe_then ?_
    refine x_false rfl ?_
    refine x_exit ?_
    refine xe_exit_then ?_
    refine xe_loop_exit ?_
    refine xe_exit_same ?_
    refine xe_then ?_
    refine xR [] [4] [7412] [I k'] [some (.fam alN 3 (famUp alp ys.length alm) (famUpF alp (fFeat ys) alg))] [] trivial ?_
    refine x_ret ?_
    refine xe_end (k', ys) (show (k' = k + 3 * (al.length : Int)) ∧ (ys = mkL k al.length) ∧ (True) from ⟨(by first | omega | exact ext_at (by rw [hy0, mkL_len]) (fun j hj => by rw [hy1 j (by omega), mkL_at (by omega)])), (by first | omega | exact ext_at (by rw [hy0, mkL_len]) (fun j hj => by rw [hy1 j (by omega), mkL_at (by omega)])), trivial⟩) (⟨.inl rfl, trivial⟩) (I k') (by kernel_rfl) (.inl rfl) (fun _ => rfl) (fun _ => trivial)
  obtain ⟨⟨v, al'⟩, ⟨hh0, hh1, _⟩, hc⟩ := hh
  exact ⟨v, al', hh0, hh1, hc⟩


theorem mid_at {α : Type} [Inhabited α] {p l : List α} {i : Nat} (hp : p.length = i) : at_ (p ++ l.drop i) i = at_ l i := by
  subst hp; rw [at_right (Nat.le_refl _)]; simp [at_]
theorem mid_set {α : Type} [Inhabited α] {p l : List α} {i : Nat} (hp : p.length = i) (hi : i < l.length) (y : α) : (p ++ l.drop i).set i y = (p ++ [y]) ++ l.drop (i + 1) := by
  subst hp
  have e := List.drop_eq_getElem_cons hi
  rw [List.set_append_right _ _ (Nat.le_refl _), Nat.sub_self, e]
  simp only [List.set_cons_zero, List.append_assoc, List.singleton_append]
theorem mid_len {α : Type} {p l : List α} {i : Nat} (hp : p.length = i) (hi : i ≤ l.length) : (p ++ l.drop i).length = l.length := by simp; omega

def mTr (k : Int) (t : Trained) : Trained := ⟨mkTx k, mkL (k + 1) t.Base.length, mkL (k + 1 + 3 * (t.Base.length : Int)) t.Feats.length, k + 1 + 3 * (t.Base.length : Int) + 3 * (t.Feats.length : Int)⟩
def nTr (k : Int) (t : Trained) : Int := k + 2 + 3 * (t.Base.length : Int) + 3 * (t.Feats.length : Int)
def mRs : Int → List Trained → List Trained
  | _, [] => []
  | k, t :: r => mTr k t :: mRs (nTr k t) r
def nRs : Int → List Trained → Int
  | k, [] => k
  | k, t :: r => nRs (nTr k t) r
theorem mRs_app : ∀ (a b : List Trained) (k : Int), mRs k (a ++ b) = mRs k a ++ mRs (nRs k a) b
  | [], b, k => rfl
  | t :: r, b, k => by simp only [List.cons_append, mRs, nRs]; rw [mRs_app r b]
theorem nRs_app : ∀ (a b : List Trained) (k : Int), nRs k (a ++ b) = nRs (nRs k a) b
  | [], b, k => rfl
  | t :: r, b, k => by simp only [List.cons_append, nRs]; rw [nRs_app r b]
theorem mRs_len : ∀ (a : List Trained) (k : Int), (mRs k a).length = a.length
  | [], k => rfl
  | t :: r, k => by simp only [mRs, List.length_cons, mRs_len r]
theorem nRs_lo : ∀ (a : List Trained) (k : Int), k + (a.length : Int) ≤ nRs k a
  | [], k => by simp [nRs]
  | t :: r, k => by
    have h := nRs_lo r (nTr k t)
    simp only [nRs, List.length_cons]
    unfold nTr at *
    omega
theorem nRs_bd : ∀ (a : List Trained) (k : Int), k ≤ nRs k a ∧ nRs k a ≤ k + 3 * (bulkTrainedS a : Int)
  | [], k => by simp [nRs, bulkTrainedS]
  | t :: r, k => by
    have h := nRs_bd r (nTr k t)
    have e := bulkFeatS_len t.Feats
    have e2 := bulkFeatS_len t.Base
    simp only [nRs, bulkTrainedS, bulkTrained]
    unfold nTr at *
    omega
theorem mRs_take {l : List Trained} {i : Nat} (hi : i < l.length) (k : Int) : mRs k (l.take (i + 1)) = mRs k (l.take i) ++ [mTr (nRs k (l.take i)) (at_ l i)] ∧ nRs k (l.take (i + 1)) = nTr (nRs k (l.take i)) (at_ l i) := by
  rw [take_snoc' hi, mRs_app, nRs_app]; exact ⟨rfl, rfl⟩
theorem nRs_mid {l : List Trained} {i : Nat} (hi : i < l.length) (k : Int) : nTr (nRs k (l.take i)) (at_ l i) ≤ nRs k l := by
  have h := nRs_lo (l.drop (i + 1)) (nRs k (l.take (i + 1)))
  rw [← nRs_app, List.take_append_drop, (mRs_take hi k).2] at h
  omega

-- laws.markTrainedS
theorem markTrainedS_ok (al : List Trained) (k : Int) (hk : 0 ≤ k ∧ nRs k al ≤ 4000000) : ∃ (v : Int) (al' : List Trained), (v = nRs k al) ∧ (al' = mRs k al) ∧ CallOK Try.prog 28 [.arr 7401, I k] (lookO [(7401, .oar [7411, 7412] 4 al.length (oTrained 7411 7412 al)), (7411, .fam al.length 3 (mTrainedBase al) (gTrainedBase al)), (7412, .fam al.length 3 (mTrainedFeats al) (gTrainedFeats al))]) true (I v) (lookO [(7401, .oar [7411, 7412] 4 al'.length (oTrained 7411 7412 al')), (7411, .fam al'.length 3 (mTrainedBase al') (gTrainedBase al')), (7412, .fam al'.length 3 (mTrainedFeats al') (gTrainedFeats al'))]) := by
  have hb0 := nRs_lo al k
  have hh : ∃ r : Int × (List Trained), ((r.1 = nRs k al) ∧ (r.2 = mRs k al) ∧ (True)) ∧ CallOK Try.prog 28 [.arr 7401, I k] (lookO [(7401, .oar [7411, 7412] 4 al.length (oTrained 7411 7412 al)), (7411, .fam al.length 3 (mTrainedBase al) (gTrainedBase al)), (7412, .fam al.length 3 (mTrainedFeats al) (gTrainedFeats al))]) true (I r.1) (lookO [(7401, .oar [7411, 7412] 4 r.2.length (oTrained 7411 7412 r.2)), (7411, .fam r.2.length 3 (mTrainedBase r.2) (gTrainedBase r.2)), (7412, .fam r.2.length 3 (mTrainedFeats r.2) (gTrainedFeats r.2))]) := by
    refine fn_okX (Φ := fun r : Int × (List Trained) => (r.1 = nRs k al) ∧ (r.2 = mRs k al) ∧ (True)) [(7401, .oar [7411, 7412] 4 al.length (oTrained 7411 7412 al)), (7411, .fam al.length 3 (mTrainedBase al) (gTrainedBase al)), (7412, .fam al.length 3 (mTrainedFeats al) (gTrainedFeats al))] (fun r => [(7401, .oar [7411, 7412] 4 r.2.length (oTrained 7411 7412 r.2)), (7411, .fam r.2.length 3 (mTrainedBase r.2) (gTrainedBase r.2)), (7412, .fam r.2.length 3 (mTrainedFeats r.2) (gTrainedFeats r.2))]) (fn := Try.f28) (nt := 42) Try.func28 rfl rfl (args := [.arr 7401, I k]) rfl (allcons (.inr trivial) (allcons (.inl ⟨rfl, trivial⟩) allnil)) (res := fun r => I r.1) ?_
    refine xR [] [0, 1] [7401, 7411, 7412] [.arr 7401, I k] [some (.oar [7411, 7412] 4 al.length (oTrained 7411 7412 al)), some (.fam al.length 3 (mTrainedBase al) (gTrainedBase al)), some (.fam al.length 3 (mTrainedFeats al) (gTrainedFeats al))] [] trivial ?_
    refine x_seq ?_
    refine xR [] [0, 1, 5] [7401, 7411, 7412] [.arr 7401, I k, I 0] [some (.oar [7411, 7412] 4 al.length (oTrained 7411 7412 al)), some (.fam al.length 3 (mTrainedBase al) (gTrainedBase al)), some (.fam al.length 3 (mTrainedFeats al) (gTrainedFeats al))] [] trivial ?_
    refine x_block ?_
    refine x_loop (X := Int × Int × (List Trained)) (fun x => mkS [(0, .arr 7401), (1, I x.1), (5, I x.2.1)] [(7401, .oar [7411, 7412] 4 x.2.2.length (oTrained 7411 7412 x.2.2)), (7411, .fam x.2.2.length 3 (mTrainedBase x.2.2) (gTrainedBase x.2.2)), (7412, .fam x.2.2.length 3 (mTrainedFeats x.2.2) (gTrainedFeats x.2.2))]) (fun x => (0 ≤ x.2.1 ∧ x.2.1 ≤ (al.length : Int)) ∧ (x.2.2 = mRs k (al.take x.2.1.toNat) ++ al.drop x.2.1.toNat) ∧ (x.1 = nRs k (al.take x.2.1.toNat)) ∧ True) (fun x => ((al.length : Int) - x.2.1).toNat) (k, 0, al) rfl (show (0 ≤ (0 : Int) ∧ (0 : Int) ≤ (al.length : Int)) ∧ (al = mRs k (al.take (0 : Int).toNat) ++ al.drop (0 : Int).toNat) ∧ (k = nRs k (al.take (0 : Int).toNat)) ∧ True from ⟨(by omega), (by rfl), (by rfl), trivial⟩) (fun x hI => ?_)
    obtain ⟨k', i, bl⟩ := x
    obtain ⟨hi0, hy0, hk1, _⟩ : (0 ≤ i ∧ i ≤ (al.length : Int)) ∧ (bl = mRs k (al.take i.toNat) ++ al.drop i.toNat) ∧ (k' = nRs k (al.take i.toNat)) ∧ True := hI
    show XW _ _ _ _ (mkS [(0, .arr 7401), (1, I k'), (5, I i)] [(7401, .oar [7411, 7412] 4 bl.length (oTrained 7411 7412 bl)), (7411, .fam bl.length 3 (mTrainedBase bl) (gTrainedBase bl)), (7412, .fam bl.length 3 (mTrainedFeats bl) (gTrainedFeats bl))]) _ _
    refine x_seq ?_
    refine x_seq ?_
    by_cases h1 : i < (bl.length : Int)
    ·have hpl : (mRs k (al.take i.toNat)).length = i.toNat := by rw [mRs_len]; simp; omega
     have hl : bl.length = al.length := by rw [hy0]; exact mid_len hpl (by omega)
     have hi : i.toNat < al.length := by omega
     have hib : i.toNat < bl.length := by omega
     have hat : at_ bl i.toNat = at_ al i.toNat := by rw [hy0]; exact mid_at hpl
     have hbd := nRs_lo (al.take i.toNat) k
     have hmid := nRs_mid hi k
     unfold nTr at hmid
     refine x_r [(3, .dec true)] [0, 1, 5, 9] [7401, 7411, 7412] [.arr 7401, I k', I i, Bv true] [some (.oar [7411, 7412] 4 bl.length (oTrained 7411 7412 bl)), some (.fam bl.length 3 (mTrainedBase bl) (gTrainedBase bl)), some (.fam bl.length 3 (mTrainedFeats bl) (gTrainedFeats bl))] [i < (bl.length : Int)] ⟨h1, trivial⟩ ?_
     refine xe_then ?_
     refine x_true rfl ?_
     refine x_skip ?_
     refine xe_then ?_
     refine x_seq ?_
     refine x_block ?_
     refine xR [(3, .call [(true, .any)] true (Sv (mkTx k')))] [0, 1, 5] [7401, 7411, 7412] [.arr 7401, I k', I i] [some (.oar [7411, 7412] 4 bl.length (fun q => bif Nat.beq q i.toNat then [Sv (mkTx k'), .row 7411 i.toNat, .row 7412 i.toNat, I ((at_ bl i.toNat).Count)] else (oTrained 7411 7412 bl) q)), some (.fam bl.length 3 (mTrainedBase bl) (gTrainedBase bl)), some (.fam bl.length 3 (mTrainedFeats bl) (gTrainedFeats bl))] [Con Try.prog 48 [I k'] true (Sv (mkTx k')) ∧ True, (0 : Int) ≤ i ∧ i < (bl.length : Int), i.toNat < bl.length] ⟨⟨(markText_ok k' (by omega)), trivial⟩, ⟨(by omega), (by omega)⟩, (by omega), trivial⟩ ?_
     refine x_seq ?_
     refine x_weak [] (T := [(0, .arr 7401), (1, I k'), (5, I i)]) (O := [(7401, .oar [7411, 7412] 4 ((bl.set i.toNat (Trained.mk (mkTx k') ((at_ bl i.toNat).Base) ((at_ bl i.toNat).Feats) ((at_ bl i.toNat).Count))).length) (oTrained 7411 7412 (bl.set i.toNat (Trained.mk (mkTx k') ((at_ bl i.toNat).Base) ((at_ bl i.toNat).Feats) ((at_ bl i.toNat).Count))))), (7411, .fam (bl.set i.toNat (Trained.mk (mkTx k') ((at_ bl i.toNat).Base) ((at_ bl i.toNat).Feats) ((at_ bl i.toNat).Count))).length 3 (mTrainedBase (bl.set i.toNat (Trained.mk (mkTx k') ((at_ bl i.toNat).Base) ((at_ bl i.toNat).Feats) ((at_ bl i.toNat).Count)))) (gTrainedBase (bl.set i.toNat (Trained.mk (mkTx k') ((at_ bl i.toNat).Base) ((at_ bl i.toNat).Feats) ((at_ bl i.toNat).Count))))), (7412, .fam (bl.set i.toNat (Trained.mk (mkTx k') ((at_ bl i.toNat).Base) ((at_ bl i.toNat).Feats) ((at_ bl i.toNat).Count))).length 3 (mTrainedFeats (bl.set i.toNat (Trained.mk (mkTx k') ((at_ bl i.toNat).Base) ((at_ bl i.toNat).Feats) ((at_ bl i.toNat).Count)))) (gTrainedFeats (bl.set i.toNat (Trained.mk (mkTx k') ((at_ bl i.toNat).Base) ((at_ bl i.toNat).Feats) ((at_ bl i.toNat).Count)))))]) rfl (⟨.inl rfl, .inl rfl, .inl rfl, trivial⟩) (⟨.inr ⟨rfl, rfl, (by simp), fun i_ hi_ => .inl (oputTrained _ _ _ i_ hi_)⟩, .inr (fsameTrainedBase (P := i.toNat) (x' := (Trained.mk (mkTx k') ((at_ bl i.toNat).Base) ((at_ bl i.toNat).Feats) ((at_ bl i.toNat).Count))) rfl), .inr (fsameTrainedFeats (P := i.toNat) (x' := (Trained.mk (mkTx k') ((at_ bl i.toNat).Base) ((at_ bl i.toNat).Feats) ((at_ bl i.toNat).Count))) rfl), trivial⟩) ?_
     generalize hb1 : (bl.set i.toNat (Trained.mk (mkTx k') ((at_ bl i.toNat).Base) ((at_ bl i.toNat).Feats) ((at_ bl i.toNat).Count))) = b1
     have hB1 : b1 = bl.set i.toNat (Trained.mk (mkTx k') (at_ al i.toNat).Base (at_ al i.toNat).Feats (at_ al i.toNat).Count) := by rw [← hb1, hat]
     have h1 : at_ b1 i.toNat = Trained.mk (mkTx k') (at_ al i.toNat).Base (at_ al i.toNat).Feats (at_ al i.toNat).Count := by rw [hB1]; exact at_setQ hib
     have hl1 : b1.length = al.length := by rw [hB1, List.length_set]; exact hl
     refine x_r [] [0, 1, 5] [7401, 7411, 7412] [.arr 7401, I (k' + 1), I i] [some (.oar [7411, 7412] 4 b1.length (oTrained 7411 7412 b1)), some (.fam b1.length 3 (mTrainedBase b1) (gTrainedBase b1)), some (.fam b1.length 3 (mTrainedFeats b1) (gTrainedFeats b1))] [inR .i64 (k' + 1)] ⟨(inR_i64 (by omega) (by omega)), trivial⟩ ?_
     refine xe_then ?_
     refine x_seq ?_
     obtain ⟨v_1, al'_1, hx1_0, hx1_1, hc1⟩ := markRow7411_ok ((at_ b1 i.toNat).Base) b1.length (mTrainedBase b1) (gTrainedBase b1) i.toNat (k' + 1) (by simp only [h1]; omega)
     refine x_r [(6, .lend [(7411, .fam b1.length 3 (famUp i.toNat ((at_ b1 i.toNat).Base).length (mTrainedBase b1)) (famUpF i.toNat (fFeat ((at_ b1 i.toNat).Base)) (gTrainedBase b1)), .fam b1.length 3 (famUp i.toNat al'_1.length (mTrainedBase b1)) (famUpF i.toNat (fFeat al'_1) (gTrainedBase b1)))] [] [(true, .any), (true, .any)] true (I v_1))] [0, 1, 5] [7401, 7411, 7412] [.arr 7401, I v_1, I i] [some (.oar [7411, 7412] 4 b1.length (oTrained 7411 7412 b1)), some (.fam b1.length 3 (famUp i.toNat al'_1.length (mTrainedBase b1)) (famUpF i.toNat (fFeat al'_1) (gTrainedBase b1))), some (.fam b1.length 3 (mTrainedFeats b1) (gTrainedFeats b1))] [(0 : Int) ≤ i ∧ i < (b1.length : Int), i.toNat < b1.length, CallOK Try.prog 49 [.row 7411 i.toNat, I (k' + 1)] (lookO [(7411, .fam b1.length 3 (famUp i.toNat ((at_ b1 i.toNat).Base).length (mTrainedBase b1)) (famUpF i.toNat (fFeat ((at_ b1 i.toNat).Base)) (gTrainedBase b1)))]) true (I v_1) (lookO [(7411, .fam b1.length 3 (famUp i.toNat al'_1.length (mTrainedBase b1)) (famUpF i.toNat (fFeat al'_1) (gTrainedBase b1)))]) ∧ (((.fam b1.length 3 (mTrainedBase b1) (gTrainedBase b1) : Ob) = .fam b1.length 3 (famUp i.toNat ((at_ b1 i.toNat).Base).length (mTrainedBase b1)) (famUpF i.toNat (fFeat ((at_ b1 i.toNat).Base)) (gTrainedBase b1)) ∨ obLe noOb true (.fam b1.length 3 (mTrainedBase b1) (gTrainedBase b1)) (.fam b1.length 3 (famUp i.toNat ((at_ b1 i.toNat).Base).length (mTrainedBase b1)) (famUpF i.toNat (fFeat ((at_ b1 i.toNat).Base)) (gTrainedBase b1)))) ∧ taggedO false (.fam b1.length 3 (famUp i.toNat ((at_ b1 i.toNat).Base).length (mTrainedBase b1)) (famUpF i.toNat (fFeat ((at_ b1 i.toNat).Base)) (gTrainedBase b1)))) ∧ True] ⟨⟨(by omega), (by omega)⟩, (by omega), ⟨hc1, ⟨.inr (fg_take rfl rfl), fg_tag (fun _ => tagcFeat false _) (fun _ _ => tagcFeat false _)⟩, trivial⟩, trivial⟩ ?_
     refine xe_then ?_
     refine x_seq ?_
     refine x_weak [] (T := [(0, .arr 7401), (1, I v_1), (5, I i)]) (O := [(7401, .oar [7411, 7412] 4 ((b1.set i.toNat (Trained.withBase (at_ b1 i.toNat) al'_1)).length) (oTrained 7411 7412 (b1.set i.toNat (Trained.withBase (at_ b1 i.toNat) al'_1)))), (7411, .fam (b1.set i.toNat (Trained.withBase (at_ b1 i.toNat) al'_1)).length 3 (mTrainedBase (b1.set i.toNat (Trained.withBase (at_ b1 i.toNat) al'_1))) (gTrainedBase (b1.set i.toNat (Trained.withBase (at_ b1 i.toNat) al'_1)))), (7412, .fam (b1.set i.toNat (Trained.withBase (at_ b1 i.toNat) al'_1)).length 3 (mTrainedFeats (b1.set i.toNat (Trained.withBase (at_ b1 i.toNat) al'_1))) (gTrainedFeats (b1.set i.toNat (Trained.withBase (at_ b1 i.toNat) al'_1))))]) rfl (⟨.inl rfl, .inl rfl, .inl rfl, trivial⟩) (⟨.inr ⟨rfl, rfl, (by first | rfl | (simp; done) | omega), fun i_ hi_ => .inl (osetTrainedBase 7411 7412 i.toNat b1 al'_1 i_)⟩, .inr (fputTrainedBase ((by omega)) rfl (fun i_ _ => rfl)), .inr (fsameTrainedFeats (P := i.toNat) (x' := (Trained.withBase (at_ b1 i.toNat) al'_1)) rfl), trivial⟩) ?_
     generalize hb2 : (b1.set i.toNat (Trained.withBase (at_ b1 i.toNat) al'_1)) = b2
     have ha1 : al'_1 = mkL (k' + 1) (at_ al i.toNat).Base.length := hx1_1.trans (by rw [h1])
     have hB2 : b2 = bl.set i.toNat (Trained.mk (mkTx k') al'_1 (at_ al i.toNat).Feats (at_ al i.toNat).Count) := by rw [← hb2, h1, hB1, List.set_set]; rfl
     have h2 : at_ b2 i.toNat = Trained.mk (mkTx k') al'_1 (at_ al i.toNat).Feats (at_ al i.toNat).Count := by rw [hB2]; exact at_setQ hib
     have hl2 : b2.length = al.length := by rw [hB2, List.length_set]; exact hl
     simp only [h1] at hx1_0
     obtain ⟨v_2, al'_2, hx2_0, hx2_1, hc2⟩ := markRow7412_ok ((at_ b2 i.toNat).Feats) b2.length (mTrainedFeats b2) (gTrainedFeats b2) i.toNat v_1 (by simp only [h2]; omega)
     refine x_r [(6, .lend [(7412, .fam b2.length 3 (famUp i.toNat ((at_ b2 i.toNat).Feats).length (mTrainedFeats b2)) (famUpF i.toNat (fFeat ((at_ b2 i.toNat).Feats)) (gTrainedFeats b2)), .fam b2.length 3 (famUp i.toNat al'_2.length (mTrainedFeats b2)) (famUpF i.toNat (fFeat al'_2) (gTrainedFeats b2)))] [] [(true, .any), (true, .any)] true (I v_2))] [0, 1, 5] [7401, 7411, 7412] [.arr 7401, I v_2, I i] [some (.oar [7411, 7412] 4 b2.length (oTrained 7411 7412 b2)), some (.fam b2.length 3 (mTrainedBase b2) (gTrainedBase b2)), some (.fam b2.length 3 (famUp i.toNat al'_2.length (mTrainedFeats b2)) (famUpF i.toNat (fFeat al'_2) (gTrainedFeats b2)))] [(0 : Int) ≤ i ∧ i < (b2.length : Int), i.toNat < b2.length, CallOK Try.prog 49 [.row 7412 i.toNat, I v_1] (lookO [(7412, .fam b2.length 3 (famUp i.toNat ((at_ b2 i.toNat).Feats).length (mTrainedFeats b2)) (famUpF i.toNat (fFeat ((at_ b2 i.toNat).Feats)) (gTrainedFeats b2)))]) true (I v_2) (lookO [(7412, .fam b2.length 3 (famUp i.toNat al'_2.length (mTrainedFeats b2)) (famUpF i.toNat (fFeat al'_2) (gTrainedFeats b2)))]) ∧ (((.fam b2.length 3 (mTrainedFeats b2) (gTrainedFeats b2) : Ob) = .fam b2.length 3 (famUp i.toNat ((at_ b2 i.toNat).Feats).length (mTrainedFeats b2)) (famUpF i.toNat (fFeat ((at_ b2 i.toNat).Feats)) (gTrainedFeats b2)) ∨ obLe noOb true (.fam b2.length 3 (mTrainedFeats b2) (gTrainedFeats b2)) (.fam b2.length 3 (famUp i.toNat ((at_ b2 i.toNat).Feats).length (mTrainedFeats b2)) (famUpF i.toNat (fFeat ((at_ b2 i.toNat).Feats)) (gTrainedFeats b2)))) ∧ taggedO false (.fam b2.length 3 (famUp i.toNat ((at_ b2 i.toNat).Feats).length (mTrainedFeats b2)) (famUpF i.toNat (fFeat ((at_ b2 i.toNat).Feats)) (gTrainedFeats b2)))) ∧ True] ⟨⟨(by omega), (by omega)⟩, (by omega), ⟨hc2, ⟨.inr (fg_take rfl rfl), fg_tag (fun _ => tagcFeat false _) (fun _ _ => tagcFeat false _)⟩, trivial⟩, trivial⟩ ?_
     refine xe_then ?_
     refine x_seq ?_
     refine x_weak [] (T := [(0, .arr 7401), (1, I v_2), (5, I i)]) (O := [(7401, .oar [7411, 7412] 4 ((b2.set i.toNat (Trained.withFeats (at_ b2 i.toNat) al'_2)).length) (oTrained 7411 7412 (b2.set i.toNat (Trained.withFeats (at_ b2 i.toNat) al'_2)))), (7411, .fam (b2.set i.toNat (Trained.withFeats (at_ b2 i.toNat) al'_2)).length 3 (mTrainedBase (b2.set i.toNat (Trained.withFeats (at_ b2 i.toNat) al'_2))) (gTrainedBase (b2.set i.toNat (Trained.withFeats (at_ b2 i.toNat) al'_2)))), (7412, .fam (b2.set i.toNat (Trained.withFeats (at_ b2 i.toNat) al'_2)).length 3 (mTrainedFeats (b2.set i.toNat (Trained.withFeats (at_ b2 i.toNat) al'_2))) (gTrainedFeats (b2.set i.toNat (Trained.withFeats (at_ b2 i.toNat) al'_2))))]) rfl (⟨.inl rfl, .inl rfl, .inl rfl, trivial⟩) (⟨.inr ⟨rfl, rfl, (by first | rfl | (simp; done) | omega), fun i_ hi_ => .inl (osetTrainedFeats 7411 7412 i.toNat b2 al'_2 i_)⟩, .inr (fsameTrainedBase (P := i.toNat) (x' := (Trained.withFeats (at_ b2 i.toNat) al'_2)) rfl), .inr (fputTrainedFeats ((by omega)) rfl (fun i_ _ => rfl)), trivial⟩) ?_
     generalize hb3 : (b2.set i.toNat (Trained.withFeats (at_ b2 i.toNat) al'_2)) = b3
     have ha2 : al'_2 = mkL v_1 (at_ al i.toNat).Feats.length := hx2_1.trans (by rw [h2])
     have hB3 : b3 = bl.set i.toNat (Trained.mk (mkTx k') al'_1 al'_2 (at_ al i.toNat).Count) := by rw [← hb3, h2, hB2, List.set_set]; rfl
     have h3 : at_ b3 i.toNat = Trained.mk (mkTx k') al'_1 al'_2 (at_ al i.toNat).Count := by rw [hB3]; exact at_setQ hib
     have hl3 : b3.length = al.length := by rw [hB3, List.length_set]; exact hl
     simp only [h2] at hx2_0
     refine x_r [] [0, 1, 5] [7401, 7411, 7412] [.arr 7401, I v_2, I i] [some (.oar [7411, 7412] 4 b3.length (fun q => bif Nat.beq q i.toNat then [Sv ((at_ b3 i.toNat).Label), .row 7411 i.toNat, .row 7412 i.toNat, I v_2] else (oTrained 7411 7412 b3) q)), some (.fam b3.length 3 (mTrainedBase b3) (gTrainedBase b3)), some (.fam b3.length 3 (mTrainedFeats b3) (gTrainedFeats b3))] [(0 : Int) ≤ i ∧ i < (b3.length : Int), i.toNat < b3.length] ⟨⟨(by omega), (by omega)⟩, (by omega), trivial⟩ ?_
     refine xe_then ?_
     refine x_weak [] (T := [(0, .arr 7401), (1, I v_2), (5, I i)]) (O := [(7401, .oar [7411, 7412] 4 ((b3.set i.toNat (Trained.mk ((at_ b3 i.toNat).Label) ((at_ b3 i.toNat).Base) ((at_ b3 i.toNat).Feats) v_2)).length) (oTrained 7411 7412 (b3.set i.toNat (Trained.mk ((at_ b3 i.toNat).Label) ((at_ b3 i.toNat).Base) ((at_ b3 i.toNat).Feats) v_2)))), (7411, .fam (b3.set i.toNat (Trained.mk ((at_ b3 i.toNat).Label) ((at_ b3 i.toNat).Base) ((at_ b3 i.toNat).Feats) v_2)).length 3 (mTrainedBase (b3.set i.toNat (Trained.mk ((at_ b3 i.toNat).Label) ((at_ b3 i.toNat).Base) ((at_ b3 i.toNat).Feats) v_2))) (gTrainedBase (b3.set i.toNat (Trained.mk ((at_ b3 i.toNat).Label) ((at_ b3 i.toNat).Base) ((at_ b3 i.toNat).Feats) v_2)))), (7412, .fam (b3.set i.toNat (Trained.mk ((at_ b3 i.toNat).Label) ((at_ b3 i.toNat).Base) ((at_ b3 i.toNat).Feats) v_2)).length 3 (mTrainedFeats (b3.set i.toNat (Trained.mk ((at_ b3 i.toNat).Label) ((at_ b3 i.toNat).Base) ((at_ b3 i.toNat).Feats) v_2))) (gTrainedFeats (b3.set i.toNat (Trained.mk ((at_ b3 i.toNat).Label) ((at_ b3 i.toNat).Base) ((at_ b3 i.toNat).Feats) v_2))))]) rfl (⟨.inl rfl, .inl rfl, .inl rfl, trivial⟩) (⟨.inr ⟨rfl, rfl, (by simp), fun i_ hi_ => .inl (oputTrained _ _ _ i_ hi_)⟩, .inr (fsameTrainedBase (P := i.toNat) (x' := (Trained.mk ((at_ b3 i.toNat).Label) ((at_ b3 i.toNat).Base) ((at_ b3 i.toNat).Feats) v_2)) rfl), .inr (fsameTrainedFeats (P := i.toNat) (x' := (Trained.mk ((at_ b3 i.toNat).Label) ((at_ b3 i.toNat).Base) ((at_ b3 i.toNat).Feats) v_2)) rfl), trivial⟩) ?_
     generalize hb4 : (b3.set i.toNat (Trained.mk ((at_ b3 i.toNat).Label) ((at_ b3 i.toNat).Base) ((at_ b3 i.toNat).Feats) v_2)) = b4
     have hB4 : b4 = bl.set i.toNat (mTr k' (at_ al i.toNat)) := by rw [← hb4, h3, hB3, List.set_set, ha1, ha2, hx2_0, hx1_0]; rfl
     refine x_r [] [0, 1, 5] [7401, 7411, 7412] [.arr 7401, I (v_2 + 1), I i] [some (.oar [7411, 7412] 4 b4.length (oTrained 7411 7412 b4)), some (.fam b4.length 3 (mTrainedBase b4) (gTrainedBase b4)), some (.fam b4.length 3 (mTrainedFeats b4) (gTrainedFeats b4))] [inR .i64 (v_2 + 1)] ⟨(inR_i64 (by omega) (by omega)), trivial⟩ ?_
     refine xe_block 1 ?_
     refine xe_then ?_
     refine x_r [] [0, 1, 5] [7401, 7411, 7412] [.arr 7401, I (v_2 + 1), I (i + 1)] [some (.oar [7411, 7412] 4 b4.length (oTrained 7411 7412 b4)), some (.fam b4.length 3 (mTrainedBase b4) (gTrainedBase b4)), some (.fam b4.length 3 (mTrainedFeats b4) (gTrainedFeats b4))] [inR .i64 (i + 1)] ⟨(inR_i64 (by omega) (by omega)), trivial⟩ ?_
     exact xe_again ((v_2 + 1), (i + 1), b4) rfl (show (0 ≤ (i + 1) ∧ (i + 1) ≤ (al.length : Int)) ∧ (b4 = mRs k (al.take (i + 1).toNat) ++ al.drop (i + 1).toNat) ∧ ((v_2 + 1) = nRs k (al.take (i + 1).toNat)) ∧ True from ⟨(by omega), (by rw [show (i + 1).toNat = i.toNat + 1 from by omega, (mRs_take hi k).1, ← hk1, hB4, hy0, mid_set hpl hi]), (by rw [show (i + 1).toNat = i.toNat + 1 from by omega, (mRs_take hi k).2, ← hk1]; unfold nTr; omega), trivial⟩) (by first | (show (((al.length : Int) - (i + 1)).toNat : Nat) < ((al.length : Int) - i).toNat; omega) | (dsimp only; omega))
    have hpl : (mRs k (al.take i.toNat)).length = i.toNat := by rw [mRs_len]; simp; omega
    have hl : bl.length = al.length := by rw [hy0]; exact mid_len hpl (by omega)
    have hie : i.toNat = al.length := by omega
    rw [hie, List.take_length] at hk1
    rw [hie, List.take_length, List.drop_length, List.append_nil] at hy0
    refine x_r [(3, .dec false)] [0, 1, 5, 9] [7401, 7411, 7412] [.arr 7401, I k', I i, Bv false] [some (.oar [7411, 7412] 4 bl.length (oTrained 7411 7412 bl)), some (.fam bl.length 3 (mTrainedBase bl) (gTrainedBase bl)), some (.fam bl.length 3 (mTrainedFeats bl) (gTrainedFeats bl))] [¬ (i < (bl.length : Int))] ⟨h1, trivial⟩ ?_
    refine xe_then ?_
    refine x_false rfl ?_
    refine x_exit ?_
    refine xe_exit_then ?_
    refine xe_loop_exit ?_
    refine xe_exit_same ?_
    refine xe_then ?_
    refine xR [] [4] [7401, 7411, 7412] [I k'] [some (.oar [7411, 7412] 4 bl.length (oTrained 7411 7412 bl)), some (.fam bl.length 3 (mTrainedBase bl) (gTrainedBase bl)), some (.fam bl.length 3 (mTrainedFeats bl) (gTrainedFeats bl))] [] trivial ?_
    refine x_ret ?_
    refine xe_end (k', bl) (show (k' = nRs k al) ∧ (bl = mRs k al) ∧ (True) from ⟨(by first | exact hk1 | exact hy0), (by first | exact hk1 | exact hy0), trivial⟩) (⟨.inl rfl, .inl rfl, .inl rfl, trivial⟩) (I k') (by kernel_rfl) (.inl rfl) (fun _ => rfl) (fun _ => trivial)
  obtain ⟨⟨v, al'⟩, ⟨hh0, hh1, _⟩, hc⟩ := hh
  exact ⟨v, al', hh0, hh1, hc⟩


-- laws.markWriter
theorem markWriter_ok (al : Writer) (k : Int) (hk : 0 ≤ k ∧ nRs k al.Trained ≤ 4000000) : ∃ (v : Int) (al_Trained : List Trained), (v = nRs k al.Trained) ∧ (al_Trained = mRs k al.Trained) ∧ CallOK Try.prog 12 [.agg [I al.Band, .arr 7401], I k] (lookO [(7401, .oar [7411, 7412] 4 al.Trained.length (oTrained 7411 7412 al.Trained)), (7411, .fam al.Trained.length 3 (mTrainedBase al.Trained) (gTrainedBase al.Trained)), (7412, .fam al.Trained.length 3 (mTrainedFeats al.Trained) (gTrainedFeats al.Trained))]) true (I v) (lookO [(7401, .oar [7411, 7412] 4 al_Trained.length (oTrained 7411 7412 al_Trained)), (7411, .fam al_Trained.length 3 (mTrainedBase al_Trained) (gTrainedBase al_Trained)), (7412, .fam al_Trained.length 3 (mTrainedFeats al_Trained) (gTrainedFeats al_Trained))]) := by
  have hh : ∃ r : Int × (List Trained), ((r.1 = nRs k al.Trained) ∧ (r.2 = mRs k al.Trained) ∧ (True)) ∧ CallOK Try.prog 12 [.agg [I al.Band, .arr 7401], I k] (lookO [(7401, .oar [7411, 7412] 4 al.Trained.length (oTrained 7411 7412 al.Trained)), (7411, .fam al.Trained.length 3 (mTrainedBase al.Trained) (gTrainedBase al.Trained)), (7412, .fam al.Trained.length 3 (mTrainedFeats al.Trained) (gTrainedFeats al.Trained))]) true (I r.1) (lookO [(7401, .oar [7411, 7412] 4 r.2.length (oTrained 7411 7412 r.2)), (7411, .fam r.2.length 3 (mTrainedBase r.2) (gTrainedBase r.2)), (7412, .fam r.2.length 3 (mTrainedFeats r.2) (gTrainedFeats r.2))]) := by
    refine fn_okX (Φ := fun r : Int × (List Trained) => (r.1 = nRs k al.Trained) ∧ (r.2 = mRs k al.Trained) ∧ (True)) [(7401, .oar [7411, 7412] 4 al.Trained.length (oTrained 7411 7412 al.Trained)), (7411, .fam al.Trained.length 3 (mTrainedBase al.Trained) (gTrainedBase al.Trained)), (7412, .fam al.Trained.length 3 (mTrainedFeats al.Trained) (gTrainedFeats al.Trained))] (fun r => [(7401, .oar [7411, 7412] 4 r.2.length (oTrained 7411 7412 r.2)), (7411, .fam r.2.length 3 (mTrainedBase r.2) (gTrainedBase r.2)), (7412, .fam r.2.length 3 (mTrainedFeats r.2) (gTrainedFeats r.2))]) (fn := Try.f12) (nt := 10) Try.func12 rfl rfl (args := [.agg [I al.Band, .arr 7401], I k]) rfl (allcons (.inr (by simp [tagged, taggedL])) (allcons (.inl ⟨rfl, trivial⟩) allnil)) (res := fun r => I r.1) ?_
    refine xR [(0, .new 2)] [1, 2] [2, 7401, 7411, 7412] [I k, .ref 2 0] [some (.box [I al.Band, .arr 7401]), some (.oar [7411, 7412] 4 al.Trained.length (oTrained 7411 7412 al.Trained)), some (.fam al.Trained.length 3 (mTrainedBase al.Trained) (gTrainedBase al.Trained)), some (.fam al.Trained.length 3 (mTrainedFeats al.Trained) (gTrainedFeats al.Trained))] [] trivial ?_
    refine x_seq ?_
    obtain ⟨v_1, al'_1, hx1_0, hx1_1, hc1⟩ := markTrainedS_ok al.Trained k hk
    refine x_r [(3, .lend [(7401, .oar [7411, 7412] 4 al.Trained.length (oTrained 7411 7412 al.Trained), .oar [7411, 7412] 4 al'_1.length (oTrained 7411 7412 al'_1)), (7411, .fam al.Trained.length 3 (mTrainedBase al.Trained) (gTrainedBase al.Trained), .fam al'_1.length 3 (mTrainedBase al'_1) (gTrainedBase al'_1)), (7412, .fam al.Trained.length 3 (mTrainedFeats al.Trained) (gTrainedFeats al.Trained), .fam al'_1.length 3 (mTrainedFeats al'_1) (gTrainedFeats al'_1))] [] [(true, .any), (true, .any)] true (I v_1))] [1] [7401, 7411, 7412] [I v_1] [some (.oar [7411, 7412] 4 al'_1.length (oTrained 7411 7412 al'_1)), some (.fam al'_1.length 3 (mTrainedBase al'_1) (gTrainedBase al'_1)), some (.fam al'_1.length 3 (mTrainedFeats al'_1) (gTrainedFeats al'_1))] [CallOK Try.prog 28 [.arr 7401, I k] (lookO [(7401, .oar [7411, 7412] 4 al.Trained.length (oTrained 7411 7412 al.Trained)), (7411, .fam al.Trained.length 3 (mTrainedBase al.Trained) (gTrainedBase al.Trained)), (7412, .fam al.Trained.length 3 (mTrainedFeats al.Trained) (gTrainedFeats al.Trained))]) true (I v_1) (lookO [(7401, .oar [7411, 7412] 4 al'_1.length (oTrained 7411 7412 al'_1)), (7411, .fam al'_1.length 3 (mTrainedBase al'_1) (gTrainedBase al'_1)), (7412, .fam al'_1.length 3 (mTrainedFeats al'_1) (gTrainedFeats al'_1))]) ∧ (((.oar [7411, 7412] 4 al.Trained.length (oTrained 7411 7412 al.Trained) : Ob) = .oar [7411, 7412] 4 al.Trained.length (oTrained 7411 7412 al.Trained) ∨ obLe noOb true (.oar [7411, 7412] 4 al.Trained.length (oTrained 7411 7412 al.Trained)) (.oar [7411, 7412] 4 al.Trained.length (oTrained 7411 7412 al.Trained))) ∧ taggedO false (.oar [7411, 7412] 4 al.Trained.length (oTrained 7411 7412 al.Trained))) ∧ (((.fam al.Trained.length 3 (mTrainedBase al.Trained) (gTrainedBase al.Trained) : Ob) = .fam al.Trained.length 3 (mTrainedBase al.Trained) (gTrainedBase al.Trained) ∨ obLe noOb true (.fam al.Trained.length 3 (mTrainedBase al.Trained) (gTrainedBase al.Trained)) (.fam al.Trained.length 3 (mTrainedBase al.Trained) (gTrainedBase al.Trained))) ∧ taggedO false (.fam al.Trained.length 3 (mTrainedBase al.Trained) (gTrainedBase al.Trained))) ∧ (((.fam al.Trained.length 3 (mTrainedFeats al.Trained) (gTrainedFeats al.Trained) : Ob) = .fam al.Trained.length 3 (mTrainedFeats al.Trained) (gTrainedFeats al.Trained) ∨ obLe noOb true (.fam al.Trained.length 3 (mTrainedFeats al.Trained) (gTrainedFeats al.Trained)) (.fam al.Trained.length 3 (mTrainedFeats al.Trained) (gTrainedFeats al.Trained))) ∧ taggedO false (.fam al.Trained.length 3 (mTrainedFeats al.Trained) (gTrainedFeats al.Trained))) ∧ True] ⟨⟨hc1, ⟨.inl rfl, (by intro i_ _; simp [oTrained, oTrainedc, taggedL, tagged])⟩, ⟨.inl rfl, (fun _ _ _ _ => tagcFeat false _)⟩, ⟨.inl rfl, (fun _ _ _ _ => tagcFeat false _)⟩, trivial⟩, trivial⟩ ?_
    refine xe_then ?_
    refine xR [] [4] [7401, 7411, 7412] [I v_1] [some (.oar [7411, 7412] 4 al'_1.length (oTrained 7411 7412 al'_1)), some (.fam al'_1.length 3 (mTrainedBase al'_1) (gTrainedBase al'_1)), some (.fam al'_1.length 3 (mTrainedFeats al'_1) (gTrainedFeats al'_1))] [] trivial ?_
    refine x_ret ?_
    refine xe_end (v_1, al'_1) (show (v_1 = nRs k al.Trained) ∧ (al'_1 = mRs k al.Trained) ∧ (True) from ⟨(by assumption), (by assumption), trivial⟩) (⟨.inl rfl, .inl rfl, .inl rfl, trivial⟩) (I v_1) (by kernel_rfl) (.inl rfl) (fun _ => rfl) (fun _ => trivial)
  obtain ⟨⟨v, al_Trained⟩, ⟨hh0, hh1, _⟩, hc⟩ := hh
  exact ⟨v, al_Trained, hh0, hh1, hc⟩


def bulkTemplate (x : Template) : Nat := x.Label.size + (bulkFeatS x.Feats)
def bulkTemplateS : List Template → Nat
  | [] => 0
  | x :: r => 1 + (bulkTemplate x) + bulkTemplateS r
theorem bulkTemplateS_app (xs ys : List Template) : bulkTemplateS (xs ++ ys) = bulkTemplateS xs + bulkTemplateS ys := by
  induction xs with
  | nil => simp [bulkTemplateS]
  | cons x r ih => simp [bulkTemplateS, ih]; omega
theorem bulkTemplateS_len (xs : List Template) : xs.length ≤ bulkTemplateS xs := by
  induction xs with
  | nil => simp
  | cons x r ih => simp [bulkTemplateS]; omega
theorem bulkTemplateS_take {xs : List Template} {i : Nat} (h : i < xs.length) : bulkTemplateS (xs.take (i + 1)) = bulkTemplateS (xs.take i) + 1 + (bulkTemplate (at_ xs i)) := by
  rw [take_snoc' h, bulkTemplateS_app]; simp [bulkTemplateS]; omega
theorem bulkTemplateS_le (xs : List Template) (i : Nat) : bulkTemplateS (xs.take i) + (xs.length - i) ≤ bulkTemplateS xs := by
  have e := bulkTemplateS_app (xs.take i) (xs.drop i)
  rw [List.take_append_drop] at e
  have := bulkTemplateS_len (xs.drop i)
  simp at this
  omega
theorem bulkTemplateS_at {xs : List Template} {i : Nat} (h : i < xs.length) : 1 + (bulkTemplate (at_ xs i)) ≤ bulkTemplateS xs := by
  have h1 := bulkTemplateS_take h
  have h2 := bulkTemplateS_le xs (i + 1)
  omega

def mTm (k : Int) (t : Template) : Template := ⟨mkTx k, mkL (k + 1) t.Feats.length⟩
def nTm (k : Int) (t : Template) : Int := k + 1 + 3 * (t.Feats.length : Int)
def mTs : Int → List Template → List Template
  | _, [] => []
  | k, t :: r => mTm k t :: mTs (nTm k t) r
def nTs : Int → List Template → Int
  | k, [] => k
  | k, t :: r => nTs (nTm k t) r
theorem mTs_app : ∀ (a b : List Template) (k : Int), mTs k (a ++ b) = mTs k a ++ mTs (nTs k a) b
  | [], b, k => rfl
  | t :: r, b, k => by simp only [List.cons_append, mTs, nTs]; rw [mTs_app r b]
theorem nTs_app : ∀ (a b : List Template) (k : Int), nTs k (a ++ b) = nTs (nTs k a) b
  | [], b, k => rfl
  | t :: r, b, k => by simp only [List.cons_append, nTs]; rw [nTs_app r b]
theorem mTs_len : ∀ (a : List Template) (k : Int), (mTs k a).length = a.length
  | [], k => rfl
  | t :: r, k => by simp only [mTs, List.length_cons, mTs_len r]
theorem nTs_lo : ∀ (a : List Template) (k : Int), k + (a.length : Int) ≤ nTs k a
  | [], k => by simp [nTs]
  | t :: r, k => by
    have h := nTs_lo r (nTm k t)
    simp only [nTs, List.length_cons]
    unfold nTm at *
    omega
theorem nTs_bd : ∀ (a : List Template) (k : Int), k ≤ nTs k a ∧ nTs k a ≤ k + 3 * (bulkTemplateS a : Int)
  | [], k => by simp [nTs, bulkTemplateS]
  | t :: r, k => by
    have h := nTs_bd r (nTm k t)
    have e := bulkFeatS_len t.Feats
    simp only [nTs, bulkTemplateS, bulkTemplate]
    unfold nTm at *
    omega
theorem mTs_take {l : List Template} {i : Nat} (hi : i < l.length) (k : Int) : mTs k (l.take (i + 1)) = mTs k (l.take i) ++ [mTm (nTs k (l.take i)) (at_ l i)] ∧ nTs k (l.take (i + 1)) = nTm (nTs k (l.take i)) (at_ l i) := by
  rw [take_snoc' hi, mTs_app, nTs_app]; exact ⟨rfl, rfl⟩
theorem nTs_mid {l : List Template} {i : Nat} (hi : i < l.length) (k : Int) : nTm (nTs k (l.take i)) (at_ l i) ≤ nTs k l := by
  have h := nTs_lo (l.drop (i + 1)) (nTs k (l.take (i + 1)))
  rw [← nTs_app, List.take_append_drop, (mTs_take hi k).2] at h
  omega

-- laws.markTemplateS
theorem markTemplateS_ok (al : List Template) (k : Int) (hk : 0 ≤ k ∧ nTs k al ≤ 4000000) : ∃ (v : Int) (al' : List Template), (v = nTs k al) ∧ (al' = mTs k al) ∧ CallOK Try.prog 27 [.arr 7400, I k] (lookO [(7400, .oar [7410] 2 al.length (oTemplate 7410 al)), (7410, .fam al.length 3 (mTemplate al) (gTemplate al))]) true (I v) (lookO [(7400, .oar [7410] 2 al'.length (oTemplate 7410 al')), (7410, .fam al'.length 3 (mTemplate al') (gTemplate al'))]) := by
  have hb0 := nTs_lo al k
  have hh : ∃ r : Int × (List Template), ((r.1 = nTs k al) ∧ (r.2 = mTs k al) ∧ (True)) ∧ CallOK Try.prog 27 [.arr 7400, I k] (lookO [(7400, .oar [7410] 2 al.length (oTemplate 7410 al)), (7410, .fam al.length 3 (mTemplate al) (gTemplate al))]) true (I r.1) (lookO [(7400, .oar [7410] 2 r.2.length (oTemplate 7410 r.2)), (7410, .fam r.2.length 3 (mTemplate r.2) (gTemplate r.2))]) := by
    refine fn_okX (Φ := fun r : Int × (List Template) => (r.1 = nTs k al) ∧ (r.2 = mTs k al) ∧ (True)) [(7400, .oar [7410] 2 al.length (oTemplate 7410 al)), (7410, .fam al.length 3 (mTemplate al) (gTemplate al))] (fun r => [(7400, .oar [7410] 2 r.2.length (oTemplate 7410 r.2)), (7410, .fam r.2.length 3 (mTemplate r.2) (gTemplate r.2))]) (fn := Try.f27) (nt := 28) Try.func27 rfl rfl (args := [.arr 7400, I k]) rfl (allcons (.inr trivial) (allcons (.inl ⟨rfl, trivial⟩) allnil)) (res := fun r => I r.1) ?_
    refine xR [] [0, 1] [7400, 7410] [.arr 7400, I k] [some (.oar [7410] 2 al.length (oTemplate 7410 al)), some (.fam al.length 3 (mTemplate al) (gTemplate al))] [] trivial ?_
    refine x_seq ?_
    refine xR [] [0, 1, 5] [7400, 7410] [.arr 7400, I k, I 0] [some (.oar [7410] 2 al.length (oTemplate 7410 al)), some (.fam al.length 3 (mTemplate al) (gTemplate al))] [] trivial ?_
    refine x_block ?_
    refine x_loop (X := Int × Int × (List Template)) (fun x => mkS [(0, .arr 7400), (1, I x.1), (5, I x.2.1)] [(7400, .oar [7410] 2 x.2.2.length (oTemplate 7410 x.2.2)), (7410, .fam x.2.2.length 3 (mTemplate x.2.2) (gTemplate x.2.2))]) (fun x => (0 ≤ x.2.1 ∧ x.2.1 ≤ (al.length : Int)) ∧ (x.2.2 = mTs k (al.take x.2.1.toNat) ++ al.drop x.2.1.toNat) ∧ (x.1 = nTs k (al.take x.2.1.toNat)) ∧ True) (fun x => ((al.length : Int) - x.2.1).toNat) (k, 0, al) rfl (show (0 ≤ (0 : Int) ∧ (0 : Int) ≤ (al.length : Int)) ∧ (al = mTs k (al.take (0 : Int).toNat) ++ al.drop (0 : Int).toNat) ∧ (k = nTs k (al.take (0 : Int).toNat)) ∧ True from ⟨(by omega), (by rfl), (by rfl), trivial⟩) (fun x hI => ?_)
    obtain ⟨k', i, bl⟩ := x
    obtain ⟨hi0, hy0, hk1, _⟩ : (0 ≤ i ∧ i ≤ (al.length : Int)) ∧ (bl = mTs k (al.take i.toNat) ++ al.drop i.toNat) ∧ (k' = nTs k (al.take i.toNat)) ∧ True := hI
    show XW _ _ _ _ (mkS [(0, .arr 7400), (1, I k'), (5, I i)] [(7400, .oar [7410] 2 bl.length (oTemplate 7410 bl)), (7410, .fam bl.length 3 (mTemplate bl) (gTemplate bl))]) _ _
    refine x_seq ?_
    refine x_seq ?_
    by_cases h1 : i < (bl.length : Int)
    ·have hpl : (mTs k (al.take i.toNat)).length = i.toNat := by rw [mTs_len]; simp; omega
     have hl : bl.length = al.length := by rw [hy0]; exact mid_len hpl (by omega)
     have hi : i.toNat < al.length := by omega
     have hib : i.toNat < bl.length := by omega
     have hat : at_ bl i.toNat = at_ al i.toNat := by rw [hy0]; exact mid_at hpl
     have hbd := nTs_lo (al.take i.toNat) k
     have hmid := nTs_mid hi k
     unfold nTm at hmid
     refine x_r [(3, .dec true)] [0, 1, 5, 9] [7400, 7410] [.arr 7400, I k', I i, Bv true] [some (.oar [7410] 2 bl.length (oTemplate 7410 bl)), some (.fam bl.length 3 (mTemplate bl) (gTemplate bl))] [i < (bl.length : Int)] ⟨h1, trivial⟩ ?_
     refine xe_then ?_
     refine x_true rfl ?_
     refine x_skip ?_
     refine xe_then ?_
     refine x_seq ?_
     refine x_block ?_
     refine xR [(3, .call [(true, .any)] true (Sv (mkTx k')))] [0, 1, 5] [7400, 7410] [.arr 7400, I k', I i] [some (.oar [7410] 2 bl.length (fun q => bif Nat.beq q i.toNat then [Sv (mkTx k'), .row 7410 i.toNat] else (oTemplate 7410 bl) q)), some (.fam bl.length 3 (mTemplate bl) (gTemplate bl))] [Con Try.prog 48 [I k'] true (Sv (mkTx k')) ∧ True, (0 : Int) ≤ i ∧ i < (bl.length : Int), i.toNat < bl.length] ⟨⟨(markText_ok k' (by omega)), trivial⟩, ⟨(by omega), (by omega)⟩, (by omega), trivial⟩ ?_
     refine x_seq ?_
     refine x_weak [] (T := [(0, .arr 7400), (1, I k'), (5, I i)]) (O := [(7400, .oar [7410] 2 ((bl.set i.toNat (Template.mk (mkTx k') ((at_ bl i.toNat).Feats))).length) (oTemplate 7410 (bl.set i.toNat (Template.mk (mkTx k') ((at_ bl i.toNat).Feats))))), (7410, .fam (bl.set i.toNat (Template.mk (mkTx k') ((at_ bl i.toNat).Feats))).length 3 (mTemplate (bl.set i.toNat (Template.mk (mkTx k') ((at_ bl i.toNat).Feats)))) (gTemplate (bl.set i.toNat (Template.mk (mkTx k') ((at_ bl i.toNat).Feats)))))]) rfl (⟨.inl rfl, .inl rfl, .inl rfl, trivial⟩) (⟨.inr ⟨rfl, rfl, (by simp), fun i_ hi_ => .inl (oputTemplate _ _ i_ hi_)⟩, .inr (fsameTemplate (P := i.toNat) (x' := (Template.mk (mkTx k') ((at_ bl i.toNat).Feats))) rfl), trivial⟩) ?_
     refine x_r [] [0, 1, 5] [7400, 7410] [.arr 7400, I (k' + 1), I i] [some (.oar [7410] 2 ((bl.set i.toNat (Template.mk (mkTx k') ((at_ bl i.toNat).Feats))).length) (oTemplate 7410 (bl.set i.toNat (Template.mk (mkTx k') ((at_ bl i.toNat).Feats))))), some (.fam (bl.set i.toNat (Template.mk (mkTx k') ((at_ bl i.toNat).Feats))).length 3 (mTemplate (bl.set i.toNat (Template.mk (mkTx k') ((at_ bl i.toNat).Feats)))) (gTemplate (bl.set i.toNat (Template.mk (mkTx k') ((at_ bl i.toNat).Feats)))))] [inR .i64 (k' + 1)] ⟨(inR_i64 (by omega) (by omega)), trivial⟩ ?_
     refine xe_then ?_
     obtain ⟨v_1, al'_1, hx1_0, hx1_1, hc1⟩ := markRow7410_ok ((at_ (bl.set i.toNat (Template.mk (mkTx k') ((at_ bl i.toNat).Feats))) i.toNat).Feats) ((bl.set i.toNat (Template.mk (mkTx k') ((at_ bl i.toNat).Feats))).length) (mTemplate (bl.set i.toNat (Template.mk (mkTx k') ((at_ bl i.toNat).Feats)))) (gTemplate (bl.set i.toNat (Template.mk (mkTx k') ((at_ bl i.toNat).Feats)))) i.toNat (k' + 1) (by simp only [List.length_set]; rw [at_setQ hib]; simp only [hat]; omega)
     have ha1 : al'_1 = mkL (k' + 1) (at_ al i.toNat).Feats.length := hx1_1.trans (by rw [at_setQ hib]; simp only [hat])
     refine x_r [(6, .lend [(7410, .fam ((bl.set i.toNat (Template.mk (mkTx k') ((at_ bl i.toNat).Feats))).length) 3 (famUp i.toNat ((at_ (bl.set i.toNat (Template.mk (mkTx k') ((at_ bl i.toNat).Feats))) i.toNat).Feats).length (mTemplate (bl.set i.toNat (Template.mk (mkTx k') ((at_ bl i.toNat).Feats))))) (famUpF i.toNat (fFeat ((at_ (bl.set i.toNat (Template.mk (mkTx k') ((at_ bl i.toNat).Feats))) i.toNat).Feats)) (gTemplate (bl.set i.toNat (Template.mk (mkTx k') ((at_ bl i.toNat).Feats))))), .fam ((bl.set i.toNat (Template.mk (mkTx k') ((at_ bl i.toNat).Feats))).length) 3 (famUp i.toNat al'_1.length (mTemplate (bl.set i.toNat (Template.mk (mkTx k') ((at_ bl i.toNat).Feats))))) (famUpF i.toNat (fFeat al'_1) (gTemplate (bl.set i.toNat (Template.mk (mkTx k') ((at_ bl i.toNat).Feats))))))] [] [(true, .any), (true, .any)] true (I v_1))] [0, 1, 5] [7400, 7410] [.arr 7400, I v_1, I i] [some (.oar [7410] 2 ((bl.set i.toNat (Template.mk (mkTx k') ((at_ bl i.toNat).Feats))).length) (oTemplate 7410 (bl.set i.toNat (Template.mk (mkTx k') ((at_ bl i.toNat).Feats))))), some (.fam ((bl.set i.toNat (Template.mk (mkTx k') ((at_ bl i.toNat).Feats))).length) 3 (famUp i.toNat al'_1.length (mTemplate (bl.set i.toNat (Template.mk (mkTx k') ((at_ bl i.toNat).Feats))))) (famUpF i.toNat (fFeat al'_1) (gTemplate (bl.set i.toNat (Template.mk (mkTx k') ((at_ bl i.toNat).Feats))))))] [(0 : Int) ≤ i ∧ i < (((bl.set i.toNat (Template.mk (mkTx k') ((at_ bl i.toNat).Feats))).length) : Int), i.toNat < (bl.set i.toNat (Template.mk (mkTx k') ((at_ bl i.toNat).Feats))).length, CallOK Try.prog 49 [.row 7410 i.toNat, I (k' + 1)] (lookO [(7410, .fam ((bl.set i.toNat (Template.mk (mkTx k') ((at_ bl i.toNat).Feats))).length) 3 (famUp i.toNat ((at_ (bl.set i.toNat (Template.mk (mkTx k') ((at_ bl i.toNat).Feats))) i.toNat).Feats).length (mTemplate (bl.set i.toNat (Template.mk (mkTx k') ((at_ bl i.toNat).Feats))))) (famUpF i.toNat (fFeat ((at_ (bl.set i.toNat (Template.mk (mkTx k') ((at_ bl i.toNat).Feats))) i.toNat).Feats)) (gTemplate (bl.set i.toNat (Template.mk (mkTx k') ((at_ bl i.toNat).Feats))))))]) true (I v_1) (lookO [(7410, .fam ((bl.set i.toNat (Template.mk (mkTx k') ((at_ bl i.toNat).Feats))).length) 3 (famUp i.toNat al'_1.length (mTemplate (bl.set i.toNat (Template.mk (mkTx k') ((at_ bl i.toNat).Feats))))) (famUpF i.toNat (fFeat al'_1) (gTemplate (bl.set i.toNat (Template.mk (mkTx k') ((at_ bl i.toNat).Feats))))))]) ∧ (((.fam (bl.set i.toNat (Template.mk (mkTx k') ((at_ bl i.toNat).Feats))).length 3 (mTemplate (bl.set i.toNat (Template.mk (mkTx k') ((at_ bl i.toNat).Feats)))) (gTemplate (bl.set i.toNat (Template.mk (mkTx k') ((at_ bl i.toNat).Feats)))) : Ob) = .fam ((bl.set i.toNat (Template.mk (mkTx k') ((at_ bl i.toNat).Feats))).length) 3 (famUp i.toNat ((at_ (bl.set i.toNat (Template.mk (mkTx k') ((at_ bl i.toNat).Feats))) i.toNat).Feats).length (mTemplate (bl.set i.toNat (Template.mk (mkTx k') ((at_ bl i.toNat).Feats))))) (famUpF i.toNat (fFeat ((at_ (bl.set i.toNat (Template.mk (mkTx k') ((at_ bl i.toNat).Feats))) i.toNat).Feats)) (gTemplate (bl.set i.toNat (Template.mk (mkTx k') ((at_ bl i.toNat).Feats))))) ∨ obLe noOb true (.fam (bl.set i.toNat (Template.mk (mkTx k') ((at_ bl i.toNat).Feats))).length 3 (mTemplate (bl.set i.toNat (Template.mk (mkTx k') ((at_ bl i.toNat).Feats)))) (gTemplate (bl.set i.toNat (Template.mk (mkTx k') ((at_ bl i.toNat).Feats))))) (.fam ((bl.set i.toNat (Template.mk (mkTx k') ((at_ bl i.toNat).Feats))).length) 3 (famUp i.toNat ((at_ (bl.set i.toNat (Template.mk (mkTx k') ((at_ bl i.toNat).Feats))) i.toNat).Feats).length (mTemplate (bl.set i.toNat (Template.mk (mkTx k') ((at_ bl i.toNat).Feats))))) (famUpF i.toNat (fFeat ((at_ (bl.set i.toNat (Template.mk (mkTx k') ((at_ bl i.toNat).Feats))) i.toNat).Feats)) (gTemplate (bl.set i.toNat (Template.mk (mkTx k') ((at_ bl i.toNat).Feats))))))) ∧ taggedO false (.fam ((bl.set i.toNat (Template.mk (mkTx k') ((at_ bl i.toNat).Feats))).length) 3 (famUp i.toNat ((at_ (bl.set i.toNat (Template.mk (mkTx k') ((at_ bl i.toNat).Feats))) i.toNat).Feats).length (mTemplate (bl.set i.toNat (Template.mk (mkTx k') ((at_ bl i.toNat).Feats))))) (famUpF i.toNat (fFeat ((at_ (bl.set i.toNat (Template.mk (mkTx k') ((at_ bl i.toNat).Feats))) i.toNat).Feats)) (gTemplate (bl.set i.toNat (Template.mk (mkTx k') ((at_ bl i.toNat).Feats))))))) ∧ True] ⟨⟨(by (try simp only [List.length_set]); omega), (by (try simp only [List.length_set]); omega)⟩, (by (try simp only [List.length_set]); omega), ⟨hc1, ⟨.inr (fg_take rfl rfl), fg_tag (fun _ => tagcFeat false _) (fun _ _ => tagcFeat false _)⟩, trivial⟩, trivial⟩ ?_
     refine xe_block 1 ?_
     refine xe_then ?_
     refine x_weak [] (T := [(0, .arr 7400), (1, I v_1), (5, I i)]) (O := [(7400, .oar [7410] 2 (((bl.set i.toNat (Template.mk (mkTx k') ((at_ bl i.toNat).Feats))).set i.toNat (Template.withFeats (at_ (bl.set i.toNat (Template.mk (mkTx k') ((at_ bl i.toNat).Feats))) i.toNat) al'_1)).length) (oTemplate 7410 ((bl.set i.toNat (Template.mk (mkTx k') ((at_ bl i.toNat).Feats))).set i.toNat (Template.withFeats (at_ (bl.set i.toNat (Template.mk (mkTx k') ((at_ bl i.toNat).Feats))) i.toNat) al'_1)))), (7410, .fam ((bl.set i.toNat (Template.mk (mkTx k') ((at_ bl i.toNat).Feats))).set i.toNat (Template.withFeats (at_ (bl.set i.toNat (Template.mk (mkTx k') ((at_ bl i.toNat).Feats))) i.toNat) al'_1)).length 3 (mTemplate ((bl.set i.toNat (Template.mk (mkTx k') ((at_ bl i.toNat).Feats))).set i.toNat (Template.withFeats (at_ (bl.set i.toNat (Template.mk (mkTx k') ((at_ bl i.toNat).Feats))) i.toNat) al'_1))) (gTemplate ((bl.set i.toNat (Template.mk (mkTx k') ((at_ bl i.toNat).Feats))).set i.toNat (Template.withFeats (at_ (bl.set i.toNat (Template.mk (mkTx k') ((at_ bl i.toNat).Feats))) i.toNat) al'_1))))]) rfl (⟨.inl rfl, .inl rfl, .inl rfl, trivial⟩) (⟨.inr ⟨rfl, rfl, (by first | rfl | (simp; done) | omega), fun i_ hi_ => .inl (osetTemplate 7410 i.toNat (bl.set i.toNat (Template.mk (mkTx k') ((at_ bl i.toNat).Feats))) al'_1 i_)⟩, .inr (fputTemplate ((by (try simp only [List.length_set]); omega)) rfl (fun i_ _ => rfl)), trivial⟩) ?_
     refine x_r [] [0, 1, 5] [7400, 7410] [.arr 7400, I v_1, I (i + 1)] [some (.oar [7410] 2 (((bl.set i.toNat (Template.mk (mkTx k') ((at_ bl i.toNat).Feats))).set i.toNat (Template.withFeats (at_ (bl.set i.toNat (Template.mk (mkTx k') ((at_ bl i.toNat).Feats))) i.toNat) al'_1)).length) (oTemplate 7410 ((bl.set i.toNat (Template.mk (mkTx k') ((at_ bl i.toNat).Feats))).set i.toNat (Template.withFeats (at_ (bl.set i.toNat (Template.mk (mkTx k') ((at_ bl i.toNat).Feats))) i.toNat) al'_1)))), some (.fam ((bl.set i.toNat (Template.mk (mkTx k') ((at_ bl i.toNat).Feats))).set i.toNat (Template.withFeats (at_ (bl.set i.toNat (Template.mk (mkTx k') ((at_ bl i.toNat).Feats))) i.toNat) al'_1)).length 3 (mTemplate ((bl.set i.toNat (Template.mk (mkTx k') ((at_ bl i.toNat).Feats))).set i.toNat (Template.withFeats (at_ (bl.set i.toNat (Template.mk (mkTx k') ((at_ bl i.toNat).Feats))) i.toNat) al'_1))) (gTemplate ((bl.set i.toNat (Template.mk (mkTx k') ((at_ bl i.toNat).Feats))).set i.toNat (Template.withFeats (at_ (bl.set i.toNat (Template.mk (mkTx k') ((at_ bl i.toNat).Feats))) i.toNat) al'_1))))] [inR .i64 (i + 1)] ⟨(inR_i64 (by omega) (by omega)), trivial⟩ ?_
     exact xe_again (v_1, (i + 1), ((bl.set i.toNat (Template.mk (mkTx k') ((at_ bl i.toNat).Feats))).set i.toNat (Template.withFeats (at_ (bl.set i.toNat (Template.mk (mkTx k') ((at_ bl i.toNat).Feats))) i.toNat) al'_1))) rfl (show (0 ≤ (i + 1) ∧ (i + 1) ≤ (al.length : Int)) ∧ (((bl.set i.toNat (Template.mk (mkTx k') ((at_ bl i.toNat).Feats))).set i.toNat (Template.withFeats (at_ (bl.set i.toNat (Template.mk (mkTx k') ((at_ bl i.toNat).Feats))) i.toNat) al'_1)) = mTs k (al.take (i + 1).toNat) ++ al.drop (i + 1).toNat) ∧ (v_1 = nTs k (al.take (i + 1).toNat)) ∧ True from ⟨(by omega), (by rw [show (i + 1).toNat = i.toNat + 1 from by omega, (mTs_take hi k).1, ← hk1, List.set_set, at_setQ hib, ha1, hy0, mid_set hpl hi]; rfl), (by rw [show (i + 1).toNat = i.toNat + 1 from by omega, (mTs_take hi k).2, ← hk1, hx1_0, at_setQ hib]; simp only [hat, nTm]), trivial⟩) (by first | (show (((al.length : Int) - (i + 1)).toNat : Nat) < ((al.length : Int) - i).toNat; omega) | (dsimp only; omega))
    have hpl : (mTs k (al.take i.toNat)).length = i.toNat := by rw [mTs_len]; simp; omega
    have hl : bl.length = al.length := by rw [hy0]; exact mid_len hpl (by omega)
    have hie : i.toNat = al.length := by omega
    rw [hie, List.take_length] at hk1
    rw [hie, List.take_length, List.drop_length, List.append_nil] at hy0
    refine x_r [(3, .dec false)] [0, 1, 5, 9] [7400, 7410] [.arr 7400, I k', I i, Bv false] [some (.oar [7410] 2 bl.length (oTemplate 7410 bl)), some (.fam bl.length 3 (mTemplate bl) (gTemplate bl))] [¬ (i < (bl.length : Int))] ⟨h1, trivial⟩ ?_
    refine xe_then ?_
    refine x_false rfl ?_
    refine x_exit ?_
    refine xe_exit_then ?_
    refine xe_loop_exit ?_
    refine xe_exit_same ?_
    refine xe_then ?_
    refine xR [] [4] [7400, 7410] [I k'] [some (.oar [7410] 2 bl.length (oTemplate 7410 bl)), some (.fam bl.length 3 (mTemplate bl) (gTemplate bl))] [] trivial ?_
    refine x_ret ?_
    refine xe_end (k', bl) (show (k' = nTs k al) ∧ (bl = mTs k al) ∧ (True) from ⟨(by first | exact hk1 | exact hy0), (by first | exact hk1 | exact hy0), trivial⟩) (⟨.inl rfl, .inl rfl, trivial⟩) (I k') (by kernel_rfl) (.inl rfl) (fun _ => rfl) (fun _ => trivial)
  obtain ⟨⟨v, al'⟩, ⟨hh0, hh1, _⟩, hc⟩ := hh
  exact ⟨v, al', hh0, hh1, hc⟩


-- laws.markStore
theorem markStore_ok (al : Store) (k : Int) (hk : 0 ≤ k ∧ nTs k al.Templates ≤ 4000000) : ∃ (v : Int) (al_Templates : List Template), (v = nTs k al.Templates) ∧ (al_Templates = mTs k al.Templates) ∧ CallOK Try.prog 11 [.agg [I al.Band, .arr 7400], I k] (lookO [(7400, .oar [7410] 2 al.Templates.length (oTemplate 7410 al.Templates)), (7410, .fam al.Templates.length 3 (mTemplate al.Templates) (gTemplate al.Templates))]) true (I v) (lookO [(7400, .oar [7410] 2 al_Templates.length (oTemplate 7410 al_Templates)), (7410, .fam al_Templates.length 3 (mTemplate al_Templates) (gTemplate al_Templates))]) := by
  have hh : ∃ r : Int × (List Template), ((r.1 = nTs k al.Templates) ∧ (r.2 = mTs k al.Templates) ∧ (True)) ∧ CallOK Try.prog 11 [.agg [I al.Band, .arr 7400], I k] (lookO [(7400, .oar [7410] 2 al.Templates.length (oTemplate 7410 al.Templates)), (7410, .fam al.Templates.length 3 (mTemplate al.Templates) (gTemplate al.Templates))]) true (I r.1) (lookO [(7400, .oar [7410] 2 r.2.length (oTemplate 7410 r.2)), (7410, .fam r.2.length 3 (mTemplate r.2) (gTemplate r.2))]) := by
    refine fn_okX (Φ := fun r : Int × (List Template) => (r.1 = nTs k al.Templates) ∧ (r.2 = mTs k al.Templates) ∧ (True)) [(7400, .oar [7410] 2 al.Templates.length (oTemplate 7410 al.Templates)), (7410, .fam al.Templates.length 3 (mTemplate al.Templates) (gTemplate al.Templates))] (fun r => [(7400, .oar [7410] 2 r.2.length (oTemplate 7410 r.2)), (7410, .fam r.2.length 3 (mTemplate r.2) (gTemplate r.2))]) (fn := Try.f11) (nt := 10) Try.func11 rfl rfl (args := [.agg [I al.Band, .arr 7400], I k]) rfl (allcons (.inr (by simp [tagged, taggedL])) (allcons (.inl ⟨rfl, trivial⟩) allnil)) (res := fun r => I r.1) ?_
    refine xR [(0, .new 2)] [1, 2] [2, 7400, 7410] [I k, .ref 2 0] [some (.box [I al.Band, .arr 7400]), some (.oar [7410] 2 al.Templates.length (oTemplate 7410 al.Templates)), some (.fam al.Templates.length 3 (mTemplate al.Templates) (gTemplate al.Templates))] [] trivial ?_
    refine x_seq ?_
    obtain ⟨v_1, al'_1, hx1_0, hx1_1, hc1⟩ := markTemplateS_ok al.Templates k hk
    refine x_r [(3, .lend [(7400, .oar [7410] 2 al.Templates.length (oTemplate 7410 al.Templates), .oar [7410] 2 al'_1.length (oTemplate 7410 al'_1)), (7410, .fam al.Templates.length 3 (mTemplate al.Templates) (gTemplate al.Templates), .fam al'_1.length 3 (mTemplate al'_1) (gTemplate al'_1))] [] [(true, .any), (true, .any)] true (I v_1))] [1] [7400, 7410] [I v_1] [some (.oar [7410] 2 al'_1.length (oTemplate 7410 al'_1)), some (.fam al'_1.length 3 (mTemplate al'_1) (gTemplate al'_1))] [CallOK Try.prog 27 [.arr 7400, I k] (lookO [(7400, .oar [7410] 2 al.Templates.length (oTemplate 7410 al.Templates)), (7410, .fam al.Templates.length 3 (mTemplate al.Templates) (gTemplate al.Templates))]) true (I v_1) (lookO [(7400, .oar [7410] 2 al'_1.length (oTemplate 7410 al'_1)), (7410, .fam al'_1.length 3 (mTemplate al'_1) (gTemplate al'_1))]) ∧ (((.oar [7410] 2 al.Templates.length (oTemplate 7410 al.Templates) : Ob) = .oar [7410] 2 al.Templates.length (oTemplate 7410 al.Templates) ∨ obLe noOb true (.oar [7410] 2 al.Templates.length (oTemplate 7410 al.Templates)) (.oar [7410] 2 al.Templates.length (oTemplate 7410 al.Templates))) ∧ taggedO false (.oar [7410] 2 al.Templates.length (oTemplate 7410 al.Templates))) ∧ (((.fam al.Templates.length 3 (mTemplate al.Templates) (gTemplate al.Templates) : Ob) = .fam al.Templates.length 3 (mTemplate al.Templates) (gTemplate al.Templates) ∨ obLe noOb true (.fam al.Templates.length 3 (mTemplate al.Templates) (gTemplate al.Templates)) (.fam al.Templates.length 3 (mTemplate al.Templates) (gTemplate al.Templates))) ∧ taggedO false (.fam al.Templates.length 3 (mTemplate al.Templates) (gTemplate al.Templates))) ∧ True] ⟨⟨hc1, ⟨.inl rfl, (by intro i_ _; simp [oTemplate, oTemplatec, taggedL, tagged])⟩, ⟨.inl rfl, (fun _ _ _ _ => tagcFeat false _)⟩, trivial⟩, trivial⟩ ?_
    refine xe_then ?_
    refine xR [] [4] [7400, 7410] [I v_1] [some (.oar [7410] 2 al'_1.length (oTemplate 7410 al'_1)), some (.fam al'_1.length 3 (mTemplate al'_1) (gTemplate al'_1))] [] trivial ?_
    refine x_ret ?_
    refine xe_end (v_1, al'_1) (show (v_1 = nTs k al.Templates) ∧ (al'_1 = mTs k al.Templates) ∧ (True) from ⟨(by assumption), (by assumption), trivial⟩) (⟨.inl rfl, .inl rfl, trivial⟩) (I v_1) (by kernel_rfl) (.inl rfl) (fun _ => rfl) (fun _ => trivial)
  obtain ⟨⟨v, al_Templates⟩, ⟨hh0, hh1, _⟩, hc⟩ := hh
  exact ⟨v, al_Templates, hh0, hh1, hc⟩


-- laws.heldFeatS
theorem heldFeatS_ok (a : List Feat) (k : Int) (hk : 0 ≤ k ∧ k ≤ 100000000 ∧ a.length ≤ 2000000) (ha : a = mkL k a.length) : Con Try.prog 50 [slFeat false a, I k] true (I (k + 3 * (a.length : Int))) := by
  refine fn_ok (fn := Try.f50) (nt := 40) Try.func50 rfl rfl rfl rfl (by simp [taggedL, tagged, tagFeat]) fun B hB => ?_
  refine aw_lens (x := slFeat false a) 0 rfl (fun len_a => ?_)
  simp [LenOK, LenL, cFeat, fFeat, slFeat] at len_a
  refine aR [] [0, 1] [] [slFeat false a, I k] [] [] hB trivial ?_
  refine aw_seq ?_
  refine aR [] [0, 1, 5] [] [slFeat false a, I k, I 0] [] [] hB trivial ?_
  refine aw_block ?_
  refine aw_loop (fun gn gσ => ∃ (k' : Int) (i : Int), gn = ((a.length : Int) - i).toNat ∧ (0 ≤ i ∧ i ≤ (a.length : Int)) ∧ (k' = k + 3 * i) ∧ gσ = mkS [(0, slFeat false a), (1, I k'), (5, I i)] []) (((a.length : Int) - 0).toNat) ⟨k, 0, rfl, (by omega), (by omega), rfl⟩ (fun gn gσ hI => ?_)
  obtain ⟨k', i, rfl, hi0, hk1, rfl⟩ := hI
  refine aw_seq ?_
  refine aw_seq ?_
  by_cases h1 : i < (a.length : Int)
  ·have hi : i.toNat < a.length := by omega
   have hat : at_ a i.toNat = ⟨k + 3 * (i.toNat : Int), k + 3 * (i.toNat : Int) + 1, k + 3 * (i.toNat : Int) + 2⟩ := (congrArg (fun z => at_ z i.toNat) ha).trans (mkL_at hi)
   refine aw_r [(3, .dec true)] [0, 1, 5, 9] [] [slFeat false a, I k', I i, Bv true] [] [i < (a.length : Int)] hB ⟨h1, trivial⟩ ?_
   refine ae_then ?_
   refine aw_true rfl ?_
   refine aw_skip ?_
   refine ae_then ?_
   refine aw_seq ?_
   refine aw_block ?_
   refine aw_seq ?_
   refine aR [(6, .dec false)] [0, 1, 5, 18] [] [slFeat false a, I k', I i, Bv false] [] [(0 : Int) ≤ i ∧ i < (a.length : Int), ¬ (((at_ a i.toNat).X) ≠ k')] hB ⟨⟨(by omega), (by omega)⟩, (fun hq => hq (by rw [hat]; simp only; omega)), trivial⟩ ?_
   refine aw_false rfl ?_
   refine aw_skip ?_
   refine ae_then ?_
   refine aR [] [0, 1, 5] [] [slFeat false a, I (k' + 1), I i] [] [inR .i64 (k' + 1)] hB ⟨(inR_i64 (by omega) (by omega)), trivial⟩ ?_
   refine aw_seq ?_
   refine aR [(6, .dec false)] [0, 1, 5, 27] [] [slFeat false a, I (k' + 1), I i, Bv false] [] [(0 : Int) ≤ i ∧ i < (a.length : Int), ¬ (((at_ a i.toNat).Y) ≠ (k' + 1))] hB ⟨⟨(by omega), (by omega)⟩, (fun hq => hq (by rw [hat]; simp only; omega)), trivial⟩ ?_
   refine aw_false rfl ?_
   refine aw_skip ?_
   refine ae_then ?_
   refine aR [] [0, 1, 5] [] [slFeat false a, I ((k' + 1) + 1), I i] [] [inR .i64 ((k' + 1) + 1)] hB ⟨(inR_i64 (by omega) (by omega)), trivial⟩ ?_
   refine aw_seq ?_
   refine aR [(6, .dec false)] [0, 1, 5, 36] [] [slFeat false a, I ((k' + 1) + 1), I i, Bv false] [] [(0 : Int) ≤ i ∧ i < (a.length : Int), ¬ (((at_ a i.toNat).D) ≠ ((k' + 1) + 1))] hB ⟨⟨(by omega), (by omega)⟩, (fun hq => hq (by rw [hat]; simp only; omega)), trivial⟩ ?_
   refine aw_false rfl ?_
   refine aw_skip ?_
   refine ae_then ?_
   refine aw_r [] [0, 1, 5] [] [slFeat false a, I (((k' + 1) + 1) + 1), I i] [] [inR .i64 (((k' + 1) + 1) + 1)] hB ⟨(inR_i64 (by omega) (by omega)), trivial⟩ ?_
   refine ae_block 1 ?_
   refine ae_then ?_
   refine aw_r [] [0, 1, 5] [] [slFeat false a, I (((k' + 1) + 1) + 1), I (i + 1)] [] [inR .i64 (i + 1)] hB ⟨(inR_i64 (by omega) (by omega)), trivial⟩ ?_
   exact ae_again _ (by omega) ⟨(((k' + 1) + 1) + 1), (i + 1), rfl, (by omega), (by omega), rfl⟩
  refine aw_r [(3, .dec false)] [0, 1, 5, 9] [] [slFeat false a, I k', I i, Bv false] [] [¬ (i < (a.length : Int))] hB ⟨h1, trivial⟩ ?_
  refine ae_then ?_
  refine aw_false rfl ?_
  refine aw_exit ?_
  refine ae_exit_then ?_
  refine ae_exit_then ?_
  refine ae_exit_same ?_
  refine ae_then ?_
  refine aR [] [4] [] [I k'] [] [] hB trivial ?_
  refine aw_ret ?_
  refine ae_ret hB (I k') (by kernel_rfl) (.inl (by refine congrArg I ?_; omega)) rfl (fun _ => trivial)


theorem mTs_self {l : List Template} {k : Int} (h : l = mTs k l) {i : Nat} (hi : i < l.length) : at_ l i = mTm (nTs k (l.take i)) (at_ l i) := by
  have e : mTs k l = (mTs k (l.take i) ++ [mTm (nTs k (l.take i)) (at_ l i)]) ++ mTs (nTs k (l.take (i + 1))) (l.drop (i + 1)) := by
    rw [← (mTs_take hi k).1, ← mTs_app, List.take_append_drop]
  have hp : (mTs k (l.take i)).length = i := by rw [mTs_len]; simp; omega
  have h2 : at_ l i = at_ ((mTs k (l.take i) ++ [mTm (nTs k (l.take i)) (at_ l i)]) ++ mTs (nTs k (l.take (i + 1))) (l.drop (i + 1))) i := congrArg (fun z => at_ z i) (h.trans e)
  rw [List.append_assoc, at_right (by omega), hp, Nat.sub_self] at h2
  exact h2

-- laws.heldTemplateS
theorem heldTemplateS_ok (a : List Template) (k : Int) (hk : 0 ≤ k ∧ nTs k a ≤ 4000000) (ha : a = mTs k a) : Con Try.prog 36 [slTemplate false a, I k] true (I (nTs k a)) := by
  have hb0 := nTs_lo a k
  refine fn_ok (fn := Try.f36) (nt := 32) Try.func36 rfl rfl rfl rfl (by simp [taggedL, tagged, tagTemplate]) fun B hB => ?_
  refine aw_lens (x := slTemplate false a) 0 rfl (fun len_a => ?_)
  simp [LenOK, LenL, cFeat, cTemplate, fFeat, fTemplate, slFeat, slTemplate] at len_a
  refine aR [] [0, 1] [] [slTemplate false a, I k] [] [] hB trivial ?_
  refine aw_seq ?_
  refine aR [] [0, 1, 5] [] [slTemplate false a, I k, I 0] [] [] hB trivial ?_
  refine aw_block ?_
  refine aw_loop (fun gn gσ => ∃ (k' : Int) (i : Int), gn = ((a.length : Int) - i).toNat ∧ (0 ≤ i ∧ i ≤ (a.length : Int)) ∧ (k' = nTs k (a.take i.toNat)) ∧ gσ = mkS [(0, slTemplate false a), (1, I k'), (5, I i)] []) (((a.length : Int) - 0).toNat) ⟨k, 0, rfl, (by omega), (by rfl), rfl⟩ (fun gn gσ hI => ?_)
  obtain ⟨k', i, rfl, hi0, hk1, rfl⟩ := hI
  refine aw_seq ?_
  refine aw_seq ?_
  by_cases h1 : i < (a.length : Int)
  ·have hi : i.toNat < a.length := by omega
   have hbd := nTs_lo (a.take i.toNat) k
   have hmid := nTs_mid hi k
   unfold nTm at hmid
   have hat : at_ a i.toNat = mTm k' (at_ a i.toNat) := (mTs_self ha hi).trans (by rw [← hk1])
   have hLabel : (at_ a i.toNat).Label = mkTx k' := congrArg (fun t : Template => t.Label) hat
   have hFeats : (at_ a i.toNat).Feats = mkL (k' + 1) (at_ a i.toNat).Feats.length := congrArg (fun t : Template => t.Feats) hat
   refine aw_r [(3, .dec true)] [0, 1, 5, 9] [] [slTemplate false a, I k', I i, Bv true] [] [i < (a.length : Int)] hB ⟨h1, trivial⟩ ?_
   refine ae_then ?_
   refine aw_true rfl ?_
   refine aw_skip ?_
   refine ae_then ?_
   refine aw_seq ?_
   refine aw_block ?_
   refine aw_seq ?_
   refine aR [(6, .call [(true, .any)] true (Sv (mkTx k'))), (7, .dec false)] [0, 1, 5, 19] [] [slTemplate false a, I k', I i, Bv false] [] [(0 : Int) ≤ i ∧ i < (a.length : Int), Con Try.prog 48 [I k'] true (Sv (mkTx k')) ∧ True, ¬ (((at_ a i.toNat).Label) ≠ (mkTx k'))] hB ⟨⟨(by omega), (by omega)⟩, ⟨(markText_ok k' (by omega)), trivial⟩, (fun hq => hq hLabel), trivial⟩ ?_
   refine aw_false rfl ?_
   refine aw_skip ?_
   refine ae_then ?_
   refine aR [] [0, 1, 5] [] [slTemplate false a, I (k' + 1), I i] [] [inR .i64 (k' + 1)] hB ⟨(inR_i64 (by omega) (by omega)), trivial⟩ ?_
   refine aR [(6, .call [(true, .any), (true, .any)] true (I ((k' + 1) + 3 * (((at_ a i.toNat).Feats).length : Int))))] [0, 1, 5] [] [slTemplate false a, I ((k' + 1) + 3 * (((at_ a i.toNat).Feats).length : Int)), I i] [] [(0 : Int) ≤ i ∧ i < (a.length : Int), Con Try.prog 50 [slFeat false ((at_ a i.toNat).Feats), I (k' + 1)] true (I ((k' + 1) + 3 * (((at_ a i.toNat).Feats).length : Int))) ∧ True] hB ⟨⟨(by omega), (by omega)⟩, ⟨(heldFeatS_ok ((at_ a i.toNat).Feats) (k' + 1) (by omega) hFeats), trivial⟩, trivial⟩ ?_
   refine aR [(1, .dec false)] [0, 1, 5, 30] [] [slTemplate false a, I ((k' + 1) + 3 * (((at_ a i.toNat).Feats).length : Int)), I i, Bv false] [] [¬ (((k' + 1) + 3 * (((at_ a i.toNat).Feats).length : Int)) < 0)] hB ⟨(by omega), trivial⟩ ?_
   refine aw_false rfl ?_
   refine aw_skip ?_
   refine ae_block 1 ?_
   refine ae_then ?_
   refine aw_r [] [0, 1, 5] [] [slTemplate false a, I ((k' + 1) + 3 * (((at_ a i.toNat).Feats).length : Int)), I (i + 1)] [] [inR .i64 (i + 1)] hB ⟨(inR_i64 (by omega) (by omega)), trivial⟩ ?_
   exact ae_again _ (by omega) ⟨((k' + 1) + 3 * (((at_ a i.toNat).Feats).length : Int)), (i + 1), rfl, (by omega), (by rw [show (i + 1).toNat = i.toNat + 1 from by omega, (mTs_take hi k).2, ← hk1]; unfold nTm; omega), rfl⟩
  have hie : i.toNat = a.length := by omega
  rw [hie, List.take_length] at hk1
  refine aw_r [(3, .dec false)] [0, 1, 5, 9] [] [slTemplate false a, I k', I i, Bv false] [] [¬ (i < (a.length : Int))] hB ⟨h1, trivial⟩ ?_
  refine ae_then ?_
  refine aw_false rfl ?_
  refine aw_exit ?_
  refine ae_exit_then ?_
  refine ae_exit_then ?_
  refine ae_exit_same ?_
  refine ae_then ?_
  refine aR [] [4] [] [I k'] [] [] hB trivial ?_
  refine aw_ret ?_
  refine ae_ret hB (I k') (by kernel_rfl) (.inl (by rw [hk1])) rfl (fun _ => trivial)


theorem mTm_idem (k : Int) (t : Template) : mTm k (mTm k t) = mTm k t := by simp only [mTm, mkL_len]
theorem nTm_idem (k : Int) (t : Template) : nTm k (mTm k t) = nTm k t := by simp only [mTm, nTm, mkL_len]
theorem mTs_idem : ∀ (l : List Template) (k : Int), mTs k (mTs k l) = mTs k l
  | [], k => rfl
  | t :: r, k => by simp only [mTs]; rw [mTm_idem, nTm_idem, mTs_idem r]
theorem nTs_idem : ∀ (l : List Template) (k : Int), nTs k (mTs k l) = nTs k l
  | [], k => rfl
  | t :: r, k => by simp only [mTs, nTs]; rw [nTm_idem, nTs_idem r]
theorem tmT_n : ∀ (l : List Trained) (k : Int), (∀ t ∈ l, t.Feats.length ≤ 72) → nTs k (l.map tmT) ≤ k + 217 * (l.length : Int)
  | [], k, _ => by simp [nTs]
  | t :: r, k, h => by
    have h1 := tmT_n r (nTm k (tmT t)) fun x hx => h x (List.mem_cons_of_mem _ hx)
    have h2 := h t (List.mem_cons_self ..)
    simp only [List.map_cons, nTs, List.length_cons]
    unfold nTm tmT at *
    simp only at *
    omega
theorem swR_n (w : Writer) : nTs 1 (swR w).1.Templates ≤ 4000000 := by
  cases h : okWriter' w with
  | false => rw [swR_no h]; decide
  | true =>
    rw [swR_yes h]
    have h2 := okWr_len h
    have := tmT_n w.Trained 1 fun t ht => by
      obtain ⟨j, hj, e⟩ := List.getElem_of_mem ht
      have := h2.2 j hj
      rw [at_eq hj, e] at this; exact this
    show nTs 1 (w.Trained.map tmT) ≤ _
    omega

-- laws.heldStore
theorem heldStore_ok (a : Store) (k : Int) (hk : 0 ≤ k ∧ nTs k a.Templates ≤ 4000000) (ha : a.Templates = mTs k a.Templates) : Con Try.prog 18 [agStore a, I k] true (I (nTs k a.Templates)) := by
  have hnb := nTs_lo a.Templates k
  refine fn_ok (fn := Try.f18) (nt := 12) Try.func18 rfl rfl rfl rfl (by simp [taggedL, tagged, tagTemplate]) fun B hB => ?_
  refine aw_lens (x := agStore a) 0 rfl (fun len_a => ?_)
  simp [LenOK, LenL, cFeat, cTemplate, fFeat, fTemplate, slFeat, slTemplate] at len_a
  refine aR [(0, .new 2)] [1, 2] [2] [I k, .ref 2 0] [some (bxStore a)] [] hB trivial ?_
  refine aR [(3, .call [(true, .any), (true, .any)] true (I (nTs k a.Templates)))] [1] [] [I (nTs k a.Templates)] [] [Con Try.prog 36 [slTemplate false a.Templates, I k] true (I (nTs k a.Templates)) ∧ True] hB ⟨⟨(heldTemplateS_ok a.Templates k hk ha), trivial⟩, trivial⟩ ?_
  refine aw_seq ?_
  refine aR [(1, .dec false)] [1, 10] [] [I (nTs k a.Templates), Bv false] [] [¬ ((nTs k a.Templates) < 0)] hB ⟨(by omega), trivial⟩ ?_
  refine aw_false rfl ?_
  refine aw_skip ?_
  refine ae_then ?_
  refine aR [] [4] [] [I (nTs k a.Templates)] [] [] hB trivial ?_
  refine aw_ret ?_
  refine ae_ret hB (I (nTs k a.Templates)) (by kernel_rfl) (.inl rfl) rfl (fun _ => trivial)


theorem same_self {α : Type} [DecidableEq α] (x : α) : same x x = true := by simp [same]

-- laws.FnExactStoreOfWriter
theorem fnExactStoreOfWriter_con (aW : Writer) (ok_aW : okWriter aW) : Con Try.prog 4 [agWriter aW] true (Bv true) := by
  refine fn_ok (fn := Try.f4) (nt := 96) Try.func4 rfl rfl rfl rfl (by simp [taggedL, tagged, tagTrained]) fun B hB => ?_
  refine aw_lens (x := agWriter aW) 0 rfl (fun len_aW => ?_)
  simp [LenOK, LenL, cFeat, cTrained, fFeat, fTrained, slFeat, slTrained] at len_aW
  refine aR [(0, .new 1)] [1] [1] [.ref 1 0] [some (bxWriter aW)] [] hB trivial ?_
  refine aR [] [1, 3] [1] [.ref 1 0, I 1048576] [some (bxWriter aW)] [] hB trivial ?_
  refine aR [(2, .call [(true, .any), (true, .any)] true (I (szTake 1048576 (bulkWriter aW))))] [1, 3] [1] [.ref 1 0, I (szTake 1048576 (bulkWriter aW))] [some (bxWriter aW)] [Con Try.prog 14 [agWriter aW, I 1048576] true (I (szTake 1048576 (bulkWriter aW))) ∧ True] hB ⟨⟨(szWriter_ok aW 1048576 (by omega) ok_aW), trivial⟩, trivial⟩ ?_
  refine aw_seq ?_
  refine aw_seq ?_
  by_cases h1 : (szTake 1048576 (bulkWriter aW)) < 0
  ·refine aw_r [(1, .dec true)] [1, 18] [1] [.ref 1 0, Bv true] [some (bxWriter aW)] [(szTake 1048576 (bulkWriter aW)) < 0] hB ⟨h1, trivial⟩ ?_
   refine ae_then ?_
   refine aw_true rfl ?_
   refine aR [] [2] [] [Bv true] [] [] hB trivial ?_
   refine aw_ret ?_
   refine ae_ret_then ?_
   refine ae_ret hB (Bv true) (by kernel_rfl) (.inl rfl) rfl (fun _ => trivial)
  have eb := szTake_nn h1
  unfold bulkWriter at eb
  refine aw_r [(1, .dec false)] [1, 18] [1] [.ref 1 0, Bv false] [some (bxWriter aW)] [¬ ((szTake 1048576 (bulkWriter aW)) < 0)] hB ⟨h1, trivial⟩ ?_
  refine ae_then ?_
  refine aw_false rfl ?_
  refine aw_skip ?_
  refine ae_then ?_
  refine aw_seq ?_
  obtain ⟨ts_1, hx1_0, hc1⟩ := toWriter_own aW (by omega)
  obtain ⟨v_2, c_2, hx2_0, hx2_1, hc2⟩ := specStoreOfWriter_ok (Writer.mk aW.Band ts_1) (by subst_vars; exact ok_aW)
  refine aw_r [(1, .lend [] [(7401, .oar [7411, 7412] 4 ts_1.length (oTrained 7411 7412 ts_1)), (7411, .fam ts_1.length 3 (mTrainedBase ts_1) (gTrainedBase ts_1)), (7412, .fam ts_1.length 3 (mTrainedFeats ts_1) (gTrainedFeats ts_1))] [(true, .any)] false (.agg [I aW.Band, .arr 7401])), (2, .call [(false, .agg [I aW.Band, slTrained false ts_1])] true (.tup [agStoreT v_2, I c_2])), (6, .new 4)] [1, 4, 5] [1, 4] [.ref 1 0, .ref 4 0, I c_2] [some (bxWriter aW), some (bxStoreT v_2)] [CallOK Try.prog 16 [agWriter aW] (lookO []) false (.agg [I aW.Band, .arr 7401]) (lookO [(7401, .oar [7411, 7412] 4 ts_1.length (oTrained 7411 7412 ts_1)), (7411, .fam ts_1.length 3 (mTrainedBase ts_1) (gTrainedBase ts_1)), (7412, .fam ts_1.length 3 (mTrainedFeats ts_1) (gTrainedFeats ts_1))]) ∧ True, Con Try.prog 15 [.agg [I aW.Band, slTrained false ts_1]] true (.tup [agStoreT v_2, I c_2]) ∧ ((valOf (I aW.Band) = valOf (I aW.Band)) ∧ ((false = true → true = true) ∧ 4 = 4 ∧ ts_1.length = ts_1.length ∧ ∀ i_, i_ < ts_1.length → AV.idsL ((fTrained false ts_1) i_) = [] ∧ leL (lookO [(7411, .fam ts_1.length 3 (mTrainedBase ts_1) (gTrainedBase ts_1)), (7412, .fam ts_1.length 3 (mTrainedFeats ts_1) (gTrainedFeats ts_1))]) true ((oTrained 7411 7412 ts_1) i_) ((fTrained false ts_1) i_)) ∧ ([] : List AV) = []) ∧ True] hB ⟨⟨hc1, trivial⟩, ⟨hc2, ⟨rfl, ⟨⟨(fun h => by cases h), rfl, rfl, oleTrained _ _ rfl rfl⟩, rfl⟩⟩, trivial⟩, trivial⟩ ?_
  refine ae_then ?_
  refine aR [(1, .lend [] [(7401, .oar [7411, 7412] 4 ts_1.length (oTrained 7411 7412 ts_1)), (7411, .fam ts_1.length 3 (mTrainedBase ts_1) (gTrainedBase ts_1)), (7412, .fam ts_1.length 3 (mTrainedFeats ts_1) (gTrainedFeats ts_1))] [(true, .any)] false (.agg [I aW.Band, .arr 7401])), (2, .new 6)] [1, 4, 5, 6] [1, 4, 6, 7401, 7411, 7412] [.ref 1 0, .ref 4 0, I c_2, .ref 6 0] [some (bxWriter aW), some (bxStoreT v_2), some (.box [I aW.Band, .arr 7401]), some (.oar [7411, 7412] 4 ts_1.length (oTrained 7411 7412 ts_1)), some (.fam ts_1.length 3 (mTrainedBase ts_1) (gTrainedBase ts_1)), some (.fam ts_1.length 3 (mTrainedFeats ts_1) (gTrainedFeats ts_1))] [CallOK Try.prog 16 [agWriter aW] (lookO []) false (.agg [I aW.Band, .arr 7401]) (lookO [(7401, .oar [7411, 7412] 4 ts_1.length (oTrained 7411 7412 ts_1)), (7411, .fam ts_1.length 3 (mTrainedBase ts_1) (gTrainedBase ts_1)), (7412, .fam ts_1.length 3 (mTrainedFeats ts_1) (gTrainedFeats ts_1))]) ∧ True] hB ⟨⟨hc1, trivial⟩, trivial⟩ ?_
  refine aw_seq ?_
  obtain ⟨ts_3, hx3_0, hc3⟩ := implStoreOfWriter_ok (Writer.mk aW.Band ts_1) (by subst_vars; exact ok_aW)
  refine aw_r [(1, .lendT [] [(7400, .oar [7410] 2 ts_3.length (oTemplate 7410 ts_3)), (7410, .fam ts_3.length 3 (mTemplate ts_3) (gTemplate ts_3))] [(false, .agg [I aW.Band, slTrained false ts_1])] false (.tup [.agg [I ((swR (Writer.mk aW.Band ts_1)).1.Band), .arr 7400], I ((swR (Writer.mk aW.Band ts_1)).2)])), (5, .new 7)] [1, 4, 5, 6, 7, 8] [1, 4, 6, 7, 7400, 7401, 7410, 7411, 7412] [.ref 1 0, .ref 4 0, I c_2, .ref 6 0, .ref 7 0, I ((swR (Writer.mk aW.Band ts_1)).2)] [some (bxWriter aW), some (bxStoreT v_2), some (.box [I aW.Band, .arr 7401]), some (.box [I ((swR (Writer.mk aW.Band ts_1)).1.Band), .arr 7400]), some (.oar [7410] 2 ts_3.length (oTemplate 7410 ts_3)), some (.oar [7411, 7412] 4 ts_1.length (oTrained 7411 7412 ts_1)), some (.fam ts_3.length 3 (mTemplate ts_3) (gTemplate ts_3)), some (.fam ts_1.length 3 (mTrainedBase ts_1) (gTrainedBase ts_1)), some (.fam ts_1.length 3 (mTrainedFeats ts_1) (gTrainedFeats ts_1))] [CallOK Try.prog 17 [.agg [I aW.Band, slTrained false ts_1]] (lookO []) false (.tup [.agg [I ((swR (Writer.mk aW.Band ts_1)).1.Band), .arr 7400], I ((swR (Writer.mk aW.Band ts_1)).2)]) (lookO [(7400, .oar [7410] 2 ts_3.length (oTemplate 7410 ts_3)), (7410, .fam ts_3.length 3 (mTemplate ts_3) (gTemplate ts_3))]) ∧ allTag [(7400, .oar [7410] 2 ts_3.length (oTemplate 7410 ts_3)), (7410, .fam ts_3.length 3 (mTemplate ts_3) (gTemplate ts_3))] ∧ tagged true (.tup [.agg [I ((swR (Writer.mk aW.Band ts_1)).1.Band), .arr 7400], I ((swR (Writer.mk aW.Band ts_1)).2)]) ∧ ((valOf (I aW.Band) = valOf (I aW.Band)) ∧ ((false = true → true = true) ∧ 4 = 4 ∧ ts_1.length = ts_1.length ∧ ∀ i_, i_ < ts_1.length → AV.idsL ((fTrained false ts_1) i_) = [] ∧ leL (lookO [(7411, .fam ts_1.length 3 (mTrainedBase ts_1) (gTrainedBase ts_1)), (7412, .fam ts_1.length 3 (mTrainedFeats ts_1) (gTrainedFeats ts_1))]) true ((oTrained 7411 7412 ts_1) i_) ((fTrained false ts_1) i_)) ∧ ([] : List AV) = []) ∧ True] hB ⟨⟨hc3, ⟨(by intro i_ _; simp [oTemplate, oTemplatec, taggedL, tagged]), (fun _ _ _ _ => tagcFeat true _), trivial⟩, (by simp [tagged, taggedL]), ⟨rfl, ⟨⟨(fun h => by cases h), rfl, rfl, oleTrained _ _ rfl rfl⟩, rfl⟩⟩, trivial⟩, trivial⟩ ?_
  refine ae_then ?_
  refine aw_seq ?_
  refine aR [(2, .call [(false, .agg [I ((swR (Writer.mk aW.Band ts_1)).1.Band), slTemplate false ts_3]), (false, agStore v_2)] true (Bv true)), (7, .dec false)] [1, 4, 5, 6, 7, 8, 40] [1, 4, 6, 7, 7400, 7401, 7410, 7411, 7412] [.ref 1 0, .ref 4 0, I c_2, .ref 6 0, .ref 7 0, I ((swR (Writer.mk aW.Band ts_1)).2), Bv false] [some (bxWriter aW), some (bxStoreT v_2), some (.box [I aW.Band, .arr 7401]), some (.box [I ((swR (Writer.mk aW.Band ts_1)).1.Band), .arr 7400]), some (.oar [7410] 2 ts_3.length (oTemplate 7410 ts_3)), some (.oar [7411, 7412] 4 ts_1.length (oTrained 7411 7412 ts_1)), some (.fam ts_3.length 3 (mTemplate ts_3) (gTemplate ts_3)), some (.fam ts_1.length 3 (mTrainedBase ts_1) (gTrainedBase ts_1)), some (.fam ts_1.length 3 (mTrainedFeats ts_1) (gTrainedFeats ts_1))] [Con Try.prog 10 [.agg [I ((swR (Writer.mk aW.Band ts_1)).1.Band), slTemplate false ts_3], agStore v_2] true (Bv true) ∧ ((valOf (I ((swR (Writer.mk aW.Band ts_1)).1.Band)) = valOf (I ((swR (Writer.mk aW.Band ts_1)).1.Band))) ∧ ((false = true → true = true) ∧ 2 = 2 ∧ ts_3.length = ts_3.length ∧ ∀ i_, i_ < ts_3.length → AV.idsL ((fTemplate false ts_3) i_) = [] ∧ leL (lookO [(7410, .fam ts_3.length 3 (mTemplate ts_3) (gTemplate ts_3))]) true ((oTemplate 7410 ts_3) i_) ((fTemplate false ts_3) i_)) ∧ ([] : List AV) = []) ∧ ((valOf (I v_2.Band) = valOf (I v_2.Band)) ∧ ((false = true → true = true) ∧ 2 = 2 ∧ v_2.Templates.length = v_2.Templates.length ∧ ∀ i_, i_ < v_2.Templates.length → (fTemplate true v_2.Templates) i_ = (fTemplate false v_2.Templates) i_ ∨ (AV.idsL ((fTemplate false v_2.Templates) i_) = [] ∧ leL (fun _ => none) false ((fTemplate true v_2.Templates) i_) ((fTemplate false v_2.Templates) i_))) ∧ ([] : List AV) = []) ∧ True, ¬ (((swR (Writer.mk aW.Band ts_1)).2) ≠ c_2)] hB ⟨⟨(con_bool (by subst_vars; exact same_self _) (eqStore_ok (Store.mk ((swR (Writer.mk aW.Band ts_1)).1.Band) ts_3) v_2)), ⟨rfl, ⟨⟨(fun h => by cases h), rfl, rfl, oleTemplate _ _ rfl⟩, rfl⟩⟩, ⟨rfl, ⟨⟨(fun h => by cases h), rfl, rfl, fun i _ => .inr ⟨idsTemplate _ _, leTemplate _ _ _⟩⟩, rfl⟩⟩, trivial⟩, (fun hq => hq (by subst_vars; first | rfl | exact nTs_idem _ _ | exact (nTs_idem _ _).symm | (simp only [nTs_idem]; done))), trivial⟩ ?_
  refine aw_false rfl ?_
  refine aw_skip ?_
  refine ae_then ?_
  refine aw_seq ?_
  refine aw_seq ?_
  refine aw_weak hB [(7401, 7901), (7411, 7902), (7412, 7903), (7901, 7401), (7902, 7411), (7903, 7412)] (T := [(1, .ref 1 0), (4, .ref 4 0), (5, I c_2), (6, .ref 6 0), (7, .ref 7 0), (8, I ((swR (Writer.mk aW.Band ts_1)).2)), (40, Bv false)]) (O := [(1, bxWriter aW), (4, bxStoreT v_2), (6, .box [I aW.Band, .arr 7901]), (7, .box [I ((swR (Writer.mk aW.Band ts_1)).1.Band), .arr 7400]), (7400, .oar [7410] 2 ts_3.length (oTemplate 7410 ts_3)), (7410, .fam ts_3.length 3 (mTemplate ts_3) (gTemplate ts_3)), (7901, .oar [7902, 7903] 4 ts_1.length (oTrained 7902 7903 ts_1)), (7902, .fam ts_1.length 3 (mTrainedBase ts_1) (gTrainedBase ts_1)), (7903, .fam ts_1.length 3 (mTrainedFeats ts_1) (gTrainedFeats ts_1))]) rfl (⟨.inl rfl, .inl rfl, .inl rfl, .inl rfl, .inl rfl, .inl rfl, .inl rfl, trivial⟩) (⟨.inl rfl, .inl rfl, .inl rfl, .inl rfl, .inl rfl, .inl rfl, .inl rfl, .inl rfl, .inl rfl, trivial⟩) ?_
  refine aw_r [(2, .lend [] [(7401, .oar [7411, 7412] 4 ts_1.length (oTrained 7411 7412 ts_1)), (7411, .fam ts_1.length 3 (mTrainedBase ts_1) (gTrainedBase ts_1)), (7412, .fam ts_1.length 3 (mTrainedFeats ts_1) (gTrainedFeats ts_1))] [(true, .any)] false (.agg [I aW.Band, .arr 7401])), (3, .call [(false, .agg [I aW.Band, slTrained false ts_1]), (false, .agg [I aW.Band, slTrained false ts_1])] true (Bv true))] [1, 4, 5, 6, 7, 8, 45] [1, 4, 6, 7, 7400, 7410, 7901, 7902, 7903] [.ref 1 0, .ref 4 0, I c_2, .ref 6 0, .ref 7 0, I ((swR (Writer.mk aW.Band ts_1)).2), Bv false] [some (bxWriter aW), some (bxStoreT v_2), some (.box [I aW.Band, .arr 7901]), some (.box [I ((swR (Writer.mk aW.Band ts_1)).1.Band), .arr 7400]), some (.oar [7410] 2 ts_3.length (oTemplate 7410 ts_3)), some (.fam ts_3.length 3 (mTemplate ts_3) (gTemplate ts_3)), some (.oar [7902, 7903] 4 ts_1.length (oTrained 7902 7903 ts_1)), some (.fam ts_1.length 3 (mTrainedBase ts_1) (gTrainedBase ts_1)), some (.fam ts_1.length 3 (mTrainedFeats ts_1) (gTrainedFeats ts_1))] [CallOK Try.prog 16 [agWriter aW] (lookO []) false (.agg [I aW.Band, .arr 7401]) (lookO [(7401, .oar [7411, 7412] 4 ts_1.length (oTrained 7411 7412 ts_1)), (7411, .fam ts_1.length 3 (mTrainedBase ts_1) (gTrainedBase ts_1)), (7412, .fam ts_1.length 3 (mTrainedFeats ts_1) (gTrainedFeats ts_1))]) ∧ True, Con Try.prog 9 [.agg [I aW.Band, slTrained false ts_1], .agg [I aW.Band, slTrained false ts_1]] true (Bv true) ∧ ((valOf (I aW.Band) = valOf (I aW.Band)) ∧ ((false = true → true = true) ∧ 4 = 4 ∧ ts_1.length = ts_1.length ∧ ∀ i_, i_ < ts_1.length → AV.idsL ((fTrained false ts_1) i_) = [] ∧ leL (lookO [(7902, .fam ts_1.length 3 (mTrainedBase ts_1) (gTrainedBase ts_1)), (7903, .fam ts_1.length 3 (mTrainedFeats ts_1) (gTrainedFeats ts_1))]) true ((oTrained 7902 7903 ts_1) i_) ((fTrained false ts_1) i_)) ∧ ([] : List AV) = []) ∧ ((valOf (I aW.Band) = valOf (I aW.Band)) ∧ ((false = true → true = true) ∧ 4 = 4 ∧ ts_1.length = ts_1.length ∧ ∀ i_, i_ < ts_1.length → AV.idsL ((fTrained false ts_1) i_) = [] ∧ leL (lookO [(7411, .fam ts_1.length 3 (mTrainedBase ts_1) (gTrainedBase ts_1)), (7412, .fam ts_1.length 3 (mTrainedFeats ts_1) (gTrainedFeats ts_1))]) true ((oTrained 7411 7412 ts_1) i_) ((fTrained false ts_1) i_)) ∧ ([] : List AV) = []) ∧ True] hB ⟨⟨hc1, trivial⟩, ⟨(con_bool (by subst_vars; exact same_self _) (eqWriter_ok (Writer.mk aW.Band ts_1) (Writer.mk aW.Band ts_1))), ⟨rfl, ⟨⟨(fun h => by cases h), rfl, rfl, oleTrained _ _ rfl rfl⟩, rfl⟩⟩, ⟨rfl, ⟨⟨(fun h => by cases h), rfl, rfl, oleTrained _ _ rfl rfl⟩, rfl⟩⟩, trivial⟩, trivial⟩ ?_
  refine ae_then ?_
  refine aw_false rfl ?_
  refine aw_skip ?_
  refine ae_then ?_
  refine aR [] [1, 4, 5, 6, 7, 8, 9] [1, 4, 6, 7, 7400, 7410, 7901, 7902, 7903] [.ref 1 0, .ref 4 0, I c_2, .ref 6 0, .ref 7 0, I ((swR (Writer.mk aW.Band ts_1)).2), I 1] [some (bxWriter aW), some (bxStoreT v_2), some (.box [I aW.Band, .arr 7901]), some (.box [I ((swR (Writer.mk aW.Band ts_1)).1.Band), .arr 7400]), some (.oar [7410] 2 ts_3.length (oTemplate 7410 ts_3)), some (.fam ts_3.length 3 (mTemplate ts_3) (gTemplate ts_3)), some (.oar [7902, 7903] 4 ts_1.length (oTrained 7902 7903 ts_1)), some (.fam ts_1.length 3 (mTrainedBase ts_1) (gTrainedBase ts_1)), some (.fam ts_1.length 3 (mTrainedFeats ts_1) (gTrainedFeats ts_1))] [] hB trivial ?_
  refine aw_seq ?_
  refine aw_weak hB [(7401, 7901), (7411, 7902), (7412, 7903), (7901, 7401), (7902, 7411), (7903, 7412)] (T := [(1, .ref 1 0), (4, .ref 4 0), (5, I c_2), (6, .ref 6 0), (7, .ref 7 0), (8, I ((swR (Writer.mk aW.Band ts_1)).2)), (9, I 1)]) (O := [(1, bxWriter aW), (4, bxStoreT v_2), (6, .box [I aW.Band, .arr 7401]), (7, .box [I ((swR (Writer.mk aW.Band ts_1)).1.Band), .arr 7400]), (7400, .oar [7410] 2 ts_3.length (oTemplate 7410 ts_3)), (7401, .oar [7411, 7412] 4 ts_1.length (oTrained 7411 7412 ts_1)), (7410, .fam ts_3.length 3 (mTemplate ts_3) (gTemplate ts_3)), (7411, .fam ts_1.length 3 (mTrainedBase ts_1) (gTrainedBase ts_1)), (7412, .fam ts_1.length 3 (mTrainedFeats ts_1) (gTrainedFeats ts_1))]) rfl (⟨.inl rfl, .inl rfl, .inl rfl, .inl rfl, .inl rfl, .inl rfl, .inl rfl, trivial⟩) (⟨.inl rfl, .inl rfl, .inl rfl, .inl rfl, .inl rfl, .inl rfl, .inl rfl, .inl rfl, .inl rfl, trivial⟩) ?_
  obtain ⟨v_4, alTrained_4, hx4_0, hx4_1, hc4⟩ := markWriter_ok (Writer.mk aW.Band ts_1) 1 (by subst_vars; first | exact ⟨by omega, swR_n _⟩ | (have h_ := nRs_bd aW.Trained 1; exact ⟨by omega, Int.le_trans h_.2 (by omega)⟩))
  refine aw_r [(2, .lend [(7401, .oar [7411, 7412] 4 ts_1.length (oTrained 7411 7412 ts_1), .oar [7411, 7412] 4 alTrained_4.length (oTrained 7411 7412 alTrained_4)), (7411, .fam ts_1.length 3 (mTrainedBase ts_1) (gTrainedBase ts_1), .fam alTrained_4.length 3 (mTrainedBase alTrained_4) (gTrainedBase alTrained_4)), (7412, .fam ts_1.length 3 (mTrainedFeats ts_1) (gTrainedFeats ts_1), .fam alTrained_4.length 3 (mTrainedFeats alTrained_4) (gTrainedFeats alTrained_4))] [] [(true, .any), (true, .any)] true (I v_4))] [1, 4, 5, 7, 8, 9] [1, 4, 7, 7400, 7410] [.ref 1 0, .ref 4 0, I c_2, .ref 7 0, I ((swR (Writer.mk aW.Band ts_1)).2), I v_4] [some (bxWriter aW), some (bxStoreT v_2), some (.box [I ((swR (Writer.mk aW.Band ts_1)).1.Band), .arr 7400]), some (.oar [7410] 2 ts_3.length (oTemplate 7410 ts_3)), some (.fam ts_3.length 3 (mTemplate ts_3) (gTemplate ts_3))] [CallOK Try.prog 12 [.agg [I aW.Band, .arr 7401], I 1] (lookO [(7401, .oar [7411, 7412] 4 ts_1.length (oTrained 7411 7412 ts_1)), (7411, .fam ts_1.length 3 (mTrainedBase ts_1) (gTrainedBase ts_1)), (7412, .fam ts_1.length 3 (mTrainedFeats ts_1) (gTrainedFeats ts_1))]) true (I v_4) (lookO [(7401, .oar [7411, 7412] 4 alTrained_4.length (oTrained 7411 7412 alTrained_4)), (7411, .fam alTrained_4.length 3 (mTrainedBase alTrained_4) (gTrainedBase alTrained_4)), (7412, .fam alTrained_4.length 3 (mTrainedFeats alTrained_4) (gTrainedFeats alTrained_4))]) ∧ (((.oar [7411, 7412] 4 ts_1.length (oTrained 7411 7412 ts_1) : Ob) = .oar [7411, 7412] 4 ts_1.length (oTrained 7411 7412 ts_1) ∨ obLe noOb true (.oar [7411, 7412] 4 ts_1.length (oTrained 7411 7412 ts_1)) (.oar [7411, 7412] 4 ts_1.length (oTrained 7411 7412 ts_1))) ∧ taggedO false (.oar [7411, 7412] 4 ts_1.length (oTrained 7411 7412 ts_1))) ∧ (((.fam ts_1.length 3 (mTrainedBase ts_1) (gTrainedBase ts_1) : Ob) = .fam ts_1.length 3 (mTrainedBase ts_1) (gTrainedBase ts_1) ∨ obLe noOb true (.fam ts_1.length 3 (mTrainedBase ts_1) (gTrainedBase ts_1)) (.fam ts_1.length 3 (mTrainedBase ts_1) (gTrainedBase ts_1))) ∧ taggedO false (.fam ts_1.length 3 (mTrainedBase ts_1) (gTrainedBase ts_1))) ∧ (((.fam ts_1.length 3 (mTrainedFeats ts_1) (gTrainedFeats ts_1) : Ob) = .fam ts_1.length 3 (mTrainedFeats ts_1) (gTrainedFeats ts_1) ∨ obLe noOb true (.fam ts_1.length 3 (mTrainedFeats ts_1) (gTrainedFeats ts_1)) (.fam ts_1.length 3 (mTrainedFeats ts_1) (gTrainedFeats ts_1))) ∧ taggedO false (.fam ts_1.length 3 (mTrainedFeats ts_1) (gTrainedFeats ts_1))) ∧ True] hB ⟨⟨hc4, ⟨.inl rfl, (by intro i_ _; simp [oTrained, oTrainedc, taggedL, tagged])⟩, ⟨.inl rfl, (fun _ _ _ _ => tagcFeat false _)⟩, ⟨.inl rfl, (fun _ _ _ _ => tagcFeat false _)⟩, trivial⟩, trivial⟩ ?_
  refine ae_then ?_
  refine aw_seq ?_
  refine aR [(1, .dec false), (5, .call [(false, .agg [I ((swR (Writer.mk aW.Band ts_1)).1.Band), slTemplate false ts_3]), (false, agStore v_2)] true (Bv true)), (11, .dec false)] [1, 4, 5, 7, 61] [1, 4, 7, 7400, 7410] [.ref 1 0, .ref 4 0, I c_2, .ref 7 0, Bv false] [some (bxWriter aW), some (bxStoreT v_2), some (.box [I ((swR (Writer.mk aW.Band ts_1)).1.Band), .arr 7400]), some (.oar [7410] 2 ts_3.length (oTemplate 7410 ts_3)), some (.fam ts_3.length 3 (mTemplate ts_3) (gTemplate ts_3))] [¬ (v_4 < 0), Con Try.prog 10 [.agg [I ((swR (Writer.mk aW.Band ts_1)).1.Band), slTemplate false ts_3], agStore v_2] true (Bv true) ∧ ((valOf (I ((swR (Writer.mk aW.Band ts_1)).1.Band)) = valOf (I ((swR (Writer.mk aW.Band ts_1)).1.Band))) ∧ ((false = true → true = true) ∧ 2 = 2 ∧ ts_3.length = ts_3.length ∧ ∀ i_, i_ < ts_3.length → AV.idsL ((fTemplate false ts_3) i_) = [] ∧ leL (lookO [(7410, .fam ts_3.length 3 (mTemplate ts_3) (gTemplate ts_3))]) true ((oTemplate 7410 ts_3) i_) ((fTemplate false ts_3) i_)) ∧ ([] : List AV) = []) ∧ ((valOf (I v_2.Band) = valOf (I v_2.Band)) ∧ ((false = true → true = true) ∧ 2 = 2 ∧ v_2.Templates.length = v_2.Templates.length ∧ ∀ i_, i_ < v_2.Templates.length → (fTemplate true v_2.Templates) i_ = (fTemplate false v_2.Templates) i_ ∨ (AV.idsL ((fTemplate false v_2.Templates) i_) = [] ∧ leL (fun _ => none) false ((fTemplate true v_2.Templates) i_) ((fTemplate false v_2.Templates) i_))) ∧ ([] : List AV) = []) ∧ True, ¬ (((swR (Writer.mk aW.Band ts_1)).2) ≠ c_2)] hB ⟨(by subst_vars; first | omega | exact Int.not_lt.2 (Int.le_trans (by omega) (nRs_lo _ _)) | exact Int.not_lt.2 (Int.le_trans (by omega) (nTs_lo _ _))), ⟨(con_bool (by subst_vars; exact same_self _) (eqStore_ok (Store.mk ((swR (Writer.mk aW.Band ts_1)).1.Band) ts_3) v_2)), ⟨rfl, ⟨⟨(fun h => by cases h), rfl, rfl, oleTemplate _ _ rfl⟩, rfl⟩⟩, ⟨rfl, ⟨⟨(fun h => by cases h), rfl, rfl, fun i _ => .inr ⟨idsTemplate _ _, leTemplate _ _ _⟩⟩, rfl⟩⟩, trivial⟩, (fun hq => hq (by subst_vars; first | rfl | exact nTs_idem _ _ | exact (nTs_idem _ _).symm | (simp only [nTs_idem]; done))), trivial⟩ ?_
  refine aw_false rfl ?_
  refine aw_skip ?_
  refine ae_then ?_
  refine aR [] [1, 4, 5, 7, 10] [1, 4, 7, 7400, 7410] [.ref 1 0, .ref 4 0, I c_2, .ref 7 0, I 1] [some (bxWriter aW), some (bxStoreT v_2), some (.box [I ((swR (Writer.mk aW.Band ts_1)).1.Band), .arr 7400]), some (.oar [7410] 2 ts_3.length (oTemplate 7410 ts_3)), some (.fam ts_3.length 3 (mTemplate ts_3) (gTemplate ts_3))] [] hB trivial ?_
  refine aw_seq ?_
  obtain ⟨v_5, alTemplates_5, hx5_0, hx5_1, hc5⟩ := markStore_ok (Store.mk ((swR (Writer.mk aW.Band ts_1)).1.Band) ts_3) 1 (by subst_vars; first | exact ⟨by omega, swR_n _⟩ | (have h_ := nRs_bd aW.Trained 1; exact ⟨by omega, Int.le_trans h_.2 (by omega)⟩))
  refine aw_r [(2, .lend [(7400, .oar [7410] 2 ts_3.length (oTemplate 7410 ts_3), .oar [7410] 2 alTemplates_5.length (oTemplate 7410 alTemplates_5)), (7410, .fam ts_3.length 3 (mTemplate ts_3) (gTemplate ts_3), .fam alTemplates_5.length 3 (mTemplate alTemplates_5) (gTemplate alTemplates_5))] [] [(true, .any), (true, .any)] true (I v_5))] [1, 4, 5, 7, 10] [1, 4, 7, 7400, 7410] [.ref 1 0, .ref 4 0, I c_2, .ref 7 0, I v_5] [some (bxWriter aW), some (bxStoreT v_2), some (.box [I ((swR (Writer.mk aW.Band ts_1)).1.Band), .arr 7400]), some (.oar [7410] 2 alTemplates_5.length (oTemplate 7410 alTemplates_5)), some (.fam alTemplates_5.length 3 (mTemplate alTemplates_5) (gTemplate alTemplates_5))] [CallOK Try.prog 11 [.agg [I ((swR (Writer.mk aW.Band ts_1)).1.Band), .arr 7400], I 1] (lookO [(7400, .oar [7410] 2 ts_3.length (oTemplate 7410 ts_3)), (7410, .fam ts_3.length 3 (mTemplate ts_3) (gTemplate ts_3))]) true (I v_5) (lookO [(7400, .oar [7410] 2 alTemplates_5.length (oTemplate 7410 alTemplates_5)), (7410, .fam alTemplates_5.length 3 (mTemplate alTemplates_5) (gTemplate alTemplates_5))]) ∧ (((.oar [7410] 2 ts_3.length (oTemplate 7410 ts_3) : Ob) = .oar [7410] 2 ts_3.length (oTemplate 7410 ts_3) ∨ obLe noOb true (.oar [7410] 2 ts_3.length (oTemplate 7410 ts_3)) (.oar [7410] 2 ts_3.length (oTemplate 7410 ts_3))) ∧ taggedO false (.oar [7410] 2 ts_3.length (oTemplate 7410 ts_3))) ∧ (((.fam ts_3.length 3 (mTemplate ts_3) (gTemplate ts_3) : Ob) = .fam ts_3.length 3 (mTemplate ts_3) (gTemplate ts_3) ∨ obLe noOb true (.fam ts_3.length 3 (mTemplate ts_3) (gTemplate ts_3)) (.fam ts_3.length 3 (mTemplate ts_3) (gTemplate ts_3))) ∧ taggedO false (.fam ts_3.length 3 (mTemplate ts_3) (gTemplate ts_3))) ∧ True] hB ⟨⟨hc5, ⟨.inl rfl, (by intro i_ _; simp [oTemplate, oTemplatec, taggedL, tagged])⟩, ⟨.inl rfl, (fun _ _ _ _ => tagcFeat false _)⟩, trivial⟩, trivial⟩ ?_
  refine ae_then ?_
  refine aR [] [1, 4, 5, 7, 10, 11] [1, 4, 7, 7400, 7410] [.ref 1 0, .ref 4 0, I c_2, .ref 7 0, I v_5, I 1] [some (bxWriter aW), some (bxStoreT v_2), some (.box [I ((swR (Writer.mk aW.Band ts_1)).1.Band), .arr 7400]), some (.oar [7410] 2 alTemplates_5.length (oTemplate 7410 alTemplates_5)), some (.fam alTemplates_5.length 3 (mTemplate alTemplates_5) (gTemplate alTemplates_5))] [] hB trivial ?_
  refine aR [(2, .call [(false, .agg [I ((swR (Writer.mk aW.Band ts_1)).1.Band), slTemplate false alTemplates_5]), (true, .any)] true (I (nTs 1 (Store.mk ((swR (Writer.mk aW.Band ts_1)).1.Band) alTemplates_5).Templates)))] [1, 4, 5, 7, 10, 11] [1, 4, 7, 7400, 7410] [.ref 1 0, .ref 4 0, I c_2, .ref 7 0, I v_5, I (nTs 1 (Store.mk ((swR (Writer.mk aW.Band ts_1)).1.Band) alTemplates_5).Templates)] [some (bxWriter aW), some (bxStoreT v_2), some (.box [I ((swR (Writer.mk aW.Band ts_1)).1.Band), .arr 7400]), some (.oar [7410] 2 alTemplates_5.length (oTemplate 7410 alTemplates_5)), some (.fam alTemplates_5.length 3 (mTemplate alTemplates_5) (gTemplate alTemplates_5))] [Con Try.prog 18 [.agg [I ((swR (Writer.mk aW.Band ts_1)).1.Band), slTemplate false alTemplates_5], I 1] true (I (nTs 1 (Store.mk ((swR (Writer.mk aW.Band ts_1)).1.Band) alTemplates_5).Templates)) ∧ ((valOf (I ((swR (Writer.mk aW.Band ts_1)).1.Band)) = valOf (I ((swR (Writer.mk aW.Band ts_1)).1.Band))) ∧ ((false = true → true = true) ∧ 2 = 2 ∧ alTemplates_5.length = alTemplates_5.length ∧ ∀ i_, i_ < alTemplates_5.length → AV.idsL ((fTemplate false alTemplates_5) i_) = [] ∧ leL (lookO [(7410, .fam alTemplates_5.length 3 (mTemplate alTemplates_5) (gTemplate alTemplates_5))]) true ((oTemplate 7410 alTemplates_5) i_) ((fTemplate false alTemplates_5) i_)) ∧ ([] : List AV) = []) ∧ True] hB ⟨⟨(heldStore_ok (Store.mk ((swR (Writer.mk aW.Band ts_1)).1.Band) alTemplates_5) 1 (by subst_vars; exact ⟨by omega, by rw [nTs_idem]; exact swR_n _⟩) (by subst_vars; exact (mTs_idem _ _).symm)), ⟨rfl, ⟨⟨(fun h => by cases h), rfl, rfl, oleTemplate _ _ rfl⟩, rfl⟩⟩, trivial⟩, trivial⟩ ?_
  refine aw_seq ?_
  refine aR [(1, .dec false)] [1, 4, 5, 7, 10, 11, 69] [1, 4, 7, 7400, 7410] [.ref 1 0, .ref 4 0, I c_2, .ref 7 0, I v_5, I (nTs 1 (Store.mk ((swR (Writer.mk aW.Band ts_1)).1.Band) alTemplates_5).Templates), Bv false] [some (bxWriter aW), some (bxStoreT v_2), some (.box [I ((swR (Writer.mk aW.Band ts_1)).1.Band), .arr 7400]), some (.oar [7410] 2 alTemplates_5.length (oTemplate 7410 alTemplates_5)), some (.fam alTemplates_5.length 3 (mTemplate alTemplates_5) (gTemplate alTemplates_5))] [¬ ((nTs 1 (Store.mk ((swR (Writer.mk aW.Band ts_1)).1.Band) alTemplates_5).Templates) < 0)] hB ⟨(by subst_vars; first | omega | exact Int.not_lt.2 (Int.le_trans (by omega) (nRs_lo _ _)) | exact Int.not_lt.2 (Int.le_trans (by omega) (nTs_lo _ _))), trivial⟩ ?_
  refine aw_false rfl ?_
  refine aw_skip ?_
  refine ae_then ?_
  refine aw_seq ?_
  refine aR [(2, .dec false)] [1, 4, 5, 7, 10, 72] [1, 4, 7, 7400, 7410] [.ref 1 0, .ref 4 0, I c_2, .ref 7 0, I v_5, Bv false] [some (bxWriter aW), some (bxStoreT v_2), some (.box [I ((swR (Writer.mk aW.Band ts_1)).1.Band), .arr 7400]), some (.oar [7410] 2 alTemplates_5.length (oTemplate 7410 alTemplates_5)), some (.fam alTemplates_5.length 3 (mTemplate alTemplates_5) (gTemplate alTemplates_5))] [¬ ((nTs 1 (Store.mk ((swR (Writer.mk aW.Band ts_1)).1.Band) alTemplates_5).Templates) ≠ v_5)] hB ⟨(fun hq => hq (by subst_vars; first | rfl | exact nTs_idem _ _ | exact (nTs_idem _ _).symm | (simp only [nTs_idem]; done))), trivial⟩ ?_
  refine aw_false rfl ?_
  refine aw_skip ?_
  refine ae_then ?_
  refine aw_seq ?_
  refine aw_weak hB [(7400, 7904), (7410, 7905), (7904, 7400), (7905, 7410)] (T := [(1, .ref 1 0), (4, .ref 4 0), (5, I c_2), (7, .ref 7 0), (10, I v_5), (72, Bv false)]) (O := [(1, bxWriter aW), (4, bxStoreT v_2), (7, .box [I ((swR (Writer.mk aW.Band ts_1)).1.Band), .arr 7904]), (7904, .oar [7905] 2 alTemplates_5.length (oTemplate 7905 alTemplates_5)), (7905, .fam alTemplates_5.length 3 (mTemplate alTemplates_5) (gTemplate alTemplates_5))]) rfl (⟨.inl rfl, .inl rfl, .inl rfl, .inl rfl, .inl rfl, .inl rfl, trivial⟩) (⟨.inl rfl, .inl rfl, .inl rfl, .inl rfl, .inl rfl, trivial⟩) ?_
  refine aw_r [(1, .lend [] [(7401, .oar [7411, 7412] 4 ts_1.length (oTrained 7411 7412 ts_1)), (7411, .fam ts_1.length 3 (mTrainedBase ts_1) (gTrainedBase ts_1)), (7412, .fam ts_1.length 3 (mTrainedFeats ts_1) (gTrainedFeats ts_1))] [(true, .any)] false (.agg [I aW.Band, .arr 7401])), (2, .lendT [] [(7400, .oar [7410] 2 ts_3.length (oTemplate 7410 ts_3)), (7410, .fam ts_3.length 3 (mTemplate ts_3) (gTemplate ts_3))] [(false, .agg [I aW.Band, slTrained false ts_1])] false (.tup [.agg [I ((swR (Writer.mk aW.Band ts_1)).1.Band), .arr 7400], I ((swR (Writer.mk aW.Band ts_1)).2)])), (6, .new 12)] [4, 5, 7, 10, 12, 13] [4, 7, 12, 7400, 7410, 7904, 7905] [.ref 4 0, I c_2, .ref 7 0, I v_5, .ref 12 0, I ((swR (Writer.mk aW.Band ts_1)).2)] [some (bxStoreT v_2), some (.box [I ((swR (Writer.mk aW.Band ts_1)).1.Band), .arr 7904]), some (.box [I ((swR (Writer.mk aW.Band ts_1)).1.Band), .arr 7400]), some (.oar [7410] 2 ts_3.length (oTemplate 7410 ts_3)), some (.fam ts_3.length 3 (mTemplate ts_3) (gTemplate ts_3)), some (.oar [7905] 2 alTemplates_5.length (oTemplate 7905 alTemplates_5)), some (.fam alTemplates_5.length 3 (mTemplate alTemplates_5) (gTemplate alTemplates_5))] [CallOK Try.prog 16 [agWriter aW] (lookO []) false (.agg [I aW.Band, .arr 7401]) (lookO [(7401, .oar [7411, 7412] 4 ts_1.length (oTrained 7411 7412 ts_1)), (7411, .fam ts_1.length 3 (mTrainedBase ts_1) (gTrainedBase ts_1)), (7412, .fam ts_1.length 3 (mTrainedFeats ts_1) (gTrainedFeats ts_1))]) ∧ True, CallOK Try.prog 17 [.agg [I aW.Band, slTrained false ts_1]] (lookO []) false (.tup [.agg [I ((swR (Writer.mk aW.Band ts_1)).1.Band), .arr 7400], I ((swR (Writer.mk aW.Band ts_1)).2)]) (lookO [(7400, .oar [7410] 2 ts_3.length (oTemplate 7410 ts_3)), (7410, .fam ts_3.length 3 (mTemplate ts_3) (gTemplate ts_3))]) ∧ allTag [(7400, .oar [7410] 2 ts_3.length (oTemplate 7410 ts_3)), (7410, .fam ts_3.length 3 (mTemplate ts_3) (gTemplate ts_3))] ∧ tagged true (.tup [.agg [I ((swR (Writer.mk aW.Band ts_1)).1.Band), .arr 7400], I ((swR (Writer.mk aW.Band ts_1)).2)]) ∧ ((valOf (I aW.Band) = valOf (I aW.Band)) ∧ ((false = true → true = true) ∧ 4 = 4 ∧ ts_1.length = ts_1.length ∧ ∀ i_, i_ < ts_1.length → AV.idsL ((fTrained false ts_1) i_) = [] ∧ leL (lookO [(7411, .fam ts_1.length 3 (mTrainedBase ts_1) (gTrainedBase ts_1)), (7412, .fam ts_1.length 3 (mTrainedFeats ts_1) (gTrainedFeats ts_1))]) true ((oTrained 7411 7412 ts_1) i_) ((fTrained false ts_1) i_)) ∧ ([] : List AV) = []) ∧ True] hB ⟨⟨hc1, trivial⟩, ⟨hc3, ⟨(by intro i_ _; simp [oTemplate, oTemplatec, taggedL, tagged]), (fun _ _ _ _ => tagcFeat true _), trivial⟩, (by simp [tagged, taggedL]), ⟨rfl, ⟨⟨(fun h => by cases h), rfl, rfl, oleTrained _ _ rfl rfl⟩, rfl⟩⟩, trivial⟩, trivial⟩ ?_
  refine ae_then ?_
  refine aw_seq ?_
  refine aR [(2, .call [(false, .agg [I ((swR (Writer.mk aW.Band ts_1)).1.Band), slTemplate false ts_3]), (false, agStore v_2)] true (Bv true)), (7, .dec false)] [7, 10, 87] [7, 7904, 7905] [.ref 7 0, I v_5, Bv false] [some (.box [I ((swR (Writer.mk aW.Band ts_1)).1.Band), .arr 7904]), some (.oar [7905] 2 alTemplates_5.length (oTemplate 7905 alTemplates_5)), some (.fam alTemplates_5.length 3 (mTemplate alTemplates_5) (gTemplate alTemplates_5))] [Con Try.prog 10 [.agg [I ((swR (Writer.mk aW.Band ts_1)).1.Band), slTemplate false ts_3], agStore v_2] true (Bv true) ∧ ((valOf (I ((swR (Writer.mk aW.Band ts_1)).1.Band)) = valOf (I ((swR (Writer.mk aW.Band ts_1)).1.Band))) ∧ ((false = true → true = true) ∧ 2 = 2 ∧ ts_3.length = ts_3.length ∧ ∀ i_, i_ < ts_3.length → AV.idsL ((fTemplate false ts_3) i_) = [] ∧ leL (lookO [(7410, .fam ts_3.length 3 (mTemplate ts_3) (gTemplate ts_3))]) true ((oTemplate 7410 ts_3) i_) ((fTemplate false ts_3) i_)) ∧ ([] : List AV) = []) ∧ ((valOf (I v_2.Band) = valOf (I v_2.Band)) ∧ ((false = true → true = true) ∧ 2 = 2 ∧ v_2.Templates.length = v_2.Templates.length ∧ ∀ i_, i_ < v_2.Templates.length → (fTemplate true v_2.Templates) i_ = (fTemplate false v_2.Templates) i_ ∨ (AV.idsL ((fTemplate false v_2.Templates) i_) = [] ∧ leL (fun _ => none) false ((fTemplate true v_2.Templates) i_) ((fTemplate false v_2.Templates) i_))) ∧ ([] : List AV) = []) ∧ True, ¬ (((swR (Writer.mk aW.Band ts_1)).2) ≠ c_2)] hB ⟨⟨(con_bool (by subst_vars; exact same_self _) (eqStore_ok (Store.mk ((swR (Writer.mk aW.Band ts_1)).1.Band) ts_3) v_2)), ⟨rfl, ⟨⟨(fun h => by cases h), rfl, rfl, oleTemplate _ _ rfl⟩, rfl⟩⟩, ⟨rfl, ⟨⟨(fun h => by cases h), rfl, rfl, fun i _ => .inr ⟨idsTemplate _ _, leTemplate _ _ _⟩⟩, rfl⟩⟩, trivial⟩, (fun hq => hq (by subst_vars; first | rfl | exact nTs_idem _ _ | exact (nTs_idem _ _).symm | (simp only [nTs_idem]; done))), trivial⟩ ?_
  refine aw_false rfl ?_
  refine aw_skip ?_
  refine ae_then ?_
  refine aR [] [7, 10, 11] [7, 7904, 7905] [.ref 7 0, I v_5, I 1] [some (.box [I ((swR (Writer.mk aW.Band ts_1)).1.Band), .arr 7904]), some (.oar [7905] 2 alTemplates_5.length (oTemplate 7905 alTemplates_5)), some (.fam alTemplates_5.length 3 (mTemplate alTemplates_5) (gTemplate alTemplates_5))] [] hB trivial ?_
  refine aR [(2, .call [(false, .agg [I ((swR (Writer.mk aW.Band ts_1)).1.Band), slTemplate false alTemplates_5]), (true, .any)] true (I (nTs 1 (Store.mk ((swR (Writer.mk aW.Band ts_1)).1.Band) alTemplates_5).Templates)))] [10, 11] [] [I v_5, I (nTs 1 (Store.mk ((swR (Writer.mk aW.Band ts_1)).1.Band) alTemplates_5).Templates)] [] [Con Try.prog 18 [.agg [I ((swR (Writer.mk aW.Band ts_1)).1.Band), slTemplate false alTemplates_5], I 1] true (I (nTs 1 (Store.mk ((swR (Writer.mk aW.Band ts_1)).1.Band) alTemplates_5).Templates)) ∧ ((valOf (I ((swR (Writer.mk aW.Band ts_1)).1.Band)) = valOf (I ((swR (Writer.mk aW.Band ts_1)).1.Band))) ∧ ((false = true → true = true) ∧ 2 = 2 ∧ alTemplates_5.length = alTemplates_5.length ∧ ∀ i_, i_ < alTemplates_5.length → AV.idsL ((fTemplate false alTemplates_5) i_) = [] ∧ leL (lookO [(7905, .fam alTemplates_5.length 3 (mTemplate alTemplates_5) (gTemplate alTemplates_5))]) true ((oTemplate 7905 alTemplates_5) i_) ((fTemplate false alTemplates_5) i_)) ∧ ([] : List AV) = []) ∧ True] hB ⟨⟨(heldStore_ok (Store.mk ((swR (Writer.mk aW.Band ts_1)).1.Band) alTemplates_5) 1 (by subst_vars; exact ⟨by omega, by rw [nTs_idem]; exact swR_n _⟩) (by subst_vars; exact (mTs_idem _ _).symm)), ⟨rfl, ⟨⟨(fun h => by cases h), rfl, rfl, oleTemplate _ _ rfl⟩, rfl⟩⟩, trivial⟩, trivial⟩ ?_
  refine aw_seq ?_
  refine aR [(1, .dec false)] [10, 11, 92] [] [I v_5, I (nTs 1 (Store.mk ((swR (Writer.mk aW.Band ts_1)).1.Band) alTemplates_5).Templates), Bv false] [] [¬ ((nTs 1 (Store.mk ((swR (Writer.mk aW.Band ts_1)).1.Band) alTemplates_5).Templates) < 0)] hB ⟨(by subst_vars; first | omega | exact Int.not_lt.2 (Int.le_trans (by omega) (nRs_lo _ _)) | exact Int.not_lt.2 (Int.le_trans (by omega) (nTs_lo _ _))), trivial⟩ ?_
  refine aw_false rfl ?_
  refine aw_skip ?_
  refine ae_then ?_
  refine aw_seq ?_
  refine aR [(2, .dec false)] [95] [] [Bv false] [] [¬ ((nTs 1 (Store.mk ((swR (Writer.mk aW.Band ts_1)).1.Band) alTemplates_5).Templates) ≠ v_5)] hB ⟨(fun hq => hq (by subst_vars; first | rfl | exact nTs_idem _ _ | exact (nTs_idem _ _).symm | (simp only [nTs_idem]; done))), trivial⟩ ?_
  refine aw_false rfl ?_
  refine aw_skip ?_
  refine ae_then ?_
  refine aR [] [2] [] [Bv true] [] [] hB trivial ?_
  refine aw_ret ?_
  refine ae_ret hB (Bv true) (by kernel_rfl) (.inl rfl) rfl (fun _ => trivial)


/-! ### the row -/

def okOFeat (x : Feat) : Prop := (inR .i64 x.X) ∧ (inR .i64 x.Y) ∧ (inR .i64 x.D)

theorem opens_t109 : OpensA Try.prog 109 (cFeat) okOFeat := by
  intro H enc w base spare held fuel cs y h
  obtain ⟨ys, n, _, _, hlen, hyl, hf⟩ := DataW.trod_struct Try.underlying109 h
  obtain ⟨x0, r0, o0⟩ := (opensA_int Try.underlying2) enc w base spare held _ _ _ ((hf 0 _ rfl).trans (List.getElem?_eq_getElem (by rw [hyl]; decide)))
  obtain ⟨x1, r1, o1⟩ := (opensA_int Try.underlying2) enc w base spare held _ _ _ ((hf 1 _ rfl).trans (List.getElem?_eq_getElem (by rw [hyl]; decide)))
  obtain ⟨x2, r2, o2⟩ := (opensA_int Try.underlying2) enc w base spare held _ _ _ ((hf 2 _ rfl).trans (List.getElem?_eq_getElem (by rw [hyl]; decide)))
  have hlen : cs.length = 3 := hlen.trans (by kernel_rfl)
  exact ⟨⟨x0, x1, x2⟩, RelTL.whole (n := 3) (RelTL.app (a := 2) (b := 1) (RelTL.app (a := 1) (b := 1) r0 (by kernel_rfl) r1 (by kernel_rfl) (by kernel_rfl) (by omega)) rfl r2 (by kernel_rfl) (by kernel_rfl) (by omega)) hlen rfl, o0, o1, o2⟩

theorem opens_t74 : OpensA Try.prog 74 (cLFeat false) (fun xs => ∀ y ∈ xs, okOFeat y) :=
  opensA_slice (c := cFeat) (sz := 3) Try.underlying74 (by kernel_rfl) (by decide) (fun x => ⟨rfl, by simp [oneA, cFeat, cI]⟩) (opens_t109)

def okOTrained (x : Trained) : Prop := (x.Label.size ≤ 9223372036854775807) ∧ (∀ y ∈ x.Base, okOFeat y) ∧ (∀ y ∈ x.Feats, okOFeat y) ∧ (inR .i64 x.Count)

theorem opens_t90 : OpensA Try.prog 90 (cTrained false) okOTrained := by
  intro H enc w base spare held fuel cs y h
  obtain ⟨ys, n, _, _, hlen, hyl, hf⟩ := DataW.trod_struct Try.underlying90 h
  obtain ⟨x0, r0, o0⟩ := (opensA_str Try.underlying9) enc w base spare held _ _ _ ((hf 0 _ rfl).trans (List.getElem?_eq_getElem (by rw [hyl]; decide)))
  obtain ⟨x1, r1, o1⟩ := (opens_t74) enc w base spare held _ _ _ ((hf 1 _ rfl).trans (List.getElem?_eq_getElem (by rw [hyl]; decide)))
  obtain ⟨x2, r2, o2⟩ := (opens_t74) enc w base spare held _ _ _ ((hf 2 _ rfl).trans (List.getElem?_eq_getElem (by rw [hyl]; decide)))
  obtain ⟨x3, r3, o3⟩ := (opensA_int Try.underlying2) enc w base spare held _ _ _ ((hf 3 _ rfl).trans (List.getElem?_eq_getElem (by rw [hyl]; decide)))
  have hlen : cs.length = 4 := hlen.trans (by kernel_rfl)
  exact ⟨⟨x0, x1, x2, x3⟩, RelTL.whole (n := 4) (RelTL.app (a := 3) (b := 1) (RelTL.app (a := 2) (b := 1) (RelTL.app (a := 1) (b := 1) r0 (by kernel_rfl) r1 (by kernel_rfl) (by kernel_rfl) (by omega)) rfl r2 (by kernel_rfl) (by kernel_rfl) (by omega)) rfl r3 (by kernel_rfl) (by kernel_rfl) (by omega)) hlen rfl, o0, o1, o2, o3⟩

theorem opens_t40 : OpensA Try.prog 40 (cLTrained false) (fun xs => ∀ y ∈ xs, okOTrained y) :=
  opensA_slice (c := (cTrained false)) (sz := 4) Try.underlying40 (by kernel_rfl) (by decide) (fun x => ⟨rfl, by simp [oneA, cI, cLFeat, cS, cTrained, slFeat]⟩) (opens_t90)

def okOWriter (x : Writer) : Prop := (inR .i64 x.Band) ∧ (∀ y ∈ x.Trained, okOTrained y)
end Go.Proofs.Ytjiflhglbephbaa.Ax
