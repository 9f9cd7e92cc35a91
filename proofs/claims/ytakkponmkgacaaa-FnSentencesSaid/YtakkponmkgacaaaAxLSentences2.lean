/- Contracts that the statement FnSentences reaches, part 2. No conditions. -/
import Derived.Test.YtakkponmkgacaaaAxLSentences1
import Derived.Test.YtakkponmkgacaaaAxR
import Derived.Test.YtakkponmkgacaaaAxS
namespace Go.Proofs.Ytakkponmkgacaaa.Ax
open Go.RowKit Go.ChangeShapes Go.WideShapes
set_option linter.unusedVariables false
set_option linter.unusedSimpArgs false


-- spec.l18Put
theorem l18Put_ok (list : List Bigram) (e : Bigram) (hp : list.Pairwise fun x_ y_ => cmpG x_ y_ < 0) (hll : list.length ≤ 1000) : ∃ (v : List Bigram), ((v.length : Int) ≤ (list.length : Int) + 1) ∧ (∀ x ∈ v, x = e ∨ x ∈ list) ∧ (v.Pairwise fun x_ y_ => cmpG x_ y_ < 0) ∧ Con Try.prog 45 [slBigram false list, agBigram e] true (slBigram true v) := by
  have hh : ∃ r : (List Bigram), (((r.length : Int) ≤ (list.length : Int) + 1) ∧ (∀ x ∈ r, x = e ∨ x ∈ list) ∧ (r.Pairwise fun x_ y_ => cmpG x_ y_ < 0) ∧ (True)) ∧ CallOK Try.prog 45 [slBigram false list, agBigram e] (lookO []) true (slBigram true r) (lookO []) := by
    refine fn_okX (Φ := fun r : (List Bigram) => ((r.length : Int) ≤ (list.length : Int) + 1) ∧ (∀ x ∈ r, x = e ∨ x ∈ list) ∧ (r.Pairwise fun x_ y_ => cmpG x_ y_ < 0) ∧ (True)) [] (fun r => []) (fn := Try.f45) (nt := 60) Try.func45 rfl rfl (args := [slBigram false list, agBigram e]) rfl (allcons (.inl ⟨rfl, tagBigram false _⟩) (allcons (.inl ⟨rfl, by simp [tagged, taggedL]⟩) allnil)) (res := fun r => slBigram true r) ?_
    refine xR [(0, .new 3)] [0, 3] [3] [slBigram false list, .ref 3 0] [some (bxBigram e)] [] trivial ?_
    refine xR [(0, .new 8)] [0, 3, 5] [3, 8] [slBigram false list, .ref 3 0, .arr 8] [some (bxBigram e), some (.arr 3 0 (litF [] 3))] [] trivial ?_
    refine xR [] [0, 3, 5, 6] [3, 8] [slBigram false list, .ref 3 0, .arr 8, Bv false] [some (bxBigram e), some (.arr 3 0 (litF [] 3))] [] trivial ?_
    refine x_seq ?_
    refine xR [] [0, 3, 5, 6, 7] [3, 8] [slBigram false list, .ref 3 0, .arr 8, Bv false, I 0] [some (bxBigram e), some (.arr 3 0 (litF [] 3))] [] trivial ?_
    refine x_block ?_
    refine x_weak [] (T := [(0, slBigram false list), (3, .ref 3 0), (5, .arr 8), (6, Bv false), (7, I 0)]) (O := [(3, bxBigram e), (8, .arr 3 (([] : List Bigram).length) (fBigram ([] : List Bigram)))]) rfl (⟨.inl rfl, .inl rfl, .inl rfl, .inl rfl, .inl rfl, trivial⟩) (⟨.inl rfl, .inr ⟨rfl, (by first | rfl | (simp; done) | (simp; omega) | omega), fun i_ hi_ => absurd hi_ (Nat.not_lt_zero _)⟩, trivial⟩) ?_
    refine x_loop (X := (List Bigram) × Bool × Int) (fun x => mkS [(0, slBigram false list), (3, .ref 3 0), (5, .arr 8), (6, Bv x.2.1), (7, I x.2.2)] [(3, bxBigram e), (8, .arr 3 x.1.length (fBigram x.1))]) (fun x => (0 ≤ x.2.2 ∧ x.2.2 ≤ (list.length : Int)) ∧ (lpI list x.1 e x.2.1 x.2.2.toNat) ∧ True) (fun x => ((list.length : Int) - x.2.2).toNat) (([] : List Bigram), false, 0) rfl (show (0 ≤ (0 : Int) ∧ (0 : Int) ≤ (list.length : Int)) ∧ (lpI list ([] : List Bigram) e false (0 : Int).toNat) ∧ True from ⟨(by omega), (by exact lp_0 _ _), trivial⟩) (fun x hI => ?_)
    obtain ⟨out, put, i⟩ := x
    obtain ⟨hi0, hlp, _⟩ : (0 ≤ i ∧ i ≤ (list.length : Int)) ∧ (lpI list out e put i.toNat) ∧ True := hI
    show XW _ _ _ _ (mkS [(0, slBigram false list), (3, .ref 3 0), (5, .arr 8), (6, Bv put), (7, I i)] [(3, bxBigram e), (8, .arr 3 out.length (fBigram out))]) _ _
    have hol := lp_len hlp
    refine x_seq ?_
    refine x_seq ?_
    by_cases h1 : i < (list.length : Int)
    ·have hi : i.toNat < list.length := by omega
     refine x_r [(3, .dec true)] [0, 3, 5, 6, 7, 12] [3, 8] [slBigram false list, .ref 3 0, .arr 8, Bv put, I i, Bv true] [some (bxBigram e), some (.arr 3 out.length (fBigram out))] [i < (list.length : Int)] ⟨h1, trivial⟩ ?_
     refine xe_then ?_
     refine x_true rfl ?_
     refine x_skip ?_
     refine xe_then ?_
     refine x_seq ?_
     refine x_block ?_
     refine x_seq ?_
     refine x_seq ?_
     rcases Bool.eq_false_or_eq_true put with h2 | h2
     ·subst h2
      refine x_r [] [0, 3, 5, 6, 7, 23] [3, 8] [slBigram false list, .ref 3 0, .arr 8, Bv true, I i, Bv false] [some (bxBigram e), some (.arr 3 out.length (fBigram out))] [] trivial ?_
      refine xe_then ?_
      refine x_false rfl ?_
      refine x_skip ?_
      refine xe_then ?_
      refine x_seq ?_
      by_cases h3 : ((at_ list i.toNat).First) = e.First
      ·by_cases h4 : ((at_ list i.toNat).Second) = e.Second
       ·refine x_r [(7, .dec false), (16, .dec false)] [0, 3, 5, 6, 7, 45] [3, 8] [slBigram false list, .ref 3 0, .arr 8, Bv true, I i, Bv false] [some (bxBigram e), some (.arr 3 out.length (fBigram out))] [(0 : Int) ≤ i ∧ i < (list.length : Int), ¬ (((at_ list i.toNat).First) ≠ e.First), (0 : Int) ≤ i ∧ i < (list.length : Int), ¬ (((at_ list i.toNat).Second) ≠ e.Second)] ⟨⟨(by omega), (by omega)⟩, (fun hq => hq h3), ⟨(by omega), (by omega)⟩, (fun hq => hq h4), trivial⟩ ?_
        refine xe_then ?_
        refine x_false rfl ?_
        refine x_skip ?_
        refine xe_block 1 ?_
        refine xe_then ?_
        refine x_r [] [0, 3, 5, 6, 7] [3, 8] [slBigram false list, .ref 3 0, .arr 8, Bv true, I (i + 1)] [some (bxBigram e), some (.arr 3 out.length (fBigram out))] [inR .i64 (i + 1)] ⟨(inR_i64 (by omega) (by omega)), trivial⟩ ?_
        exact xe_again (out, true, (i + 1)) rfl (show (0 ≤ (i + 1) ∧ (i + 1) ≤ (list.length : Int)) ∧ (lpI list out e true (i + 1).toNat) ∧ True from ⟨(by omega), (by rw [show (i + 1).toNat = i.toNat + 1 from by omega]; first | exact lp_keep hp (by first | exact lp_n hlp hi (.inl rfl) | exact lp_n hlp hi (.inr (of_decide_eq_true (by assumption))) | exact lp_e hp hlp hi (of_decide_eq_false (by assumption))) hi (fun z => by have q := cmpG_zero.1 z; simp_all) | exact lp_drop (by first | exact lp_n hlp hi (.inl rfl) | exact lp_n hlp hi (.inr (of_decide_eq_true (by assumption))) | exact lp_e hp hlp hi (of_decide_eq_false (by assumption)))), trivial⟩) (by first | (show (((list.length : Int) - (i + 1)).toNat : Nat) < ((list.length : Int) - i).toNat; omega) | (dsimp only; omega))
       refine x_r [(7, .dec false), (16, .dec true)] [0, 3, 5, 6, 7, 45] [3, 8] [slBigram false list, .ref 3 0, .arr 8, Bv true, I i, Bv true] [some (bxBigram e), some (.arr 3 out.length (fBigram out))] [(0 : Int) ≤ i ∧ i < (list.length : Int), ¬ (((at_ list i.toNat).First) ≠ e.First), (0 : Int) ≤ i ∧ i < (list.length : Int), ((at_ list i.toNat).Second) ≠ e.Second] ⟨⟨(by omega), (by omega)⟩, (fun hq => hq h3), ⟨(by omega), (by omega)⟩, h4, trivial⟩ ?_
       refine xe_then ?_
       refine x_true rfl ?_
       refine x_r [(5, .new 51), (6, .new 52)] [0, 3, 5, 6, 7] [3, 52] [slBigram false list, .ref 3 0, .arr 52, Bv true, I i] [some (bxBigram e), some (.arr 3 (out.length + 1) (catF out.length (fBigram out) (litF [Sv ((at_ list i.toNat).First), Sv ((at_ list i.toNat).Second), I ((at_ list i.toNat).Cost)] 3)))] [(0 : Int) ≤ i ∧ i < (list.length : Int), (out.length + 1) * 40 ≤ 140737488355328] ⟨⟨(by omega), (by omega)⟩, (by omega), trivial⟩ ?_
       refine xe_block 1 ?_
       refine xe_then ?_
       refine x_r [] [0, 3, 5, 6, 7] [3, 52] [slBigram false list, .ref 3 0, .arr 52, Bv true, I (i + 1)] [some (bxBigram e), some (.arr 3 (out.length + 1) (catF out.length (fBigram out) (litF [Sv ((at_ list i.toNat).First), Sv ((at_ list i.toNat).Second), I ((at_ list i.toNat).Cost)] 3)))] [inR .i64 (i + 1)] ⟨(inR_i64 (by omega) (by omega)), trivial⟩ ?_
       refine xe_weak [(8, 52)] (T := [(0, slBigram false list), (3, .ref 3 0), (5, .arr 8), (6, Bv true), (7, I (i + 1))]) (O := [(3, bxBigram e), (8, .arr 3 ((out ++ [(at_ list i.toNat)]).length) (fBigram (out ++ [(at_ list i.toNat)])))]) rfl (⟨.inl rfl, .inl rfl, .inl rfl, .inl rfl, .inl rfl, trivial⟩) (⟨.inl rfl, .inr ⟨rfl, (by first | rfl | (simp; done) | (simp; omega) | omega), fun i_ hi_ => .inl (cat_snoc (enc := cBigram) (xs := out) rfl i_ hi_)⟩, trivial⟩) (xe_again ((out ++ [(at_ list i.toNat)]), true, (i + 1)) rfl (show (0 ≤ (i + 1) ∧ (i + 1) ≤ (list.length : Int)) ∧ (lpI list (out ++ [(at_ list i.toNat)]) e true (i + 1).toNat) ∧ True from ⟨(by omega), (by rw [show (i + 1).toNat = i.toNat + 1 from by omega]; first | exact lp_keep hp (by first | exact lp_n hlp hi (.inl rfl) | exact lp_n hlp hi (.inr (of_decide_eq_true (by assumption))) | exact lp_e hp hlp hi (of_decide_eq_false (by assumption))) hi (fun z => by have q := cmpG_zero.1 z; simp_all) | exact lp_drop (by first | exact lp_n hlp hi (.inl rfl) | exact lp_n hlp hi (.inr (of_decide_eq_true (by assumption))) | exact lp_e hp hlp hi (of_decide_eq_false (by assumption)))), trivial⟩) (by first | (show (((list.length : Int) - (i + 1)).toNat : Nat) < ((list.length : Int) - i).toNat; omega) | (dsimp only; omega)))
      refine x_r [(7, .dec true)] [0, 3, 5, 6, 7, 45] [3, 8] [slBigram false list, .ref 3 0, .arr 8, Bv true, I i, Bv true] [some (bxBigram e), some (.arr 3 out.length (fBigram out))] [(0 : Int) ≤ i ∧ i < (list.length : Int), ((at_ list i.toNat).First) ≠ e.First] ⟨⟨(by omega), (by omega)⟩, h3, trivial⟩ ?_
      refine xe_then ?_
      refine x_true rfl ?_
      refine x_r [(5, .new 51), (6, .new 52)] [0, 3, 5, 6, 7] [3, 52] [slBigram false list, .ref 3 0, .arr 52, Bv true, I i] [some (bxBigram e), some (.arr 3 (out.length + 1) (catF out.length (fBigram out) (litF [Sv ((at_ list i.toNat).First), Sv ((at_ list i.toNat).Second), I ((at_ list i.toNat).Cost)] 3)))] [(0 : Int) ≤ i ∧ i < (list.length : Int), (out.length + 1) * 40 ≤ 140737488355328] ⟨⟨(by omega), (by omega)⟩, (by omega), trivial⟩ ?_
      refine xe_block 1 ?_
      refine xe_then ?_
      refine x_r [] [0, 3, 5, 6, 7] [3, 52] [slBigram false list, .ref 3 0, .arr 52, Bv true, I (i + 1)] [some (bxBigram e), some (.arr 3 (out.length + 1) (catF out.length (fBigram out) (litF [Sv ((at_ list i.toNat).First), Sv ((at_ list i.toNat).Second), I ((at_ list i.toNat).Cost)] 3)))] [inR .i64 (i + 1)] ⟨(inR_i64 (by omega) (by omega)), trivial⟩ ?_
      refine xe_weak [(8, 52)] (T := [(0, slBigram false list), (3, .ref 3 0), (5, .arr 8), (6, Bv true), (7, I (i + 1))]) (O := [(3, bxBigram e), (8, .arr 3 ((out ++ [(at_ list i.toNat)]).length) (fBigram (out ++ [(at_ list i.toNat)])))]) rfl (⟨.inl rfl, .inl rfl, .inl rfl, .inl rfl, .inl rfl, trivial⟩) (⟨.inl rfl, .inr ⟨rfl, (by first | rfl | (simp; done) | (simp; omega) | omega), fun i_ hi_ => .inl (cat_snoc (enc := cBigram) (xs := out) rfl i_ hi_)⟩, trivial⟩) (xe_again ((out ++ [(at_ list i.toNat)]), true, (i + 1)) rfl (show (0 ≤ (i + 1) ∧ (i + 1) ≤ (list.length : Int)) ∧ (lpI list (out ++ [(at_ list i.toNat)]) e true (i + 1).toNat) ∧ True from ⟨(by omega), (by rw [show (i + 1).toNat = i.toNat + 1 from by omega]; first | exact lp_keep hp (by first | exact lp_n hlp hi (.inl rfl) | exact lp_n hlp hi (.inr (of_decide_eq_true (by assumption))) | exact lp_e hp hlp hi (of_decide_eq_false (by assumption))) hi (fun z => by have q := cmpG_zero.1 z; simp_all) | exact lp_drop (by first | exact lp_n hlp hi (.inl rfl) | exact lp_n hlp hi (.inr (of_decide_eq_true (by assumption))) | exact lp_e hp hlp hi (of_decide_eq_false (by assumption)))), trivial⟩) (by first | (show (((list.length : Int) - (i + 1)).toNat : Nat) < ((list.length : Int) - i).toNat; omega) | (dsimp only; omega)))
     subst h2
     rcases Bool.eq_false_or_eq_true (decide (cmpG (at_ list i.toNat) e < 0)) with h5 | h5
     ·refine x_r [(6, .call [(true, .any), (false, .ptr false [Sv e.First, Sv e.Second, I e.Cost])] true (Bv true))] [0, 3, 5, 6, 7, 23] [3, 8] [slBigram false list, .ref 3 0, .arr 8, Bv false, I i, Bv false] [some (bxBigram e), some (.arr 3 out.length (fBigram out))] [(0 : Int) ≤ i ∧ i < (list.length : Int), Con Try.prog 64 [.ptr false [Sv ((at_ list i.toNat).First), Sv ((at_ list i.toNat).Second), I ((at_ list i.toNat).Cost)], .ptr false [Sv e.First, Sv e.Second, I e.Cost]] true (Bv true) ∧ ((false = true → true = true) ∧ AV.idsL [Sv e.First, Sv e.Second, I e.Cost] = [] ∧ (valOf (Sv e.First) = valOf (Sv e.First)) ∧ (valOf (Sv e.Second) = valOf (Sv e.Second)) ∧ (valOf (I e.Cost) = valOf (I e.Cost)) ∧ ([] : List AV) = []) ∧ True] ⟨⟨(by omega), (by omega)⟩, ⟨(con_bool h5 (l18Before_ok (at_ list i.toNat) e)), ⟨(fun h => by cases h), rfl, ⟨rfl, ⟨rfl, ⟨rfl, rfl⟩⟩⟩⟩, trivial⟩, trivial⟩ ?_
      refine xe_then ?_
      refine x_false rfl ?_
      refine x_skip ?_
      refine xe_then ?_
      refine x_seq ?_
      by_cases h6 : ((at_ list i.toNat).First) = e.First
      ·by_cases h7 : ((at_ list i.toNat).Second) = e.Second
       ·refine x_r [(7, .dec false), (16, .dec false)] [0, 3, 5, 6, 7, 45] [3, 8] [slBigram false list, .ref 3 0, .arr 8, Bv false, I i, Bv false] [some (bxBigram e), some (.arr 3 out.length (fBigram out))] [(0 : Int) ≤ i ∧ i < (list.length : Int), ¬ (((at_ list i.toNat).First) ≠ e.First), (0 : Int) ≤ i ∧ i < (list.length : Int), ¬ (((at_ list i.toNat).Second) ≠ e.Second)] ⟨⟨(by omega), (by omega)⟩, (fun hq => hq h6), ⟨(by omega), (by omega)⟩, (fun hq => hq h7), trivial⟩ ?_
        refine xe_then ?_
        refine x_false rfl ?_
        refine x_skip ?_
        refine xe_block 1 ?_
        refine xe_then ?_
        refine x_r [] [0, 3, 5, 6, 7] [3, 8] [slBigram false list, .ref 3 0, .arr 8, Bv false, I (i + 1)] [some (bxBigram e), some (.arr 3 out.length (fBigram out))] [inR .i64 (i + 1)] ⟨(inR_i64 (by omega) (by omega)), trivial⟩ ?_
        exact xe_again (out, false, (i + 1)) rfl (show (0 ≤ (i + 1) ∧ (i + 1) ≤ (list.length : Int)) ∧ (lpI list out e false (i + 1).toNat) ∧ True from ⟨(by omega), (by rw [show (i + 1).toNat = i.toNat + 1 from by omega]; first | exact lp_keep hp (by first | exact lp_n hlp hi (.inl rfl) | exact lp_n hlp hi (.inr (of_decide_eq_true (by assumption))) | exact lp_e hp hlp hi (of_decide_eq_false (by assumption))) hi (fun z => by have q := cmpG_zero.1 z; simp_all) | exact lp_drop (by first | exact lp_n hlp hi (.inl rfl) | exact lp_n hlp hi (.inr (of_decide_eq_true (by assumption))) | exact lp_e hp hlp hi (of_decide_eq_false (by assumption)))), trivial⟩) (by first | (show (((list.length : Int) - (i + 1)).toNat : Nat) < ((list.length : Int) - i).toNat; omega) | (dsimp only; omega))
       refine x_r [(7, .dec false), (16, .dec true)] [0, 3, 5, 6, 7, 45] [3, 8] [slBigram false list, .ref 3 0, .arr 8, Bv false, I i, Bv true] [some (bxBigram e), some (.arr 3 out.length (fBigram out))] [(0 : Int) ≤ i ∧ i < (list.length : Int), ¬ (((at_ list i.toNat).First) ≠ e.First), (0 : Int) ≤ i ∧ i < (list.length : Int), ((at_ list i.toNat).Second) ≠ e.Second] ⟨⟨(by omega), (by omega)⟩, (fun hq => hq h6), ⟨(by omega), (by omega)⟩, h7, trivial⟩ ?_
       refine xe_then ?_
       refine x_true rfl ?_
       refine x_r [(5, .new 51), (6, .new 52)] [0, 3, 5, 6, 7] [3, 52] [slBigram false list, .ref 3 0, .arr 52, Bv false, I i] [some (bxBigram e), some (.arr 3 (out.length + 1) (catF out.length (fBigram out) (litF [Sv ((at_ list i.toNat).First), Sv ((at_ list i.toNat).Second), I ((at_ list i.toNat).Cost)] 3)))] [(0 : Int) ≤ i ∧ i < (list.length : Int), (out.length + 1) * 40 ≤ 140737488355328] ⟨⟨(by omega), (by omega)⟩, (by omega), trivial⟩ ?_
       refine xe_block 1 ?_
       refine xe_then ?_
       refine x_r [] [0, 3, 5, 6, 7] [3, 52] [slBigram false list, .ref 3 0, .arr 52, Bv false, I (i + 1)] [some (bxBigram e), some (.arr 3 (out.length + 1) (catF out.length (fBigram out) (litF [Sv ((at_ list i.toNat).First), Sv ((at_ list i.toNat).Second), I ((at_ list i.toNat).Cost)] 3)))] [inR .i64 (i + 1)] ⟨(inR_i64 (by omega) (by omega)), trivial⟩ ?_
       refine xe_weak [(8, 52)] (T := [(0, slBigram false list), (3, .ref 3 0), (5, .arr 8), (6, Bv false), (7, I (i + 1))]) (O := [(3, bxBigram e), (8, .arr 3 ((out ++ [(at_ list i.toNat)]).length) (fBigram (out ++ [(at_ list i.toNat)])))]) rfl (⟨.inl rfl, .inl rfl, .inl rfl, .inl rfl, .inl rfl, trivial⟩) (⟨.inl rfl, .inr ⟨rfl, (by first | rfl | (simp; done) | (simp; omega) | omega), fun i_ hi_ => .inl (cat_snoc (enc := cBigram) (xs := out) rfl i_ hi_)⟩, trivial⟩) (xe_again ((out ++ [(at_ list i.toNat)]), false, (i + 1)) rfl (show (0 ≤ (i + 1) ∧ (i + 1) ≤ (list.length : Int)) ∧ (lpI list (out ++ [(at_ list i.toNat)]) e false (i + 1).toNat) ∧ True from ⟨(by omega), (by rw [show (i + 1).toNat = i.toNat + 1 from by omega]; first | exact lp_keep hp (by first | exact lp_n hlp hi (.inl rfl) | exact lp_n hlp hi (.inr (of_decide_eq_true (by assumption))) | exact lp_e hp hlp hi (of_decide_eq_false (by assumption))) hi (fun z => by have q := cmpG_zero.1 z; simp_all) | exact lp_drop (by first | exact lp_n hlp hi (.inl rfl) | exact lp_n hlp hi (.inr (of_decide_eq_true (by assumption))) | exact lp_e hp hlp hi (of_decide_eq_false (by assumption)))), trivial⟩) (by first | (show (((list.length : Int) - (i + 1)).toNat : Nat) < ((list.length : Int) - i).toNat; omega) | (dsimp only; omega)))
      refine x_r [(7, .dec true)] [0, 3, 5, 6, 7, 45] [3, 8] [slBigram false list, .ref 3 0, .arr 8, Bv false, I i, Bv true] [some (bxBigram e), some (.arr 3 out.length (fBigram out))] [(0 : Int) ≤ i ∧ i < (list.length : Int), ((at_ list i.toNat).First) ≠ e.First] ⟨⟨(by omega), (by omega)⟩, h6, trivial⟩ ?_
      refine xe_then ?_
      refine x_true rfl ?_
      refine x_r [(5, .new 51), (6, .new 52)] [0, 3, 5, 6, 7] [3, 52] [slBigram false list, .ref 3 0, .arr 52, Bv false, I i] [some (bxBigram e), some (.arr 3 (out.length + 1) (catF out.length (fBigram out) (litF [Sv ((at_ list i.toNat).First), Sv ((at_ list i.toNat).Second), I ((at_ list i.toNat).Cost)] 3)))] [(0 : Int) ≤ i ∧ i < (list.length : Int), (out.length + 1) * 40 ≤ 140737488355328] ⟨⟨(by omega), (by omega)⟩, (by omega), trivial⟩ ?_
      refine xe_block 1 ?_
      refine xe_then ?_
      refine x_r [] [0, 3, 5, 6, 7] [3, 52] [slBigram false list, .ref 3 0, .arr 52, Bv false, I (i + 1)] [some (bxBigram e), some (.arr 3 (out.length + 1) (catF out.length (fBigram out) (litF [Sv ((at_ list i.toNat).First), Sv ((at_ list i.toNat).Second), I ((at_ list i.toNat).Cost)] 3)))] [inR .i64 (i + 1)] ⟨(inR_i64 (by omega) (by omega)), trivial⟩ ?_
      refine xe_weak [(8, 52)] (T := [(0, slBigram false list), (3, .ref 3 0), (5, .arr 8), (6, Bv false), (7, I (i + 1))]) (O := [(3, bxBigram e), (8, .arr 3 ((out ++ [(at_ list i.toNat)]).length) (fBigram (out ++ [(at_ list i.toNat)])))]) rfl (⟨.inl rfl, .inl rfl, .inl rfl, .inl rfl, .inl rfl, trivial⟩) (⟨.inl rfl, .inr ⟨rfl, (by first | rfl | (simp; done) | (simp; omega) | omega), fun i_ hi_ => .inl (cat_snoc (enc := cBigram) (xs := out) rfl i_ hi_)⟩, trivial⟩) (xe_again ((out ++ [(at_ list i.toNat)]), false, (i + 1)) rfl (show (0 ≤ (i + 1) ∧ (i + 1) ≤ (list.length : Int)) ∧ (lpI list (out ++ [(at_ list i.toNat)]) e false (i + 1).toNat) ∧ True from ⟨(by omega), (by rw [show (i + 1).toNat = i.toNat + 1 from by omega]; first | exact lp_keep hp (by first | exact lp_n hlp hi (.inl rfl) | exact lp_n hlp hi (.inr (of_decide_eq_true (by assumption))) | exact lp_e hp hlp hi (of_decide_eq_false (by assumption))) hi (fun z => by have q := cmpG_zero.1 z; simp_all) | exact lp_drop (by first | exact lp_n hlp hi (.inl rfl) | exact lp_n hlp hi (.inr (of_decide_eq_true (by assumption))) | exact lp_e hp hlp hi (of_decide_eq_false (by assumption)))), trivial⟩) (by first | (show (((list.length : Int) - (i + 1)).toNat : Nat) < ((list.length : Int) - i).toNat; omega) | (dsimp only; omega)))
     refine x_r [(6, .call [(true, .any), (false, .ptr false [Sv e.First, Sv e.Second, I e.Cost])] true (Bv false))] [0, 3, 5, 6, 7, 23] [3, 8] [slBigram false list, .ref 3 0, .arr 8, Bv false, I i, Bv true] [some (bxBigram e), some (.arr 3 out.length (fBigram out))] [(0 : Int) ≤ i ∧ i < (list.length : Int), Con Try.prog 64 [.ptr false [Sv ((at_ list i.toNat).First), Sv ((at_ list i.toNat).Second), I ((at_ list i.toNat).Cost)], .ptr false [Sv e.First, Sv e.Second, I e.Cost]] true (Bv false) ∧ ((false = true → true = true) ∧ AV.idsL [Sv e.First, Sv e.Second, I e.Cost] = [] ∧ (valOf (Sv e.First) = valOf (Sv e.First)) ∧ (valOf (Sv e.Second) = valOf (Sv e.Second)) ∧ (valOf (I e.Cost) = valOf (I e.Cost)) ∧ ([] : List AV) = []) ∧ True] ⟨⟨(by omega), (by omega)⟩, ⟨(con_bool h5 (l18Before_ok (at_ list i.toNat) e)), ⟨(fun h => by cases h), rfl, ⟨rfl, ⟨rfl, ⟨rfl, rfl⟩⟩⟩⟩, trivial⟩, trivial⟩ ?_
     refine xe_then ?_
     refine x_true rfl ?_
     refine xR [(2, .new 26), (3, .new 27)] [0, 3, 5, 7] [3, 27] [slBigram false list, .ref 3 0, .arr 27, I i] [some (bxBigram e), some (.arr 3 (out.length + 1) (catF out.length (fBigram out) (litF [Sv e.First, Sv e.Second, I e.Cost] 3)))] [(out.length + 1) * 40 ≤ 140737488355328] ⟨(by omega), trivial⟩ ?_
     refine x_r [] [0, 3, 5, 6, 7] [3, 27] [slBigram false list, .ref 3 0, .arr 27, Bv true, I i] [some (bxBigram e), some (.arr 3 (out.length + 1) (catF out.length (fBigram out) (litF [Sv e.First, Sv e.Second, I e.Cost] 3)))] [] trivial ?_
     refine xe_then ?_
     refine x_seq ?_
     by_cases h8 : ((at_ list i.toNat).First) = e.First
     ·by_cases h9 : ((at_ list i.toNat).Second) = e.Second
      ·refine x_r [(7, .dec false), (16, .dec false)] [0, 3, 5, 6, 7, 45] [3, 27] [slBigram false list, .ref 3 0, .arr 27, Bv true, I i, Bv false] [some (bxBigram e), some (.arr 3 (out.length + 1) (catF out.length (fBigram out) (litF [Sv e.First, Sv e.Second, I e.Cost] 3)))] [(0 : Int) ≤ i ∧ i < (list.length : Int), ¬ (((at_ list i.toNat).First) ≠ e.First), (0 : Int) ≤ i ∧ i < (list.length : Int), ¬ (((at_ list i.toNat).Second) ≠ e.Second)] ⟨⟨(by omega), (by omega)⟩, (fun hq => hq h8), ⟨(by omega), (by omega)⟩, (fun hq => hq h9), trivial⟩ ?_
       refine xe_then ?_
       refine x_false rfl ?_
       refine x_skip ?_
       refine xe_block 1 ?_
       refine xe_then ?_
       refine x_r [] [0, 3, 5, 6, 7] [3, 27] [slBigram false list, .ref 3 0, .arr 27, Bv true, I (i + 1)] [some (bxBigram e), some (.arr 3 (out.length + 1) (catF out.length (fBigram out) (litF [Sv e.First, Sv e.Second, I e.Cost] 3)))] [inR .i64 (i + 1)] ⟨(inR_i64 (by omega) (by omega)), trivial⟩ ?_
       refine xe_weak [(8, 27)] (T := [(0, slBigram false list), (3, .ref 3 0), (5, .arr 8), (6, Bv true), (7, I (i + 1))]) (O := [(3, bxBigram e), (8, .arr 3 ((out ++ [e]).length) (fBigram (out ++ [e])))]) rfl (⟨.inl rfl, .inl rfl, .inl rfl, .inl rfl, .inl rfl, trivial⟩) (⟨.inl rfl, .inr ⟨rfl, (by first | rfl | (simp; done) | (simp; omega) | omega), fun i_ hi_ => .inl (cat_snoc (enc := cBigram) (xs := out) rfl i_ hi_)⟩, trivial⟩) (xe_again ((out ++ [e]), true, (i + 1)) rfl (show (0 ≤ (i + 1) ∧ (i + 1) ≤ (list.length : Int)) ∧ (lpI list (out ++ [e]) e true (i + 1).toNat) ∧ True from ⟨(by omega), (by rw [show (i + 1).toNat = i.toNat + 1 from by omega]; first | exact lp_keep hp (by first | exact lp_n hlp hi (.inl rfl) | exact lp_n hlp hi (.inr (of_decide_eq_true (by assumption))) | exact lp_e hp hlp hi (of_decide_eq_false (by assumption))) hi (fun z => by have q := cmpG_zero.1 z; simp_all) | exact lp_drop (by first | exact lp_n hlp hi (.inl rfl) | exact lp_n hlp hi (.inr (of_decide_eq_true (by assumption))) | exact lp_e hp hlp hi (of_decide_eq_false (by assumption)))), trivial⟩) (by first | (show (((list.length : Int) - (i + 1)).toNat : Nat) < ((list.length : Int) - i).toNat; omega) | (dsimp only; omega)))
      refine x_r [(7, .dec false), (16, .dec true)] [0, 3, 5, 6, 7, 45] [3, 27] [slBigram false list, .ref 3 0, .arr 27, Bv true, I i, Bv true] [some (bxBigram e), some (.arr 3 (out.length + 1) (catF out.length (fBigram out) (litF [Sv e.First, Sv e.Second, I e.Cost] 3)))] [(0 : Int) ≤ i ∧ i < (list.length : Int), ¬ (((at_ list i.toNat).First) ≠ e.First), (0 : Int) ≤ i ∧ i < (list.length : Int), ((at_ list i.toNat).Second) ≠ e.Second] ⟨⟨(by omega), (by omega)⟩, (fun hq => hq h8), ⟨(by omega), (by omega)⟩, h9, trivial⟩ ?_
      refine xe_then ?_
      refine x_true rfl ?_
      refine x_r [(5, .new 51), (6, .new 52)] [0, 3, 5, 6, 7] [3, 52] [slBigram false list, .ref 3 0, .arr 52, Bv true, I i] [some (bxBigram e), some (.arr 3 ((out.length + 1) + 1) (catF (out.length + 1) (catF out.length (fBigram out) (litF [Sv e.First, Sv e.Second, I e.Cost] 3)) (litF [Sv ((at_ list i.toNat).First), Sv ((at_ list i.toNat).Second), I ((at_ list i.toNat).Cost)] 3)))] [(0 : Int) ≤ i ∧ i < (list.length : Int), ((out.length + 1) + 1) * 40 ≤ 140737488355328] ⟨⟨(by omega), (by omega)⟩, (by omega), trivial⟩ ?_
      refine xe_block 1 ?_
      refine xe_then ?_
      refine x_r [] [0, 3, 5, 6, 7] [3, 52] [slBigram false list, .ref 3 0, .arr 52, Bv true, I (i + 1)] [some (bxBigram e), some (.arr 3 ((out.length + 1) + 1) (catF (out.length + 1) (catF out.length (fBigram out) (litF [Sv e.First, Sv e.Second, I e.Cost] 3)) (litF [Sv ((at_ list i.toNat).First), Sv ((at_ list i.toNat).Second), I ((at_ list i.toNat).Cost)] 3)))] [inR .i64 (i + 1)] ⟨(inR_i64 (by omega) (by omega)), trivial⟩ ?_
      refine xe_weak [(8, 52)] (T := [(0, slBigram false list), (3, .ref 3 0), (5, .arr 8), (6, Bv true), (7, I (i + 1))]) (O := [(3, bxBigram e), (8, .arr 3 (((out ++ [e]) ++ [(at_ list i.toNat)]).length) (fBigram ((out ++ [e]) ++ [(at_ list i.toNat)])))]) rfl (⟨.inl rfl, .inl rfl, .inl rfl, .inl rfl, .inl rfl, trivial⟩) (⟨.inl rfl, .inr ⟨rfl, (by first | rfl | (simp; done) | (simp; omega) | omega), fun i_ hi_ => .inl (cat_two (enc := cBigram) (xs := (out ++ [e])) (ys := [(at_ list i.toNat)]) (by first | rfl | (simp; done) | (simp; omega)) (fun i_ hi_ => (cat_snoc (enc := cBigram) (xs := out) rfl i_ hi_)) (fun i_ hi_ => (match i_, hi_ with | 0, _ => rfl | (i + 1), h => absurd h (by simp))) i_ hi_)⟩, trivial⟩) (xe_again (((out ++ [e]) ++ [(at_ list i.toNat)]), true, (i + 1)) rfl (show (0 ≤ (i + 1) ∧ (i + 1) ≤ (list.length : Int)) ∧ (lpI list ((out ++ [e]) ++ [(at_ list i.toNat)]) e true (i + 1).toNat) ∧ True from ⟨(by omega), (by rw [show (i + 1).toNat = i.toNat + 1 from by omega]; first | exact lp_keep hp (by first | exact lp_n hlp hi (.inl rfl) | exact lp_n hlp hi (.inr (of_decide_eq_true (by assumption))) | exact lp_e hp hlp hi (of_decide_eq_false (by assumption))) hi (fun z => by have q := cmpG_zero.1 z; simp_all) | exact lp_drop (by first | exact lp_n hlp hi (.inl rfl) | exact lp_n hlp hi (.inr (of_decide_eq_true (by assumption))) | exact lp_e hp hlp hi (of_decide_eq_false (by assumption)))), trivial⟩) (by first | (show (((list.length : Int) - (i + 1)).toNat : Nat) < ((list.length : Int) - i).toNat; omega) | (dsimp only; omega)))
     refine x_r [(7, .dec true)] [0, 3, 5, 6, 7, 45] [3, 27] [slBigram false list, .ref 3 0, .arr 27, Bv true, I i, Bv true] [some (bxBigram e), some (.arr 3 (out.length + 1) (catF out.length (fBigram out) (litF [Sv e.First, Sv e.Second, I e.Cost] 3)))] [(0 : Int) ≤ i ∧ i < (list.length : Int), ((at_ list i.toNat).First) ≠ e.First] ⟨⟨(by omega), (by omega)⟩, h8, trivial⟩ ?_
     refine xe_then ?_
     refine x_true rfl ?_
     refine x_r [(5, .new 51), (6, .new 52)] [0, 3, 5, 6, 7] [3, 52] [slBigram false list, .ref 3 0, .arr 52, Bv true, I i] [some (bxBigram e), some (.arr 3 ((out.length + 1) + 1) (catF (out.length + 1) (catF out.length (fBigram out) (litF [Sv e.First, Sv e.Second, I e.Cost] 3)) (litF [Sv ((at_ list i.toNat).First), Sv ((at_ list i.toNat).Second), I ((at_ list i.toNat).Cost)] 3)))] [(0 : Int) ≤ i ∧ i < (list.length : Int), ((out.length + 1) + 1) * 40 ≤ 140737488355328] ⟨⟨(by omega), (by omega)⟩, (by omega), trivial⟩ ?_
     refine xe_block 1 ?_
     refine xe_then ?_
     refine x_r [] [0, 3, 5, 6, 7] [3, 52] [slBigram false list, .ref 3 0, .arr 52, Bv true, I (i + 1)] [some (bxBigram e), some (.arr 3 ((out.length + 1) + 1) (catF (out.length + 1) (catF out.length (fBigram out) (litF [Sv e.First, Sv e.Second, I e.Cost] 3)) (litF [Sv ((at_ list i.toNat).First), Sv ((at_ list i.toNat).Second), I ((at_ list i.toNat).Cost)] 3)))] [inR .i64 (i + 1)] ⟨(inR_i64 (by omega) (by omega)), trivial⟩ ?_
     refine xe_weak [(8, 52)] (T := [(0, slBigram false list), (3, .ref 3 0), (5, .arr 8), (6, Bv true), (7, I (i + 1))]) (O := [(3, bxBigram e), (8, .arr 3 (((out ++ [e]) ++ [(at_ list i.toNat)]).length) (fBigram ((out ++ [e]) ++ [(at_ list i.toNat)])))]) rfl (⟨.inl rfl, .inl rfl, .inl rfl, .inl rfl, .inl rfl, trivial⟩) (⟨.inl rfl, .inr ⟨rfl, (by first | rfl | (simp; done) | (simp; omega) | omega), fun i_ hi_ => .inl (cat_two (enc := cBigram) (xs := (out ++ [e])) (ys := [(at_ list i.toNat)]) (by first | rfl | (simp; done) | (simp; omega)) (fun i_ hi_ => (cat_snoc (enc := cBigram) (xs := out) rfl i_ hi_)) (fun i_ hi_ => (match i_, hi_ with | 0, _ => rfl | (i + 1), h => absurd h (by simp))) i_ hi_)⟩, trivial⟩) (xe_again (((out ++ [e]) ++ [(at_ list i.toNat)]), true, (i + 1)) rfl (show (0 ≤ (i + 1) ∧ (i + 1) ≤ (list.length : Int)) ∧ (lpI list ((out ++ [e]) ++ [(at_ list i.toNat)]) e true (i + 1).toNat) ∧ True from ⟨(by omega), (by rw [show (i + 1).toNat = i.toNat + 1 from by omega]; first | exact lp_keep hp (by first | exact lp_n hlp hi (.inl rfl) | exact lp_n hlp hi (.inr (of_decide_eq_true (by assumption))) | exact lp_e hp hlp hi (of_decide_eq_false (by assumption))) hi (fun z => by have q := cmpG_zero.1 z; simp_all) | exact lp_drop (by first | exact lp_n hlp hi (.inl rfl) | exact lp_n hlp hi (.inr (of_decide_eq_true (by assumption))) | exact lp_e hp hlp hi (of_decide_eq_false (by assumption)))), trivial⟩) (by first | (show (((list.length : Int) - (i + 1)).toNat : Nat) < ((list.length : Int) - i).toNat; omega) | (dsimp only; omega)))
    have hie : i.toNat = list.length := by omega
    refine x_r [(3, .dec false)] [0, 3, 5, 6, 7, 12] [3, 8] [slBigram false list, .ref 3 0, .arr 8, Bv put, I i, Bv false] [some (bxBigram e), some (.arr 3 out.length (fBigram out))] [¬ (i < (list.length : Int))] ⟨h1, trivial⟩ ?_
    refine xe_then ?_
    refine x_false rfl ?_
    refine x_exit ?_
    refine xe_exit_then ?_
    refine xe_loop_exit ?_
    refine xe_exit_same ?_
    refine xe_then ?_
    refine x_seq ?_
    refine x_seq ?_
    rcases Bool.eq_false_or_eq_true put with h10 | h10
    ·subst h10
     refine x_r [] [3, 5, 54] [3, 8] [.ref 3 0, .arr 8, Bv false] [some (bxBigram e), some (.arr 3 out.length (fBigram out))] [] trivial ?_
     refine xe_then ?_
     refine x_false rfl ?_
     refine x_skip ?_
     refine xe_then ?_
     refine xR [] [4] [8] [.arr 8] [some (.arr 3 out.length (fBigram out))] [] trivial ?_
     refine x_ret ?_
     refine xe_end out (show ((out.length : Int) ≤ (list.length : Int) + 1) ∧ (∀ x ∈ out, x = e ∨ x ∈ list) ∧ (out.Pairwise fun x_ y_ => cmpG x_ y_ < 0) ∧ (True) from ⟨(by first | exact (lp_end hlp).1 | exact (lp_end hlp).2.1 | (have q := (lp_end hlp).2.2; omega) | exact hlp.1 | exact hlp.2.1 | (have q := hlp.2.2.1; simp at q; omega)), (by first | exact (lp_end hlp).1 | exact (lp_end hlp).2.1 | (have q := (lp_end hlp).2.2; omega) | exact hlp.1 | exact hlp.2.1 | (have q := hlp.2.2.1; simp at q; omega)), (by first | exact (lp_end hlp).1 | exact (lp_end hlp).2.1 | (have q := (lp_end hlp).2.2; omega) | exact hlp.1 | exact hlp.2.1 | (have q := hlp.2.2.1; simp at q; omega)), trivial⟩) (trivial) (.arr 8) (by kernel_rfl) (.inr ⟨(fun _ => rfl), rfl, rfl, fun i _ => .inl rfl⟩) (fun _ => rfl) (fun _ => (tagBigram true _))
    subst h10
    refine x_r [] [3, 5, 54] [3, 8] [.ref 3 0, .arr 8, Bv true] [some (bxBigram e), some (.arr 3 out.length (fBigram out))] [] trivial ?_
    refine xe_then ?_
    refine x_true rfl ?_
    refine x_r [(2, .new 57), (3, .new 58)] [5] [58] [.arr 58] [some (.arr 3 (out.length + 1) (catF out.length (fBigram out) (litF [Sv e.First, Sv e.Second, I e.Cost] 3)))] [(out.length + 1) * 40 ≤ 140737488355328] ⟨(by omega), trivial⟩ ?_
    refine xe_then ?_
    refine xR [] [4] [58] [.arr 58] [some (.arr 3 (out.length + 1) (catF out.length (fBigram out) (litF [Sv e.First, Sv e.Second, I e.Cost] 3)))] [] trivial ?_
    refine x_ret ?_
    refine xe_end (out ++ [e]) (show (((out ++ [e]).length : Int) ≤ (list.length : Int) + 1) ∧ (∀ x ∈ (out ++ [e]), x = e ∨ x ∈ list) ∧ ((out ++ [e]).Pairwise fun x_ y_ => cmpG x_ y_ < 0) ∧ (True) from ⟨(by first | exact (lp_end hlp).1 | exact (lp_end hlp).2.1 | (have q := (lp_end hlp).2.2; omega) | exact hlp.1 | exact hlp.2.1 | (have q := hlp.2.2.1; simp at q; omega)), (by first | exact (lp_end hlp).1 | exact (lp_end hlp).2.1 | (have q := (lp_end hlp).2.2; omega) | exact hlp.1 | exact hlp.2.1 | (have q := hlp.2.2.1; simp at q; omega)), (by first | exact (lp_end hlp).1 | exact (lp_end hlp).2.1 | (have q := (lp_end hlp).2.2; omega) | exact hlp.1 | exact hlp.2.1 | (have q := hlp.2.2.1; simp at q; omega)), trivial⟩) (trivial) (.arr 58) (by kernel_rfl) (.inr ⟨(fun _ => rfl), rfl, (by first | rfl | (simp; done) | (simp; omega) | omega), fun i_ hi_ => .inl (cat_snoc (enc := cBigram) (xs := out) rfl i_ hi_)⟩) (fun _ => rfl) (fun _ => (tagBigram true _))
  obtain ⟨v, ⟨hh0, hh1, hh2, _⟩, hc⟩ := hh
  exact ⟨v, hh0, hh1, hh2, hc⟩


-- spec.l18Draw
theorem l18Draw_ok (s : l00Src) (most : Int) (hs : okSrc s) (ha : s.atx ≤ 3999999999999996000) (hmo : 0 ≤ most ∧ most ≤ 20) : ∃ (v : Model) (s' : l00Src), (okSrc s') ∧ (s'.code = s.code) ∧ (s.atx + 0 ≤ s'.atx ∧ s'.atx ≤ s.atx + 400) ∧ (okMod v) ∧ CallOK Try.prog 24 [.ref 7001 0, I most] (lookO [(7001, bxl00Src s)]) true (agModelT v) (lookO [(7001, bxl00Src s')]) := by
  have hh : ∃ r : Model × l00Src, ((okSrc r.2) ∧ (r.2.code = s.code) ∧ (s.atx + 0 ≤ r.2.atx ∧ r.2.atx ≤ s.atx + 400) ∧ (okMod r.1) ∧ (True)) ∧ CallOK Try.prog 24 [.ref 7001 0, I most] (lookO [(7001, bxl00Src s)]) true (agModelT r.1) (lookO [(7001, bxl00Src r.2)]) := by
    refine fn_okX (Φ := fun r : Model × l00Src => (okSrc r.2) ∧ (r.2.code = s.code) ∧ (s.atx + 0 ≤ r.2.atx ∧ r.2.atx ≤ s.atx + 400) ∧ (okMod r.1) ∧ (True)) [(7001, bxl00Src s)] (fun r => [(7001, bxl00Src r.2)]) (fn := Try.f24) (nt := 38) Try.func24 rfl rfl (args := [.ref 7001 0, I most]) rfl (allcons (.inr trivial) (allcons (.inl ⟨rfl, trivial⟩) allnil)) (res := fun r => agModelT r.1) ?_
    refine xR [(0, .new 4)] [0, 1, 4] [4, 7001] [.ref 7001 0, I most, .ref 4 0] [some (.box [I 0, nilA]), some (bxl00Src s)] [] trivial ?_
    refine x_seq ?_
    obtain ⟨v_1, s'_1, hx1_0, hx1_1, hx1_2, hx1_3, hc1⟩ := pick_ok s 30 (by first | assumption | (simp only [okSrc] at *; simp_all; done)) (by omega)
    refine x_r [(1, .lend [(7001, bxl00Src s, bxl00Src s'_1)] [] [(true, .any), (true, .any)] true (I v_1)), (3, .new 5)] [0, 1, 4, 5] [4, 5, 7001] [.ref 7001 0, I most, .ref 4 0, .ref 5 0] [some (.box [I 0, nilA]), some (.box [I v_1, nilA]), some (bxl00Src s'_1)] [CallOK Try.prog 19 [.ref 7001 0, I 30] (lookO [(7001, bxl00Src s)]) true (I v_1) (lookO [(7001, bxl00Src s'_1)]) ∧ (((bxl00Src s : Ob) = bxl00Src s ∨ obLe noOb true (bxl00Src s) (bxl00Src s)) ∧ taggedO false (bxl00Src s)) ∧ True] ⟨⟨hc1, ⟨.inl rfl, (by simp [taggedO, taggedL, tagged, tagU8])⟩, trivial⟩, trivial⟩ ?_
    refine xe_then ?_
    refine x_seq ?_
    refine x_seq ?_
    obtain ⟨v_2, s'_2, hx2_0, hx2_1, hx2_2, hx2_3, hc2⟩ := pick_ok s'_1 (most + 1) (by first | assumption | (simp only [okSrc] at *; simp_all; done)) (by omega)
    refine x_r [(3, .lend [(7001, bxl00Src s'_1, bxl00Src s'_2)] [] [(true, .any), (true, .any)] true (I v_2))] [0, 4, 5, 6] [4, 5, 7001] [.ref 7001 0, .ref 4 0, .ref 5 0, I v_2] [some (.box [I 0, nilA]), some (.box [I v_1, nilA]), some (bxl00Src s'_2)] [inR .i64 (most + 1), CallOK Try.prog 19 [.ref 7001 0, I (most + 1)] (lookO [(7001, bxl00Src s'_1)]) true (I v_2) (lookO [(7001, bxl00Src s'_2)]) ∧ (((bxl00Src s'_1 : Ob) = bxl00Src s'_1 ∨ obLe noOb true (bxl00Src s'_1) (bxl00Src s'_1)) ∧ taggedO false (bxl00Src s'_1)) ∧ True] ⟨(inR_i64 (by omega) (by omega)), ⟨hc2, ⟨.inl rfl, (by simp [taggedO, taggedL, tagged, tagU8])⟩, trivial⟩, trivial⟩ ?_
    refine xe_then ?_
    refine x_block ?_
    refine x_weak [] (T := [(0, .ref 7001 0), (4, .ref 4 0), (5, .ref 5 0), (6, I v_2)]) (O := [(4, .box [I 0, nilA]), (5, .box [I ((Model.mk v_1 ([] : List Bigram)).Default), .sl true 3 ((Model.mk v_1 ([] : List Bigram)).Bigrams.length) (fBigram ((Model.mk v_1 ([] : List Bigram)).Bigrams))]), (7001, bxl00Src s'_2)]) rfl (⟨.inl rfl, .inl rfl, .inl rfl, .inl rfl, trivial⟩) (⟨.inl rfl, .inr ⟨(by first | rfl | (simp [valOf]; done) | (simp [valOf]; omega)), ⟨⟨rfl, rfl⟩, rfl⟩⟩, .inl rfl, trivial⟩) ?_
    refine x_loop (X := Int × Model × l00Src) (fun x => mkS [(0, .ref 7001 0), (4, .ref 4 0), (5, .ref 5 0), (6, I x.1)] [(4, .box [I 0, nilA]), (5, bxModelT x.2.1), (7001, bxl00Src x.2.2)]) (fun x => (okSrc x.2.2 ∧ x.2.2.code = s.code ∧ s.atx ≤ x.2.2.atx ∧ x.2.2.atx ≤ s.atx + 20 + 18 * (most - x.1)) ∧ (0 ≤ x.1 ∧ x.1 ≤ most) ∧ (okMod x.2.1) ∧ ((x.2.1.Bigrams.length : Int) + x.1 ≤ most) ∧ True) (fun x => x.1.toNat) (v_2, (Model.mk v_1 ([] : List Bigram)), s'_2) rfl (show (okSrc s'_2 ∧ s'_2.code = s.code ∧ s.atx ≤ s'_2.atx ∧ s'_2.atx ≤ s.atx + 20 + 18 * (most - v_2)) ∧ (0 ≤ v_2 ∧ v_2 ≤ most) ∧ (okMod (Model.mk v_1 ([] : List Bigram))) ∧ (((Model.mk v_1 ([] : List Bigram)).Bigrams.length : Int) + v_2 ≤ most) ∧ True from ⟨(by exact ⟨by assumption, by first | assumption | rfl | (simp only [*]; done), by omega, by omega⟩), (by omega), (by exact okMod_nil (by omega)), (by (simp; omega)), trivial⟩) (fun x hI => ?_)
    obtain ⟨k, out, src⟩ := x
    obtain ⟨hs0, hk0, hla, hno, _⟩ : (okSrc src ∧ src.code = s.code ∧ s.atx ≤ src.atx ∧ src.atx ≤ s.atx + 20 + 18 * (most - k)) ∧ (0 ≤ k ∧ k ≤ most) ∧ (okMod out) ∧ ((out.Bigrams.length : Int) + k ≤ most) ∧ True := hI
    show XW _ _ _ _ (mkS [(0, .ref 7001 0), (4, .ref 4 0), (5, .ref 5 0), (6, I k)] [(4, .box [I 0, nilA]), (5, bxModelT out), (7001, bxl00Src src)]) _ _
    refine x_seq ?_
    refine x_seq ?_
    by_cases h1 : 0 < k
    ·refine x_r [(1, .dec true)] [0, 4, 5, 6, 17] [4, 5, 7001] [.ref 7001 0, .ref 4 0, .ref 5 0, I k, Bv true] [some (.box [I 0, nilA]), some (bxModelT out), some (bxl00Src src)] [0 < k] ⟨h1, trivial⟩ ?_
     refine xe_then ?_
     refine x_true rfl ?_
     refine x_skip ?_
     refine xe_then ?_
     refine x_seq ?_
     refine x_block ?_
     refine x_seq ?_
     obtain ⟨v_3, hx3_0, hx3_1, hc3⟩ := l16Words_ok
     have hwa := hx3_0
     have hwb := hx3_1
     obtain ⟨v_4, s'_4, hx4_0, hx4_1, hx4_2, hx4_3, hx4_4, hc4⟩ := text_ok src v_3 (by first | assumption | (simp only [okSrc] at *; simp_all; done)) (by omega) hwa
     have hw_v_4 : okWord v_4 = true := hwb _ hx4_4
     refine x_r [(1, .call [] true (slS true v_3)), (2, .lend [(7001, bxl00Src src, bxl00Src s'_4)] [] [(true, .any), (false, slS false v_3)] true (Sv v_4))] [0, 4, 5, 6, 7] [4, 5, 7001] [.ref 7001 0, .ref 4 0, .ref 5 0, I k, Sv v_4] [some (.box [I 0, nilA]), some (bxModelT out), some (bxl00Src s'_4)] [Con Try.prog 22 [] true (slS true v_3) ∧ True, CallOK Try.prog 21 [.ref 7001 0, slS false v_3] (lookO [(7001, bxl00Src src)]) true (Sv v_4) (lookO [(7001, bxl00Src s'_4)]) ∧ ((false = true → true = true) ∧ 1 = 1 ∧ v_3.length = v_3.length ∧ ∀ i_, i_ < v_3.length → (fS v_3) i_ = (fS v_3) i_ ∨ (AV.idsL ((fS v_3) i_) = [] ∧ leL (fun _ => none) false ((fS v_3) i_) ((fS v_3) i_))) ∧ (((bxl00Src src : Ob) = bxl00Src src ∨ obLe noOb true (bxl00Src src) (bxl00Src src)) ∧ taggedO false (bxl00Src src)) ∧ True] ⟨⟨hc3, trivial⟩, ⟨hc4, ⟨(fun h => by cases h), rfl, rfl, fun i _ => .inl rfl⟩, ⟨.inl rfl, (by simp [taggedO, taggedL, tagged, tagU8])⟩, trivial⟩, trivial⟩ ?_
     refine xe_then ?_
     refine x_seq ?_
     refine x_seq ?_
     obtain ⟨v_5, s'_5, hx5_0, hx5_1, hx5_2, hc5⟩ := one_ok s'_4 4 (by first | assumption | (simp only [okSrc] at *; simp_all; done)) (by omega)
     rcases Bool.eq_false_or_eq_true v_5 with h2 | h2
     ·subst h2
      refine x_r [(1, .lend [(7001, bxl00Src s'_4, bxl00Src s'_5)] [] [(true, .any), (true, .any)] true (Bv true))] [0, 4, 5, 6, 7, 24] [4, 5, 7001] [.ref 7001 0, .ref 4 0, .ref 5 0, I k, Sv v_4, Bv true] [some (.box [I 0, nilA]), some (bxModelT out), some (bxl00Src s'_5)] [CallOK Try.prog 44 [.ref 7001 0, I 4] (lookO [(7001, bxl00Src s'_4)]) true (Bv true) (lookO [(7001, bxl00Src s'_5)]) ∧ (((bxl00Src s'_4 : Ob) = bxl00Src s'_4 ∨ obLe noOb true (bxl00Src s'_4) (bxl00Src s'_4)) ∧ taggedO false (bxl00Src s'_4)) ∧ True] ⟨⟨hc5, ⟨.inl rfl, (by simp [taggedO, taggedL, tagged, tagU8])⟩, trivial⟩, trivial⟩ ?_
      refine xe_then ?_
      refine x_true rfl ?_
      refine x_r [] [0, 4, 5, 6, 7] [4, 5, 7001] [.ref 7001 0, .ref 4 0, .ref 5 0, I k, Sv (⟨#[]⟩ : ByteArray)] [some (.box [I 0, nilA]), some (bxModelT out), some (bxl00Src s'_5)] [] trivial ?_
      refine xe_then ?_
      refine x_seq ?_
      obtain ⟨v_6, s'_6, hx6_0, hx6_1, hx6_2, hx6_3, hx6_4, hc6⟩ := text_ok s'_5 v_3 (by first | assumption | (simp only [okSrc] at *; simp_all; done)) (by omega) hwa
      have hw_v_6 : okWord v_6 = true := hwb _ hx6_4
      refine x_r [(1, .call [] true (slS true v_3)), (2, .lend [(7001, bxl00Src s'_5, bxl00Src s'_6)] [] [(true, .any), (false, slS false v_3)] true (Sv v_6))] [0, 4, 5, 6, 7, 8] [4, 5, 7001] [.ref 7001 0, .ref 4 0, .ref 5 0, I k, Sv (⟨#[]⟩ : ByteArray), Sv v_6] [some (.box [I 0, nilA]), some (bxModelT out), some (bxl00Src s'_6)] [Con Try.prog 22 [] true (slS true v_3) ∧ True, CallOK Try.prog 21 [.ref 7001 0, slS false v_3] (lookO [(7001, bxl00Src s'_5)]) true (Sv v_6) (lookO [(7001, bxl00Src s'_6)]) ∧ ((false = true → true = true) ∧ 1 = 1 ∧ v_3.length = v_3.length ∧ ∀ i_, i_ < v_3.length → (fS v_3) i_ = (fS v_3) i_ ∨ (AV.idsL ((fS v_3) i_) = [] ∧ leL (fun _ => none) false ((fS v_3) i_) ((fS v_3) i_))) ∧ (((bxl00Src s'_5 : Ob) = bxl00Src s'_5 ∨ obLe noOb true (bxl00Src s'_5) (bxl00Src s'_5)) ∧ taggedO false (bxl00Src s'_5)) ∧ True] ⟨⟨hc3, trivial⟩, ⟨hc6, ⟨(fun h => by cases h), rfl, rfl, fun i _ => .inl rfl⟩, ⟨.inl rfl, (by simp [taggedO, taggedL, tagged, tagU8])⟩, trivial⟩, trivial⟩ ?_
      refine xe_then ?_
      obtain ⟨v_7, s'_7, hx7_0, hx7_1, hx7_2, hx7_3, hc7⟩ := pick_ok s'_6 30 (by first | assumption | (simp only [okSrc] at *; simp_all; done)) (by omega)
      obtain ⟨v_8, hx8_0, hx8_1, hx8_2, hc8⟩ := l18Put_ok out.Bigrams (Bigram.mk (⟨#[]⟩ : ByteArray) v_6 v_7) hla.2.2.2 (by omega)
      have hput := mod_put hla (e := (Bigram.mk (⟨#[]⟩ : ByteArray) v_6 v_7)) ⟨by dsimp only; assumption, by dsimp only; first | exact .inl rfl | exact .inr (by assumption), by dsimp only; omega⟩ (by omega) hx8_0 hx8_1 hx8_2
      refine x_r [(5, .lend [(7001, bxl00Src s'_6, bxl00Src s'_7)] [] [(true, .any), (true, .any)] true (I v_7)), (7, .call [(false, slBigram false out.Bigrams), (true, .any)] true (slBigram true v_8))] [0, 4, 5, 6] [4, 5, 7001] [.ref 7001 0, .ref 4 0, .ref 5 0, I k] [some (.box [I 0, nilA]), some (.box [I out.Default, slBigram true v_8]), some (bxl00Src s'_7)] [CallOK Try.prog 19 [.ref 7001 0, I 30] (lookO [(7001, bxl00Src s'_6)]) true (I v_7) (lookO [(7001, bxl00Src s'_7)]) ∧ (((bxl00Src s'_6 : Ob) = bxl00Src s'_6 ∨ obLe noOb true (bxl00Src s'_6) (bxl00Src s'_6)) ∧ taggedO false (bxl00Src s'_6)) ∧ True, Con Try.prog 45 [slBigram false out.Bigrams, .agg [Sv (⟨#[]⟩ : ByteArray), Sv v_6, I v_7]] true (slBigram true v_8) ∧ ((false = true → true = true) ∧ 3 = 3 ∧ out.Bigrams.length = out.Bigrams.length ∧ ∀ i_, i_ < out.Bigrams.length → (fBigram out.Bigrams) i_ = (fBigram out.Bigrams) i_ ∨ (AV.idsL ((fBigram out.Bigrams) i_) = [] ∧ leL (fun _ => none) false ((fBigram out.Bigrams) i_) ((fBigram out.Bigrams) i_))) ∧ True] ⟨⟨hc7, ⟨.inl rfl, (by simp [taggedO, taggedL, tagged, tagU8])⟩, trivial⟩, ⟨hc8, ⟨(fun h => by cases h), rfl, rfl, fun i _ => .inl rfl⟩, trivial⟩, trivial⟩ ?_
      refine xe_block 1 ?_
      refine xe_then ?_
      refine x_r [] [0, 4, 5, 6] [4, 5, 7001] [.ref 7001 0, .ref 4 0, .ref 5 0, I (k - 1)] [some (.box [I 0, nilA]), some (.box [I out.Default, slBigram true v_8]), some (bxl00Src s'_7)] [inR .i64 (k - 1)] ⟨(inR_i64 (by omega) (by omega)), trivial⟩ ?_
      refine xe_weak [] (T := [(0, .ref 7001 0), (4, .ref 4 0), (5, .ref 5 0), (6, I (k - 1))]) (O := [(4, .box [I 0, nilA]), (5, .box [I ((Model.mk out.Default v_8).Default), .sl true 3 ((Model.mk out.Default v_8).Bigrams.length) (fBigram ((Model.mk out.Default v_8).Bigrams))]), (7001, bxl00Src s'_7)]) rfl (⟨.inl rfl, .inl rfl, .inl rfl, .inl rfl, trivial⟩) (⟨.inl rfl, .inr ⟨(by first | rfl | (simp [valOf]; done) | (simp [valOf]; omega)), ⟨⟨(fun _ => rfl), rfl, (by first | rfl | (simp; done) | (simp; omega) | omega), fun i_ hi_ => .inl (by first | rfl | fail)⟩, rfl⟩⟩, .inl rfl, trivial⟩) (xe_again ((k - 1), (Model.mk out.Default v_8), s'_7) rfl (show (okSrc s'_7 ∧ s'_7.code = s.code ∧ s.atx ≤ s'_7.atx ∧ s'_7.atx ≤ s.atx + 20 + 18 * (most - (k - 1))) ∧ (0 ≤ (k - 1) ∧ (k - 1) ≤ most) ∧ (okMod (Model.mk out.Default v_8)) ∧ (((Model.mk out.Default v_8).Bigrams.length : Int) + (k - 1) ≤ most) ∧ True from ⟨(by exact ⟨by assumption, by first | assumption | rfl | (simp only [*]; done), by omega, by omega⟩), (by omega), (by exact hput), (by (dsimp only; omega)), trivial⟩) (by first | (show ((k - 1).toNat : Nat) < k.toNat; omega) | (dsimp only; omega)))
     subst h2
     refine x_r [(1, .lend [(7001, bxl00Src s'_4, bxl00Src s'_5)] [] [(true, .any), (true, .any)] true (Bv false))] [0, 4, 5, 6, 7, 24] [4, 5, 7001] [.ref 7001 0, .ref 4 0, .ref 5 0, I k, Sv v_4, Bv false] [some (.box [I 0, nilA]), some (bxModelT out), some (bxl00Src s'_5)] [CallOK Try.prog 44 [.ref 7001 0, I 4] (lookO [(7001, bxl00Src s'_4)]) true (Bv false) (lookO [(7001, bxl00Src s'_5)]) ∧ (((bxl00Src s'_4 : Ob) = bxl00Src s'_4 ∨ obLe noOb true (bxl00Src s'_4) (bxl00Src s'_4)) ∧ taggedO false (bxl00Src s'_4)) ∧ True] ⟨⟨hc5, ⟨.inl rfl, (by simp [taggedO, taggedL, tagged, tagU8])⟩, trivial⟩, trivial⟩ ?_
     refine xe_then ?_
     refine x_false rfl ?_
     refine x_skip ?_
     refine xe_then ?_
     refine x_seq ?_
     obtain ⟨v_9, s'_9, hx9_0, hx9_1, hx9_2, hx9_3, hx9_4, hc9⟩ := text_ok s'_5 v_3 (by first | assumption | (simp only [okSrc] at *; simp_all; done)) (by omega) hwa
     have hw_v_9 : okWord v_9 = true := hwb _ hx9_4
     refine x_r [(1, .call [] true (slS true v_3)), (2, .lend [(7001, bxl00Src s'_5, bxl00Src s'_9)] [] [(true, .any), (false, slS false v_3)] true (Sv v_9))] [0, 4, 5, 6, 7, 8] [4, 5, 7001] [.ref 7001 0, .ref 4 0, .ref 5 0, I k, Sv v_4, Sv v_9] [some (.box [I 0, nilA]), some (bxModelT out), some (bxl00Src s'_9)] [Con Try.prog 22 [] true (slS true v_3) ∧ True, CallOK Try.prog 21 [.ref 7001 0, slS false v_3] (lookO [(7001, bxl00Src s'_5)]) true (Sv v_9) (lookO [(7001, bxl00Src s'_9)]) ∧ ((false = true → true = true) ∧ 1 = 1 ∧ v_3.length = v_3.length ∧ ∀ i_, i_ < v_3.length → (fS v_3) i_ = (fS v_3) i_ ∨ (AV.idsL ((fS v_3) i_) = [] ∧ leL (fun _ => none) false ((fS v_3) i_) ((fS v_3) i_))) ∧ (((bxl00Src s'_5 : Ob) = bxl00Src s'_5 ∨ obLe noOb true (bxl00Src s'_5) (bxl00Src s'_5)) ∧ taggedO false (bxl00Src s'_5)) ∧ True] ⟨⟨hc3, trivial⟩, ⟨hc9, ⟨(fun h => by cases h), rfl, rfl, fun i _ => .inl rfl⟩, ⟨.inl rfl, (by simp [taggedO, taggedL, tagged, tagU8])⟩, trivial⟩, trivial⟩ ?_
     refine xe_then ?_
     obtain ⟨v_10, s'_10, hx10_0, hx10_1, hx10_2, hx10_3, hc10⟩ := pick_ok s'_9 30 (by first | assumption | (simp only [okSrc] at *; simp_all; done)) (by omega)
     obtain ⟨v_11, hx11_0, hx11_1, hx11_2, hc11⟩ := l18Put_ok out.Bigrams (Bigram.mk v_4 v_9 v_10) hla.2.2.2 (by omega)
     have hput := mod_put hla (e := (Bigram.mk v_4 v_9 v_10)) ⟨by dsimp only; assumption, by dsimp only; first | exact .inl rfl | exact .inr (by assumption), by dsimp only; omega⟩ (by omega) hx11_0 hx11_1 hx11_2
     refine x_r [(5, .lend [(7001, bxl00Src s'_9, bxl00Src s'_10)] [] [(true, .any), (true, .any)] true (I v_10)), (7, .call [(false, slBigram false out.Bigrams), (true, .any)] true (slBigram true v_11))] [0, 4, 5, 6] [4, 5, 7001] [.ref 7001 0, .ref 4 0, .ref 5 0, I k] [some (.box [I 0, nilA]), some (.box [I out.Default, slBigram true v_11]), some (bxl00Src s'_10)] [CallOK Try.prog 19 [.ref 7001 0, I 30] (lookO [(7001, bxl00Src s'_9)]) true (I v_10) (lookO [(7001, bxl00Src s'_10)]) ∧ (((bxl00Src s'_9 : Ob) = bxl00Src s'_9 ∨ obLe noOb true (bxl00Src s'_9) (bxl00Src s'_9)) ∧ taggedO false (bxl00Src s'_9)) ∧ True, Con Try.prog 45 [slBigram false out.Bigrams, .agg [Sv v_4, Sv v_9, I v_10]] true (slBigram true v_11) ∧ ((false = true → true = true) ∧ 3 = 3 ∧ out.Bigrams.length = out.Bigrams.length ∧ ∀ i_, i_ < out.Bigrams.length → (fBigram out.Bigrams) i_ = (fBigram out.Bigrams) i_ ∨ (AV.idsL ((fBigram out.Bigrams) i_) = [] ∧ leL (fun _ => none) false ((fBigram out.Bigrams) i_) ((fBigram out.Bigrams) i_))) ∧ True] ⟨⟨hc10, ⟨.inl rfl, (by simp [taggedO, taggedL, tagged, tagU8])⟩, trivial⟩, ⟨hc11, ⟨(fun h => by cases h), rfl, rfl, fun i _ => .inl rfl⟩, trivial⟩, trivial⟩ ?_
     refine xe_block 1 ?_
     refine xe_then ?_
     refine x_r [] [0, 4, 5, 6] [4, 5, 7001] [.ref 7001 0, .ref 4 0, .ref 5 0, I (k - 1)] [some (.box [I 0, nilA]), some (.box [I out.Default, slBigram true v_11]), some (bxl00Src s'_10)] [inR .i64 (k - 1)] ⟨(inR_i64 (by omega) (by omega)), trivial⟩ ?_
     refine xe_weak [] (T := [(0, .ref 7001 0), (4, .ref 4 0), (5, .ref 5 0), (6, I (k - 1))]) (O := [(4, .box [I 0, nilA]), (5, .box [I ((Model.mk out.Default v_11).Default), .sl true 3 ((Model.mk out.Default v_11).Bigrams.length) (fBigram ((Model.mk out.Default v_11).Bigrams))]), (7001, bxl00Src s'_10)]) rfl (⟨.inl rfl, .inl rfl, .inl rfl, .inl rfl, trivial⟩) (⟨.inl rfl, .inr ⟨(by first | rfl | (simp [valOf]; done) | (simp [valOf]; omega)), ⟨⟨(fun _ => rfl), rfl, (by first | rfl | (simp; done) | (simp; omega) | omega), fun i_ hi_ => .inl (by first | rfl | fail)⟩, rfl⟩⟩, .inl rfl, trivial⟩) (xe_again ((k - 1), (Model.mk out.Default v_11), s'_10) rfl (show (okSrc s'_10 ∧ s'_10.code = s.code ∧ s.atx ≤ s'_10.atx ∧ s'_10.atx ≤ s.atx + 20 + 18 * (most - (k - 1))) ∧ (0 ≤ (k - 1) ∧ (k - 1) ≤ most) ∧ (okMod (Model.mk out.Default v_11)) ∧ (((Model.mk out.Default v_11).Bigrams.length : Int) + (k - 1) ≤ most) ∧ True from ⟨(by exact ⟨by assumption, by first | assumption | rfl | (simp only [*]; done), by omega, by omega⟩), (by omega), (by exact hput), (by (dsimp only; omega)), trivial⟩) (by first | (show ((k - 1).toNat : Nat) < k.toNat; omega) | (dsimp only; omega)))
    refine x_r [(1, .dec false)] [0, 4, 5, 6, 17] [4, 5, 7001] [.ref 7001 0, .ref 4 0, .ref 5 0, I k, Bv false] [some (.box [I 0, nilA]), some (bxModelT out), some (bxl00Src src)] [¬ (0 < k)] ⟨h1, trivial⟩ ?_
    refine xe_then ?_
    refine x_false rfl ?_
    refine x_exit ?_
    refine xe_exit_then ?_
    refine xe_loop_exit ?_
    refine xe_exit_same ?_
    refine xe_then ?_
    refine xR [] [4] [4, 7001] [.ref 4 0] [some (bxModelT out), some (bxl00Src src)] [] trivial ?_
    refine x_ret ?_
    refine xe_end (out, src) (show (okSrc src) ∧ (src.code = s.code) ∧ (s.atx + 0 ≤ src.atx ∧ src.atx ≤ s.atx + 400) ∧ (okMod out) ∧ (True) from ⟨(by first | omega | assumption | exact hs0.1 | exact hs0.2.1), (by first | omega | assumption | exact hs0.1 | exact hs0.2.1), (by first | omega | assumption | exact hs0.1 | exact hs0.2.1), (by first | omega | assumption | exact hs0.1 | exact hs0.2.1), trivial⟩) (⟨.inl rfl, trivial⟩) (agModelT out) (by kernel_rfl) (.inl rfl) (fun _ => rfl) (fun _ => (by simp [tagged, taggedL, tagBigram]))
  obtain ⟨⟨v, s'⟩, ⟨hh0, hh1, hh2, hh3, _⟩, hc⟩ := hh
  exact ⟨v, s', hh0, hh1, hh2, hh3, hc⟩


-- spec.A2Sentence
theorem A2Sentence_ok (code : List Int) (hc : (∀ j, j < code.length → 0 ≤ at_ code j ∧ at_ code j ≤ 255) ∧ code.length ≤ 4611686018427387904) : ∃ (list : List Lattice) (x : Lexicon) (m : Model) (words : List ByteArray), ((list.length : Int) ≤ 8 ∧ ∀ l ∈ list, okLat l) ∧ (okLex x) ∧ (okMod m) ∧ (words.length = list.length ∧ (words.length : Int) ≤ 3) ∧ (∀ z ∈ words, okWord z = true) ∧ Con Try.prog 6 [slU8 false code] true (.tup [slLattice true list, .agg [slEntry true x.Entries], agModelT m, slS true words]) := by
  have hh : ∃ r : (List Lattice) × Lexicon × Model × (List ByteArray), (((r.1.length : Int) ≤ 8 ∧ ∀ l ∈ r.1, okLat l) ∧ (okLex r.2.1) ∧ (okMod r.2.2.1) ∧ (r.2.2.2.length = r.1.length ∧ (r.2.2.2.length : Int) ≤ 3) ∧ (∀ z ∈ r.2.2.2, okWord z = true) ∧ (True)) ∧ CallOK Try.prog 6 [slU8 false code] (lookO []) true (.tup [slLattice true r.1, .agg [slEntry true r.2.1.Entries], agModelT r.2.2.1, slS true r.2.2.2]) (lookO []) := by
    refine fn_okX (Φ := fun r : (List Lattice) × Lexicon × Model × (List ByteArray) => ((r.1.length : Int) ≤ 8 ∧ ∀ l ∈ r.1, okLat l) ∧ (okLex r.2.1) ∧ (okMod r.2.2.1) ∧ (r.2.2.2.length = r.1.length ∧ (r.2.2.2.length : Int) ≤ 3) ∧ (∀ z ∈ r.2.2.2, okWord z = true) ∧ (True)) [] (fun r => []) (fn := Try.f6) (nt := 39) Try.func6 rfl rfl (args := [slU8 false code]) rfl (allcons (.inl ⟨rfl, tagU8 false _⟩) allnil) (res := fun r => .tup [slLattice true r.1, .agg [slEntry true r.2.1.Entries], agModelT r.2.2.1, slS true r.2.2.2]) ?_
    refine xR [(1, .new 3), (2, .new 4)] [0, 3, 4] [3, 4] [slU8 false code, .ref 3 0, .ref 4 0] [some (.box [nilA]), some (.box [I 0, nilA])] [] trivial ?_
    refine x_seq ?_
    obtain ⟨s'_1, hx1_0, hc1⟩ := l00From_ok code
    refine x_r [(1, .lend [] [(7001, bxl00Src s'_1)] [(true, .any)] false (.ref 7001 0))] [3, 4, 6] [3, 4, 7001] [.ref 3 0, .ref 4 0, .ref 7001 0] [some (.box [nilA]), some (.box [I 0, nilA]), some (bxl00Src s'_1)] [CallOK Try.prog 18 [slU8 false code] (lookO []) false (.ref 7001 0) (lookO [(7001, bxl00Src s'_1)]) ∧ True] ⟨⟨hc1, trivial⟩, trivial⟩ ?_
    refine xe_then ?_
    refine xR [(0, .new 13)] [3, 4, 6, 7] [3, 4, 13, 7001] [.ref 3 0, .ref 4 0, .ref 7001 0, .arr 13] [some (.box [nilA]), some (.box [I 0, nilA]), some (.arr 2 0 (litF [] 2)), some (bxl00Src s'_1)] [] trivial ?_
    refine xR [(0, .new 14)] [3, 4, 6, 7, 8] [3, 4, 13, 14, 7001] [.ref 3 0, .ref 4 0, .ref 7001 0, .arr 13, .arr 14] [some (.box [nilA]), some (.box [I 0, nilA]), some (.arr 2 0 (litF [] 2)), some (.arr 1 0 (litF [] 1)), some (bxl00Src s'_1)] [] trivial ?_
    refine x_seq ?_
    refine x_seq ?_
    obtain ⟨v_2, s'_2, hx2_0, hx2_1, hx2_2, hx2_3, hc2⟩ := pick_ok s'_1 4 (by first | assumption | (simp only [okSrc] at *; simp_all; done)) (by omega)
    refine x_r [(1, .lend [(7001, bxl00Src s'_1, bxl00Src s'_2)] [] [(true, .any), (true, .any)] true (I v_2))] [3, 4, 6, 7, 8, 9] [3, 4, 13, 14, 7001] [.ref 3 0, .ref 4 0, .ref 7001 0, .arr 13, .arr 14, I v_2] [some (.box [nilA]), some (.box [I 0, nilA]), some (.arr 2 0 (litF [] 2)), some (.arr 1 0 (litF [] 1)), some (bxl00Src s'_2)] [CallOK Try.prog 19 [.ref 7001 0, I 4] (lookO [(7001, bxl00Src s'_1)]) true (I v_2) (lookO [(7001, bxl00Src s'_2)]) ∧ (((bxl00Src s'_1 : Ob) = bxl00Src s'_1 ∨ obLe noOb true (bxl00Src s'_1) (bxl00Src s'_1)) ∧ taggedO false (bxl00Src s'_1)) ∧ True] ⟨⟨hc2, ⟨.inl rfl, (by simp [taggedO, taggedL, tagged, tagU8])⟩, trivial⟩, trivial⟩ ?_
    refine xe_then ?_
    refine x_block ?_
    refine x_weak [] (T := [(3, .ref 3 0), (4, .ref 4 0), (6, .ref 7001 0), (7, .arr 13), (8, .arr 14), (9, I v_2)]) (O := [(3, .box [nilA]), (4, .box [I 0, nilA]), (13, .arr 2 (([] : List Lattice).length) (fLattice true ([] : List Lattice))), (14, .arr 1 (([] : List ByteArray).length) (fS ([] : List ByteArray))), (7001, bxl00Src s'_2)]) rfl (⟨.inl rfl, .inl rfl, .inl rfl, .inl rfl, .inl rfl, .inl rfl, trivial⟩) (⟨.inl rfl, .inl rfl, .inr ⟨rfl, (by first | rfl | (simp; done) | (simp; omega) | omega), fun i_ hi_ => absurd hi_ (Nat.not_lt_zero _)⟩, .inr ⟨rfl, (by first | rfl | (simp; done) | (simp; omega) | omega), fun i_ hi_ => absurd hi_ (Nat.not_lt_zero _)⟩, .inl rfl, trivial⟩) ?_
    refine x_loop (X := (List Lattice) × (List ByteArray) × Int × l00Src) (fun x => mkS [(3, .ref 3 0), (4, .ref 4 0), (6, .ref 7001 0), (7, .arr 13), (8, .arr 14), (9, I x.2.2.1)] [(3, .box [nilA]), (4, .box [I 0, nilA]), (13, .arr 2 x.1.length (fLattice true x.1)), (14, .arr 1 x.2.1.length (fS x.2.1)), (7001, bxl00Src x.2.2.2)]) (fun x => (okSrc x.2.2.2 ∧ x.2.2.2.atx ≤ 1000 + 600 * (3 - x.2.2.1)) ∧ (0 ≤ x.2.2.1 ∧ x.2.2.1 ≤ 3) ∧ ((x.1.length : Int) + x.2.2.1 ≤ 3) ∧ (∀ l ∈ x.1, okLat l) ∧ (x.2.1.length = x.1.length) ∧ (∀ z ∈ x.2.1, okWord z = true) ∧ True) (fun x => x.2.2.1.toNat) (([] : List Lattice), ([] : List ByteArray), v_2, s'_2) rfl (show (okSrc s'_2 ∧ s'_2.atx ≤ 1000 + 600 * (3 - v_2)) ∧ (0 ≤ v_2 ∧ v_2 ≤ 3) ∧ ((([] : List Lattice).length : Int) + v_2 ≤ 3) ∧ (∀ l ∈ ([] : List Lattice), okLat l) ∧ (([] : List ByteArray).length = ([] : List Lattice).length) ∧ (∀ z ∈ ([] : List ByteArray), okWord z = true) ∧ True from ⟨(by first | assumption | (constructor <;> first | assumption | omega)), (by omega), (by simp; omega), (by simp), (by rfl), (by simp), trivial⟩) (fun x hI => ?_)
    obtain ⟨ls, ws, k, src⟩ := x
    obtain ⟨hs0, hk0, hl0, hz0, hw0, hw1, _⟩ : (okSrc src ∧ src.atx ≤ 1000 + 600 * (3 - k)) ∧ (0 ≤ k ∧ k ≤ 3) ∧ ((ls.length : Int) + k ≤ 3) ∧ (∀ l ∈ ls, okLat l) ∧ (ws.length = ls.length) ∧ (∀ z ∈ ws, okWord z = true) ∧ True := hI
    show XW _ _ _ _ (mkS [(3, .ref 3 0), (4, .ref 4 0), (6, .ref 7001 0), (7, .arr 13), (8, .arr 14), (9, I k)] [(3, .box [nilA]), (4, .box [I 0, nilA]), (13, .arr 2 ls.length (fLattice true ls)), (14, .arr 1 ws.length (fS ws)), (7001, bxl00Src src)]) _ _
    refine x_seq ?_
    refine x_seq ?_
    by_cases h1 : 0 < k
    ·refine x_r [(1, .dec true)] [3, 4, 6, 7, 8, 9, 18] [3, 4, 13, 14, 7001] [.ref 3 0, .ref 4 0, .ref 7001 0, .arr 13, .arr 14, I k, Bv true] [some (.box [nilA]), some (.box [I 0, nilA]), some (.arr 2 ls.length (fLattice true ls)), some (.arr 1 ws.length (fS ws)), some (bxl00Src src)] [0 < k] ⟨h1, trivial⟩ ?_
     refine xe_then ?_
     refine x_true rfl ?_
     refine x_skip ?_
     refine xe_then ?_
     refine x_seq ?_
     refine x_block ?_
     refine x_seq ?_
     obtain ⟨v_3, s'_3, hx3_0, hx3_1, hx3_2, hx3_3, hc3⟩ := l15Draw_ok src 4 (by first | assumption | (simp only [okSrc] at *; simp_all; done)) (by omega) (by omega)
     have hlt : okLat v_3 := hx3_3
     refine x_r [(2, .lend [(7001, bxl00Src src, bxl00Src s'_3)] [] [(true, .any), (true, .any)] true (agLatticeT v_3)), (3, .new 24), (4, .new 25)] [3, 4, 6, 7, 8, 9] [3, 4, 14, 25, 7001] [.ref 3 0, .ref 4 0, .ref 7001 0, .arr 25, .arr 14, I k] [some (.box [nilA]), some (.box [I 0, nilA]), some (.arr 1 ws.length (fS ws)), some (.arr 2 (ls.length + 1) (catF ls.length (fLattice true ls) (litF [I v_3.Nodes, slEdge true v_3.Edges] 2))), some (bxl00Src s'_3)] [CallOK Try.prog 20 [.ref 7001 0, I 4] (lookO [(7001, bxl00Src src)]) true (agLatticeT v_3) (lookO [(7001, bxl00Src s'_3)]) ∧ (((bxl00Src src : Ob) = bxl00Src src ∨ obLe noOb true (bxl00Src src) (bxl00Src src)) ∧ taggedO false (bxl00Src src)) ∧ True, (ls.length + 1) * 32 ≤ 140737488355328] ⟨⟨hc3, ⟨.inl rfl, (by simp [taggedO, taggedL, tagged, tagU8])⟩, trivial⟩, (by omega), trivial⟩ ?_
     refine xe_then ?_
     refine x_weak [] (T := [(3, .ref 3 0), (4, .ref 4 0), (6, .ref 7001 0), (7, .arr 25), (8, .arr 14), (9, I k)]) (O := [(3, .box [nilA]), (4, .box [I 0, nilA]), (14, .arr 1 ws.length (fS ws)), (25, .arr 2 ((ls ++ [v_3]).length) (fLattice true (ls ++ [v_3]))), (7001, bxl00Src s'_3)]) rfl (⟨.inl rfl, .inl rfl, .inl rfl, .inl rfl, .inl rfl, .inl rfl, trivial⟩) (⟨.inl rfl, .inl rfl, .inl rfl, .inr ⟨rfl, (by first | rfl | (simp; done) | (simp; omega) | omega), fun i_ hi_ => .inl (cat_snoc (enc := (cLattice true)) (xs := ls) rfl i_ hi_)⟩, .inl rfl, trivial⟩) ?_
     obtain ⟨v_4, hx4_0, hx4_1, hc4⟩ := l16Words_ok
     have hwa := hx4_0
     have hwb := hx4_1
     obtain ⟨v_5, s'_5, hx5_0, hx5_1, hx5_2, hx5_3, hx5_4, hc5⟩ := text_ok s'_3 v_4 (by first | assumption | (simp only [okSrc] at *; simp_all; done)) (by omega) hwa
     have hw_v_5 : okWord v_5 = true := hwb _ hx5_4
     refine x_r [(2, .call [] true (slS true v_4)), (3, .lend [(7001, bxl00Src s'_3, bxl00Src s'_5)] [] [(true, .any), (false, slS false v_4)] true (Sv v_5)), (4, .new 30), (5, .new 31)] [3, 4, 6, 7, 8, 9] [3, 4, 25, 31, 7001] [.ref 3 0, .ref 4 0, .ref 7001 0, .arr 25, .arr 31, I k] [some (.box [nilA]), some (.box [I 0, nilA]), some (.arr 2 ((ls ++ [v_3]).length) (fLattice true (ls ++ [v_3]))), some (.arr 1 (ws.length + 1) (catF ws.length (fS ws) (litF [Sv v_5] 1))), some (bxl00Src s'_5)] [Con Try.prog 22 [] true (slS true v_4) ∧ True, CallOK Try.prog 21 [.ref 7001 0, slS false v_4] (lookO [(7001, bxl00Src s'_3)]) true (Sv v_5) (lookO [(7001, bxl00Src s'_5)]) ∧ ((false = true → true = true) ∧ 1 = 1 ∧ v_4.length = v_4.length ∧ ∀ i_, i_ < v_4.length → (fS v_4) i_ = (fS v_4) i_ ∨ (AV.idsL ((fS v_4) i_) = [] ∧ leL (fun _ => none) false ((fS v_4) i_) ((fS v_4) i_))) ∧ (((bxl00Src s'_3 : Ob) = bxl00Src s'_3 ∨ obLe noOb true (bxl00Src s'_3) (bxl00Src s'_3)) ∧ taggedO false (bxl00Src s'_3)) ∧ True, (ws.length + 1) * 16 ≤ 140737488355328] ⟨⟨hc4, trivial⟩, ⟨hc5, ⟨(fun h => by cases h), rfl, rfl, fun i _ => .inl rfl⟩, ⟨.inl rfl, (by simp [taggedO, taggedL, tagged, tagU8])⟩, trivial⟩, (by omega), trivial⟩ ?_
     refine xe_block 1 ?_
     refine xe_then ?_
     refine x_weak [] (T := [(3, .ref 3 0), (4, .ref 4 0), (6, .ref 7001 0), (7, .arr 25), (8, .arr 31), (9, I k)]) (O := [(3, .box [nilA]), (4, .box [I 0, nilA]), (25, .arr 2 ((ls ++ [v_3]).length) (fLattice true (ls ++ [v_3]))), (31, .arr 1 ((ws ++ [v_5]).length) (fS (ws ++ [v_5]))), (7001, bxl00Src s'_5)]) rfl (⟨.inl rfl, .inl rfl, .inl rfl, .inl rfl, .inl rfl, .inl rfl, trivial⟩) (⟨.inl rfl, .inl rfl, .inl rfl, .inr ⟨rfl, (by first | rfl | (simp; done) | (simp; omega) | omega), fun i_ hi_ => .inl (cat_snoc (enc := cS) (xs := ws) rfl i_ hi_)⟩, .inl rfl, trivial⟩) ?_
     refine x_r [] [3, 4, 6, 7, 8, 9] [3, 4, 25, 31, 7001] [.ref 3 0, .ref 4 0, .ref 7001 0, .arr 25, .arr 31, I (k - 1)] [some (.box [nilA]), some (.box [I 0, nilA]), some (.arr 2 ((ls ++ [v_3]).length) (fLattice true (ls ++ [v_3]))), some (.arr 1 ((ws ++ [v_5]).length) (fS (ws ++ [v_5]))), some (bxl00Src s'_5)] [inR .i64 (k - 1)] ⟨(inR_i64 (by omega) (by omega)), trivial⟩ ?_
     refine xe_weak [(13, 25), (14, 31)] (T := [(3, .ref 3 0), (4, .ref 4 0), (6, .ref 7001 0), (7, .arr 13), (8, .arr 14), (9, I (k - 1))]) (O := [(3, .box [nilA]), (4, .box [I 0, nilA]), (13, .arr 2 ((ls ++ [v_3]).length) (fLattice true (ls ++ [v_3]))), (14, .arr 1 ((ws ++ [v_5]).length) (fS (ws ++ [v_5]))), (7001, bxl00Src s'_5)]) rfl (⟨.inl rfl, .inl rfl, .inl rfl, .inl rfl, .inl rfl, .inl rfl, trivial⟩) (⟨.inl rfl, .inl rfl, .inl rfl, .inl rfl, .inl rfl, trivial⟩) (xe_again ((ls ++ [v_3]), (ws ++ [v_5]), (k - 1), s'_5) rfl (show (okSrc s'_5 ∧ s'_5.atx ≤ 1000 + 600 * (3 - (k - 1))) ∧ (0 ≤ (k - 1) ∧ (k - 1) ≤ 3) ∧ (((ls ++ [v_3]).length : Int) + (k - 1) ≤ 3) ∧ (∀ l ∈ (ls ++ [v_3]), okLat l) ∧ ((ws ++ [v_5]).length = (ls ++ [v_3]).length) ∧ (∀ z ∈ (ws ++ [v_5]), okWord z = true) ∧ True from ⟨(by constructor <;> first | assumption | omega), (by omega), (by simp; omega), (by intro l hl; rcases List.mem_append.1 hl with hl | hl; (exact hz0 l hl); (simp only [List.mem_singleton] at hl; subst hl; assumption)), (by simp [hw0]), (by intro l hl; rcases List.mem_append.1 hl with hl | hl; (exact hw1 l hl); (simp only [List.mem_singleton] at hl; subst hl; assumption)), trivial⟩) (by first | (show ((k - 1).toNat : Nat) < k.toNat; omega) | (dsimp only; omega)))
    refine x_r [(1, .dec false)] [3, 4, 6, 7, 8, 9, 18] [3, 4, 13, 14, 7001] [.ref 3 0, .ref 4 0, .ref 7001 0, .arr 13, .arr 14, I k, Bv false] [some (.box [nilA]), some (.box [I 0, nilA]), some (.arr 2 ls.length (fLattice true ls)), some (.arr 1 ws.length (fS ws)), some (bxl00Src src)] [¬ (0 < k)] ⟨h1, trivial⟩ ?_
    refine xe_then ?_
    refine x_false rfl ?_
    refine x_exit ?_
    refine xe_exit_then ?_
    refine xe_loop_exit ?_
    refine xe_exit_same ?_
    refine xe_then ?_
    refine x_seq ?_
    obtain ⟨v_6, s'_6, hx6_0, hx6_1, hx6_2, hx6_3, hc6⟩ := l16Draw_ok src 16 (by first | assumption | (simp only [okSrc] at *; simp_all; done)) (by omega) (by omega)
    refine x_r [(1, .lend [(7001, bxl00Src src, bxl00Src s'_6)] [] [(true, .any), (true, .any)] true (.agg [slEntry true v_6.Entries])), (2, .new 10)] [3, 4, 6, 7, 8, 10] [3, 4, 10, 13, 14, 7001] [.ref 3 0, .ref 4 0, .ref 7001 0, .arr 13, .arr 14, .ref 10 0] [some (.box [nilA]), some (.box [I 0, nilA]), some (.box [slEntry true v_6.Entries]), some (.arr 2 ls.length (fLattice true ls)), some (.arr 1 ws.length (fS ws)), some (bxl00Src s'_6)] [CallOK Try.prog 23 [.ref 7001 0, I 16] (lookO [(7001, bxl00Src src)]) true (.agg [slEntry true v_6.Entries]) (lookO [(7001, bxl00Src s'_6)]) ∧ (((bxl00Src src : Ob) = bxl00Src src ∨ obLe noOb true (bxl00Src src) (bxl00Src src)) ∧ taggedO false (bxl00Src src)) ∧ True] ⟨⟨hc6, ⟨.inl rfl, (by simp [taggedO, taggedL, tagged, tagU8])⟩, trivial⟩, trivial⟩ ?_
    refine xe_then ?_
    refine x_seq ?_
    obtain ⟨v_7, s'_7, hx7_0, hx7_1, hx7_2, hx7_3, hc7⟩ := l18Draw_ok s'_6 6 (by first | assumption | (simp only [okSrc] at *; simp_all; done)) (by omega) (by omega)
    refine x_r [(3, .lend [(7001, bxl00Src s'_6, bxl00Src s'_7)] [] [(true, .any), (true, .any)] true (agModelT v_7))] [2, 3, 4, 5] [3, 4, 13, 14] [.arr 13, .ref 3 0, .ref 4 0, .arr 14] [some (.box [slEntry true v_6.Entries]), some (bxModelT v_7), some (.arr 2 ls.length (fLattice true ls)), some (.arr 1 ws.length (fS ws))] [CallOK Try.prog 24 [.ref 7001 0, I 6] (lookO [(7001, bxl00Src s'_6)]) true (agModelT v_7) (lookO [(7001, bxl00Src s'_7)]) ∧ (((bxl00Src s'_6 : Ob) = bxl00Src s'_6 ∨ obLe noOb true (bxl00Src s'_6) (bxl00Src s'_6)) ∧ taggedO false (bxl00Src s'_6)) ∧ True] ⟨⟨hc7, ⟨.inl rfl, (by simp [taggedO, taggedL, tagged, tagU8])⟩, trivial⟩, trivial⟩ ?_
    refine xe_then ?_
    refine x_ret ?_
    refine xe_end (ls, v_6, v_7, ws) (show ((ls.length : Int) ≤ 8 ∧ ∀ l ∈ ls, okLat l) ∧ (okLex v_6) ∧ (okMod v_7) ∧ (ws.length = ls.length ∧ (ws.length : Int) ≤ 3) ∧ (∀ z ∈ ws, okWord z = true) ∧ (True) from ⟨(by first | assumption | omega | exact ⟨by omega, hz0⟩ | exact ⟨by omega, by omega⟩), (by first | assumption | omega | exact ⟨by omega, hz0⟩ | exact ⟨by omega, by omega⟩), (by first | assumption | omega | exact ⟨by omega, hz0⟩ | exact ⟨by omega, by omega⟩), (by first | assumption | omega | exact ⟨by omega, hz0⟩ | exact ⟨by omega, by omega⟩), (by first | assumption | omega | exact ⟨by omega, hz0⟩ | exact ⟨by omega, by omega⟩), trivial⟩) (trivial) (.tup [.arr 13, .agg [slEntry true v_6.Entries], agModelT v_7, .arr 14]) (by kernel_rfl) (.inr ⟨⟨(fun _ => rfl), rfl, rfl, fun i _ => .inl rfl⟩, ⟨⟨⟨(fun _ => rfl), rfl, rfl, fun i _ => .inl rfl⟩, rfl⟩, ⟨⟨rfl, ⟨⟨(fun _ => rfl), rfl, rfl, fun i _ => .inl rfl⟩, rfl⟩⟩, ⟨⟨(fun _ => rfl), rfl, rfl, fun i _ => .inl rfl⟩, rfl⟩⟩⟩⟩) (fun _ => rfl) (fun _ => (by simp [tagged, taggedL, tagBigram, tagEntry, tagLattice, tagS]))
  obtain ⟨⟨list, x, m, words⟩, ⟨hh0, hh1, hh2, hh3, hh4, _⟩, hc⟩ := hh
  exact ⟨list, x, m, words, hh0, hh1, hh2, hh3, hh4, hc⟩


-- impl.isLetter
theorem isLetter_ok (c : Int) : Con Try.prog 71 [.val (.int .u8 c)] true (Bv (inB c 97 122)) := by
  refine fn_ok (fn := Try.f71) (nt := 9) Try.func71 rfl rfl rfl rfl (by simp [taggedL, tagged]) fun B hB => ?_
  refine aR [] [0] [] [.val (.int .u8 c)] [] [] hB trivial ?_
  refine aw_seq ?_
  by_cases h1 : 97 ≤ c
  ·refine aw_r [(1, .dec true)] [2] [] [Bv (decide (c ≤ 122))] [] [97 ≤ c] hB ⟨h1, trivial⟩ ?_
   refine ae_then ?_
   refine aw_ret ?_
   refine ae_ret hB (Bv (decide (c ≤ 122))) (by kernel_rfl) (.inl (by first | rfl | (refine congrArg Bv ?_; simp [inB, *]; done) | (refine congrArg Bv ?_; simp [inB, *]; omega) | (refine congrArg Bv ?_; simp_all [inB]; done) | (refine congrArg Bv ?_; simp_all [inB]; omega))) rfl (fun _ => trivial)
  refine aw_r [(1, .dec false)] [2] [] [Bv false] [] [¬ (97 ≤ c)] hB ⟨h1, trivial⟩ ?_
  refine ae_then ?_
  refine aw_ret ?_
  refine ae_ret hB (Bv false) (by kernel_rfl) (.inl (by first | rfl | (refine congrArg Bv ?_; simp [inB, *]; done) | (refine congrArg Bv ?_; simp [inB, *]; omega) | (refine congrArg Bv ?_; simp_all [inB]; done) | (refine congrArg Bv ?_; simp_all [inB]; omega))) rfl (fun _ => trivial)


-- impl.IsWord
theorem IsWord_ok (s : ByteArray) (hs : s.size ≤ 1000) : Con Try.prog 65 [Sv s] true (Bv (okWord s)) := by
  refine fn_ok (fn := Try.f65) (nt := 24) Try.func65 rfl rfl rfl rfl (by simp [taggedL, tagged]) fun B hB => ?_
  refine aR [] [0] [] [Sv s] [] [] hB trivial ?_
  refine aw_seq ?_
  refine aR [] [0, 6, 7, 8] [] [Sv s, .sl true 1 s.size (byteF s), I (s.size : Int), I 0] [] [s.size ≤ 140737488355328] hB ⟨(by omega), trivial⟩ ?_
  refine aw_block ?_
  refine aw_loop (fun gn gσ => ∃ (t8 : Int), gn = ((s.size : Int) - t8).toNat ∧ (0 ≤ t8 ∧ t8 ≤ (s.size : Int)) ∧ (∀ j : Nat, (j : Int) < t8 → letB (bAt s j) = true) ∧ gσ = mkS [(0, Sv s), (6, .sl true 1 s.size (byteF s)), (7, I (s.size : Int)), (8, I t8)] []) (((s.size : Int) - 0).toNat) ⟨0, rfl, (by omega), (by intro j hj; omega), rfl⟩ (fun gn gσ hI => ?_)
  obtain ⟨t8, rfl, hi0, hz0, rfl⟩ := hI
  refine aw_seq ?_
  by_cases h1 : t8 < (s.size : Int)
  ·refine aw_r [(0, .dec true)] [0, 6, 7, 8, 9] [] [Sv s, .sl true 1 s.size (byteF s), I (s.size : Int), I t8, Bv true] [] [t8 < (s.size : Int)] hB ⟨h1, trivial⟩ ?_
   refine ae_then ?_
   refine aw_seq ?_
   refine aw_true rfl ?_
   refine aw_skip ?_
   refine ae_then ?_
   refine aw_seq ?_
   refine aw_block ?_
   refine aR [] [0, 4, 6, 7, 8] [] [Sv s, .val (.int .u8 (bAt s t8.toNat)), .sl true 1 s.size (byteF s), I (s.size : Int), I t8] [] [(0 : Int) ≤ t8 ∧ t8 < (s.size : Int)] hB ⟨⟨(by omega), (by omega)⟩, trivial⟩ ?_
   refine aw_seq ?_
   rcases Bool.eq_false_or_eq_true (inB (bAt s t8.toNat) 97 122) with h2 | h2
   ·refine aw_r [(1, .call [(true, .any)] true (Bv true))] [0, 6, 7, 8, 14] [] [Sv s, .sl true 1 s.size (byteF s), I (s.size : Int), I t8, Bv false] [] [Con Try.prog 71 [.val (.int .u8 (bAt s t8.toNat))] true (Bv true) ∧ True] hB ⟨⟨(con_bool h2 (isLetter_ok (bAt s t8.toNat))), trivial⟩, trivial⟩ ?_
    refine ae_then ?_
    refine aw_false rfl ?_
    refine aw_skip ?_
    refine ae_block 1 ?_
    refine ae_then ?_
    refine aw_r [] [0, 6, 7, 8] [] [Sv s, .sl true 1 s.size (byteF s), I (s.size : Int), I (t8 + 1)] [] [inR .i64 (t8 + 1)] hB ⟨(inR_i64 (by omega) (by omega)), trivial⟩ ?_
    exact ae_again _ (by omega) ⟨(t8 + 1), rfl, (by omega), (by intro j hj; by_cases ej : j = t8.toNat; (subst ej; assumption); exact hz0 j (by omega)), rfl⟩
   refine aw_r [(1, .call [(true, .any)] true (Bv false))] [0, 6, 7, 8, 14] [] [Sv s, .sl true 1 s.size (byteF s), I (s.size : Int), I t8, Bv true] [] [Con Try.prog 71 [.val (.int .u8 (bAt s t8.toNat))] true (Bv false) ∧ True] hB ⟨⟨(con_bool h2 (isLetter_ok (bAt s t8.toNat))), trivial⟩, trivial⟩ ?_
   refine ae_then ?_
   refine aw_true rfl ?_
   refine aR [] [2] [] [Bv false] [] [] hB trivial ?_
   refine aw_ret ?_
   refine ae_ret_block (ae_ret_then (ae_ret_then (ae_ret_block (ae_ret_then ?_))))
   refine ae_ret hB (Bv false) (by kernel_rfl) (.inl (by first | (refine congrArg Bv ?_; rw [okWord_sz (fun j hj => hz0 j (by omega))]; first | exact decide_eq_decide.2 ⟨fun _ => by omega, fun _ => by omega⟩ | exact (decide_eq_true (by omega)).symm | exact (decide_eq_false (by omega)).symm | (simp; omega)) | (refine congrArg Bv ?_; exact (okWord_no (j := t8.toNat) (by omega) (by assumption)).symm))) rfl (fun _ => trivial)
  refine aw_r [(0, .dec false)] [0, 6, 7, 8, 9] [] [Sv s, .sl true 1 s.size (byteF s), I (s.size : Int), I t8, Bv false] [] [¬ (t8 < (s.size : Int))] hB ⟨h1, trivial⟩ ?_
  refine ae_then ?_
  refine aw_seq ?_
  refine aw_false rfl ?_
  refine aw_exit ?_
  refine ae_exit_then ?_
  refine ae_exit_then ?_
  refine ae_exit_same ?_
  refine ae_then ?_
  refine aw_seq ?_
  by_cases h3 : 1 ≤ (s.size : Int)
  ·refine aw_r [(2, .dec true)] [2] [] [Bv (decide ((s.size : Int) ≤ 10))] [] [1 ≤ (s.size : Int)] hB ⟨h3, trivial⟩ ?_
   refine ae_then ?_
   refine aw_ret ?_
   refine ae_ret hB (Bv (decide ((s.size : Int) ≤ 10))) (by kernel_rfl) (.inl (by first | (refine congrArg Bv ?_; rw [okWord_sz (fun j hj => hz0 j (by omega))]; first | exact decide_eq_decide.2 ⟨fun _ => by omega, fun _ => by omega⟩ | exact (decide_eq_true (by omega)).symm | exact (decide_eq_false (by omega)).symm | (simp; omega)) | (refine congrArg Bv ?_; exact (okWord_no (j := t8.toNat) (by omega) (by assumption)).symm))) rfl (fun _ => trivial)
  refine aw_r [(2, .dec false)] [2] [] [Bv false] [] [¬ (1 ≤ (s.size : Int))] hB ⟨h3, trivial⟩ ?_
  refine ae_then ?_
  refine aw_ret ?_
  refine ae_ret hB (Bv false) (by kernel_rfl) (.inl (by first | (refine congrArg Bv ?_; rw [okWord_sz (fun j hj => hz0 j (by omega))]; first | exact decide_eq_decide.2 ⟨fun _ => by omega, fun _ => by omega⟩ | exact (decide_eq_true (by omega)).symm | exact (decide_eq_false (by omega)).symm | (simp; omega)) | (refine congrArg Bv ?_; exact (okWord_no (j := t8.toNat) (by omega) (by assumption)).symm))) rfl (fun _ => trivial)


-- impl.within
theorem within_ok (n : Int) (low : Int) (high : Int) : Con Try.prog 57 [I n, I low, I high] true (Bv (inB n low high)) := by
  refine fn_ok (fn := Try.f57) (nt := 15) Try.func57 rfl rfl rfl rfl (by simp [taggedL, tagged]) fun B hB => ?_
  refine aR [] [0, 1, 2] [] [I n, I low, I high] [] [] hB trivial ?_
  refine aw_seq ?_
  by_cases h1 : low ≤ n
  ·refine aw_r [(2, .dec true)] [6] [] [Bv (decide (n ≤ high))] [] [low ≤ n] hB ⟨h1, trivial⟩ ?_
   refine ae_then ?_
   refine aw_ret ?_
   refine ae_ret hB (Bv (decide (n ≤ high))) (by kernel_rfl) (.inl (by first | rfl | (refine congrArg Bv ?_; simp [inB, *]; done) | (refine congrArg Bv ?_; simp [inB, *]; omega) | (refine congrArg Bv ?_; simp_all [inB]; done) | (refine congrArg Bv ?_; simp_all [inB]; omega))) rfl (fun _ => trivial)
  refine aw_r [(2, .dec false)] [6] [] [Bv false] [] [¬ (low ≤ n)] hB ⟨h1, trivial⟩ ?_
  refine ae_then ?_
  refine aw_ret ?_
  refine ae_ret hB (Bv false) (by kernel_rfl) (.inl (by first | rfl | (refine congrArg Bv ?_; simp [inB, *]; done) | (refine congrArg Bv ?_; simp [inB, *]; omega) | (refine congrArg Bv ?_; simp_all [inB]; done) | (refine congrArg Bv ?_; simp_all [inB]; omega))) rfl (fun _ => trivial)


-- impl.isCost
theorem isCost_ok (n : Int) : Con Try.prog 31 [I n] true (Bv (inB n 0 1000000)) := by
  refine fn_ok (fn := Try.f31) (nt := 5) Try.func31 rfl rfl rfl rfl (by simp [taggedL, tagged]) fun B hB => ?_
  refine aR [] [0] [] [I n] [] [] hB trivial ?_
  refine aR [(1, .call [(true, .any), (true, .any), (true, .any)] true (Bv (inB n 0 1000000)))] [2] [] [Bv (inB n 0 1000000)] [] [Con Try.prog 57 [I n, I 0, I 1000000] true (Bv (inB n 0 1000000)) ∧ True] hB ⟨⟨(within_ok n 0 1000000), trivial⟩, trivial⟩ ?_
  refine aw_ret ?_
  refine ae_ret hB (Bv (inB n 0 1000000)) (by kernel_rfl) (.inl rfl) rfl (fun _ => trivial)


-- impl.ValidLexicon
theorem ValidLexicon_ok (lx : Lexicon) (hx : okLex lx) : Con Try.prog 46 [.agg [slEntry false lx.Entries]] true (Bv true) := by
  have hc := hx.1
  refine fn_ok (fn := Try.f46) (nt := 44) Try.func46 rfl rfl rfl rfl (by simp [taggedL, tagged, tagEntry]) fun B hB => ?_
  refine aw_lens (x := .agg [slEntry false lx.Entries]) 0 rfl (fun len_lx => ?_)
  simp [LenOK, LenL, cEntry, fEntry, slEntry] at len_lx
  refine aR [(0, .new 1)] [1] [1] [.ref 1 0] [some (.box [slEntry false lx.Entries])] [] hB trivial ?_
  refine aw_seq ?_
  refine aR [] [1, 6, 7, 8] [1] [.ref 1 0, slEntry false lx.Entries, I (lx.Entries.length : Int), I 0] [some (.box [slEntry false lx.Entries])] [] hB trivial ?_
  refine aw_block ?_
  refine aw_loop (fun gn gσ => ∃ (t8 : Int), gn = ((lx.Entries.length : Int) - t8).toNat ∧ (0 ≤ t8 ∧ t8 ≤ (lx.Entries.length : Int)) ∧ gσ = mkS [(1, .ref 1 0), (6, slEntry false lx.Entries), (7, I (lx.Entries.length : Int)), (8, I t8)] [(1, .box [slEntry false lx.Entries])]) (((lx.Entries.length : Int) - 0).toNat) ⟨0, rfl, (by omega), rfl⟩ (fun gn gσ hI => ?_)
  obtain ⟨t8, rfl, hi0, rfl⟩ := hI
  refine aw_seq ?_
  by_cases h1 : t8 < (lx.Entries.length : Int)
  ·have hi : t8.toNat < lx.Entries.length := by omega
   have hen := hx.2.1 _ (at_mem hi)
   have hed := hen
   refine aw_r [(0, .dec true)] [1, 6, 7, 8, 9] [1] [.ref 1 0, slEntry false lx.Entries, I (lx.Entries.length : Int), I t8, Bv true] [some (.box [slEntry false lx.Entries])] [t8 < (lx.Entries.length : Int)] hB ⟨h1, trivial⟩ ?_
   refine ae_then ?_
   refine aw_seq ?_
   refine aw_true rfl ?_
   refine aw_skip ?_
   refine ae_then ?_
   refine aw_seq ?_
   refine aw_block ?_
   refine aR [(3, .new 4)] [1, 3, 4, 6, 7, 8] [1, 4] [.ref 1 0, I t8, .ref 4 0, slEntry false lx.Entries, I (lx.Entries.length : Int), I t8] [some (.box [slEntry false lx.Entries]), some (bxEntry (at_ lx.Entries t8.toNat))] [(0 : Int) ≤ t8 ∧ t8 < (lx.Entries.length : Int)] hB ⟨⟨(by omega), (by omega)⟩, trivial⟩ ?_
   refine aw_seq ?_
   by_cases h2 : 0 < t8
   ·have hpr := pw_get hx.2.2 (show (t8 - 1).toNat < t8.toNat by omega) hi
    have hpa := (cmpN_w.anti _ _).1 hpr
    refine aw_r [(2, .call [(true, .any)] true (Bv true)), (7, .call [(true, .any)] true (Bv true)), (12, .dec true), (23, .dec false)] [1, 6, 7, 8, 38] [1] [.ref 1 0, slEntry false lx.Entries, I (lx.Entries.length : Int), I t8, Bv false] [some (.box [slEntry false lx.Entries])] [Con Try.prog 65 [Sv ((at_ lx.Entries t8.toNat).Word)] true (Bv true) ∧ True, Con Try.prog 31 [I ((at_ lx.Entries t8.toNat).Cost)] true (Bv true) ∧ True, 0 < t8, inR .i64 (t8 - 1), (0 : Int) ≤ (t8 - 1) ∧ (t8 - 1) < (lx.Entries.length : Int), ¬ (sless ((at_ lx.Entries t8.toNat).Word) ((at_ lx.Entries ((t8 - 1).toNat)).Word) = true ∨ ((at_ lx.Entries t8.toNat).Word) = ((at_ lx.Entries ((t8 - 1).toNat)).Word))] hB ⟨⟨(con_bool hen.1 (IsWord_ok ((at_ lx.Entries t8.toNat).Word) (by have := (okWord_iff.1 hen.1).1; omega))), trivial⟩, ⟨(con_bool (inB_iff.2 hen.2) (isCost_ok ((at_ lx.Entries t8.toNat).Cost))), trivial⟩, h2, (inR_i64 (by omega) (by omega)), ⟨(by omega), (by omega)⟩, (by have q := cmpS_neg.1 (show cmpS _ _ < 0 from hpr); exact fun z => z.elim (fun a => by rw [sl_asym q] at a; cases a) (fun a => sl_ne q a.symm)), trivial⟩ ?_
    refine ae_then ?_
    refine aw_false rfl ?_
    refine aw_skip ?_
    refine ae_block 1 ?_
    refine ae_then ?_
    refine aw_r [] [1, 6, 7, 8] [1] [.ref 1 0, slEntry false lx.Entries, I (lx.Entries.length : Int), I (t8 + 1)] [some (.box [slEntry false lx.Entries])] [inR .i64 (t8 + 1)] hB ⟨(inR_i64 (by omega) (by omega)), trivial⟩ ?_
    exact ae_again _ (by omega) ⟨(t8 + 1), rfl, (by omega), rfl⟩
   refine aw_r [(2, .call [(true, .any)] true (Bv true)), (7, .call [(true, .any)] true (Bv true)), (12, .dec false)] [1, 6, 7, 8, 38] [1] [.ref 1 0, slEntry false lx.Entries, I (lx.Entries.length : Int), I t8, Bv false] [some (.box [slEntry false lx.Entries])] [Con Try.prog 65 [Sv ((at_ lx.Entries t8.toNat).Word)] true (Bv true) ∧ True, Con Try.prog 31 [I ((at_ lx.Entries t8.toNat).Cost)] true (Bv true) ∧ True, ¬ (0 < t8)] hB ⟨⟨(con_bool hen.1 (IsWord_ok ((at_ lx.Entries t8.toNat).Word) (by have := (okWord_iff.1 hen.1).1; omega))), trivial⟩, ⟨(con_bool (inB_iff.2 hen.2) (isCost_ok ((at_ lx.Entries t8.toNat).Cost))), trivial⟩, h2, trivial⟩ ?_
   refine ae_then ?_
   refine aw_false rfl ?_
   refine aw_skip ?_
   refine ae_block 1 ?_
   refine ae_then ?_
   refine aw_r [] [1, 6, 7, 8] [1] [.ref 1 0, slEntry false lx.Entries, I (lx.Entries.length : Int), I (t8 + 1)] [some (.box [slEntry false lx.Entries])] [inR .i64 (t8 + 1)] hB ⟨(inR_i64 (by omega) (by omega)), trivial⟩ ?_
   exact ae_again _ (by omega) ⟨(t8 + 1), rfl, (by omega), rfl⟩
  refine aw_r [(0, .dec false)] [1, 6, 7, 8, 9] [1] [.ref 1 0, slEntry false lx.Entries, I (lx.Entries.length : Int), I t8, Bv false] [some (.box [slEntry false lx.Entries])] [¬ (t8 < (lx.Entries.length : Int))] hB ⟨h1, trivial⟩ ?_
  refine ae_then ?_
  refine aw_seq ?_
  refine aw_false rfl ?_
  refine aw_exit ?_
  refine ae_exit_then ?_
  refine ae_exit_then ?_
  refine ae_exit_same ?_
  refine ae_then ?_
  refine aR [(3, .dec true)] [2] [] [Bv true] [] [(lx.Entries.length : Int) ≤ 60] hB ⟨(by omega), trivial⟩ ?_
  refine aw_ret ?_
  refine ae_ret hB (Bv true) (by kernel_rfl) (.inl rfl) rfl (fun _ => trivial)


-- impl.validBigram
theorem validBigram_ok (b : Bigram) (hb : okBig b) : Con Try.prog 66 [agBigram b] true (Bv true) := by
  have hw := (okWord_iff.1 hb.1).1
  have hw2 : b.First.size ≤ 10 := by rcases hb.2.1 with q | q; (rw [q]; decide); exact (okWord_iff.1 q).1.2
  refine fn_ok (fn := Try.f66) (nt := 21) Try.func66 rfl rfl rfl rfl (by simp [taggedL, tagged]) fun B hB => ?_
  refine aR [(0, .new 1)] [1] [1] [.ref 1 0] [some (bxBigram b)] [] hB trivial ?_
  refine aw_seq ?_
  by_cases h1 : b.First = (⟨#[]⟩ : ByteArray)
  ·refine aw_r [(2, .call [(true, .any)] true (Bv true)), (6, .dec true), (16, .call [(true, .any)] true (Bv (inB b.Cost 0 1000000)))] [2] [] [Bv (inB b.Cost 0 1000000)] [] [Con Try.prog 65 [Sv b.Second] true (Bv true) ∧ True, b.First = (⟨#[]⟩ : ByteArray), Con Try.prog 31 [I b.Cost] true (Bv (inB b.Cost 0 1000000)) ∧ True] hB ⟨⟨(con_bool hb.1 (IsWord_ok b.Second (by omega))), trivial⟩, h1, ⟨(isCost_ok b.Cost), trivial⟩, trivial⟩ ?_
   refine ae_then ?_
   refine aw_ret ?_
   refine ae_ret hB (Bv (inB b.Cost 0 1000000)) (by kernel_rfl) (.inl (by first | rfl | (refine congrArg Bv ?_; exact inB_iff.2 hb.2.2) | (exfalso; rcases hb.2.1 with q | q; (first | exact absurd q (by assumption) | (rw [q] at *; contradiction)); (first | (rw [q] at h2; cases h2) | (rw [q] at h1; cases h1))))) rfl (fun _ => trivial)
  rcases Bool.eq_false_or_eq_true (okWord b.First) with h2 | h2
  ·refine aw_r [(2, .call [(true, .any)] true (Bv true)), (6, .dec false), (10, .call [(true, .any)] true (Bv true)), (16, .call [(true, .any)] true (Bv (inB b.Cost 0 1000000)))] [2] [] [Bv (inB b.Cost 0 1000000)] [] [Con Try.prog 65 [Sv b.Second] true (Bv true) ∧ True, ¬ (b.First = (⟨#[]⟩ : ByteArray)), Con Try.prog 65 [Sv b.First] true (Bv true) ∧ True, Con Try.prog 31 [I b.Cost] true (Bv (inB b.Cost 0 1000000)) ∧ True] hB ⟨⟨(con_bool hb.1 (IsWord_ok b.Second (by omega))), trivial⟩, h1, ⟨(con_bool h2 (IsWord_ok b.First (by omega))), trivial⟩, ⟨(isCost_ok b.Cost), trivial⟩, trivial⟩ ?_
   refine ae_then ?_
   refine aw_ret ?_
   refine ae_ret hB (Bv (inB b.Cost 0 1000000)) (by kernel_rfl) (.inl (by first | rfl | (refine congrArg Bv ?_; exact inB_iff.2 hb.2.2) | (exfalso; rcases hb.2.1 with q | q; (first | exact absurd q (by assumption) | (rw [q] at *; contradiction)); (first | (rw [q] at h2; cases h2) | (rw [q] at h1; cases h1))))) rfl (fun _ => trivial)
  refine aw_r [(2, .call [(true, .any)] true (Bv true)), (6, .dec false), (10, .call [(true, .any)] true (Bv false))] [2] [] [Bv false] [] [Con Try.prog 65 [Sv b.Second] true (Bv true) ∧ True, ¬ (b.First = (⟨#[]⟩ : ByteArray)), Con Try.prog 65 [Sv b.First] true (Bv false) ∧ True] hB ⟨⟨(con_bool hb.1 (IsWord_ok b.Second (by omega))), trivial⟩, h1, ⟨(con_bool h2 (IsWord_ok b.First (by omega))), trivial⟩, trivial⟩ ?_
  refine ae_then ?_
  refine aw_ret ?_
  refine ae_ret hB (Bv false) (by kernel_rfl) (.inl (by first | rfl | (refine congrArg Bv ?_; exact inB_iff.2 hb.2.2) | (exfalso; rcases hb.2.1 with q | q; (first | exact absurd q (by assumption) | (rw [q] at *; contradiction)); (first | (rw [q] at h2; cases h2) | (rw [q] at h1; cases h1))))) rfl (fun _ => trivial)


-- cmp.isNaN[string]
theorem isNaNS_ok (x : ByteArray) : Con Try.prog 70 [Sv x] true (Bv false) := by
  refine fn_ok (fn := Try.f70) (nt := 6) Try.func70 rfl rfl rfl rfl (by simp [taggedL, tagged]) fun B hB => ?_
  refine aR [] [0] [] [Sv x] [] [] hB trivial ?_
  refine aR [(2, .dec false)] [2] [] [Bv false] [] [¬ (x ≠ x)] hB ⟨(fun hq => hq rfl), trivial⟩ ?_
  refine aw_ret ?_
  refine ae_ret hB (Bv false) (by kernel_rfl) (.inl rfl) rfl (fun _ => trivial)


-- cmp.Compare[string]
theorem CompareS_ok (x : ByteArray) (y : ByteArray) : Con Try.prog 53 [Sv x, Sv y] true (I (cmpS x y)) := by
  refine fn_ok (fn := Try.f53) (nt := 20) Try.func53 rfl rfl rfl rfl (by simp [taggedL, tagged]) fun B hB => ?_
  refine aR [] [0, 1] [] [Sv x, Sv y] [] [] hB trivial ?_
  refine aR [(1, .call [(true, .any)] true (Bv false))] [0, 1, 5] [] [Sv x, Sv y, Bv false] [] [Con Try.prog 70 [Sv x] true (Bv false) ∧ True] hB ⟨⟨(isNaNS_ok x), trivial⟩, trivial⟩ ?_
  refine aR [(1, .call [(true, .any)] true (Bv false))] [0, 1, 5, 6] [] [Sv x, Sv y, Bv false, Bv false] [] [Con Try.prog 70 [Sv y] true (Bv false) ∧ True] hB ⟨⟨(isNaNS_ok y), trivial⟩, trivial⟩ ?_
  refine aw_seq ?_
  refine aR [] [0, 1, 6, 11] [] [Sv x, Sv y, Bv false, Bv false] [] [] hB trivial ?_
  refine aw_false rfl ?_
  refine aw_skip ?_
  refine ae_then ?_
  refine aw_seq ?_
  refine aR [] [0, 1, 13] [] [Sv x, Sv y, Bv false] [] [] hB trivial ?_
  refine aw_false rfl ?_
  refine aw_skip ?_
  refine ae_then ?_
  refine aw_seq ?_
  refine aw_seq ?_
  by_cases h1 : sless x y = true
  ·refine aw_r [(2, .dec true)] [0, 1, 16] [] [Sv x, Sv y, Bv true] [] [sless x y = true] hB ⟨h1, trivial⟩ ?_
   refine ae_then ?_
   refine aw_true rfl ?_
   refine aR [] [4] [] [I (-1)] [] [] hB trivial ?_
   refine aw_ret ?_
   refine ae_ret_then ?_
   refine ae_ret hB (I (-1)) (by kernel_rfl) (.inl (by refine congrArg I ?_; unfold cmpS; first | (rw [if_pos (by assumption)]; done) | (rw [if_neg (by assumption), if_pos (by assumption)]; done) | (rw [if_neg (by assumption), if_neg (by assumption)]; done))) rfl (fun _ => trivial)
  refine aw_r [(2, .dec false)] [0, 1, 16] [] [Sv x, Sv y, Bv false] [] [¬ (sless x y = true)] hB ⟨h1, trivial⟩ ?_
  refine ae_then ?_
  refine aw_false rfl ?_
  refine aw_skip ?_
  refine ae_then ?_
  refine aw_seq ?_
  refine aw_seq ?_
  by_cases h2 : sless x y = false ∧ x ≠ y
  ·refine aw_r [(2, .dec true)] [19] [] [Bv true] [] [sless x y = false ∧ x ≠ y] hB ⟨h2, trivial⟩ ?_
   refine ae_then ?_
   refine aw_true rfl ?_
   refine aR [] [4] [] [I 1] [] [] hB trivial ?_
   refine aw_ret ?_
   refine ae_ret_then ?_
   refine ae_ret hB (I 1) (by kernel_rfl) (.inl (by refine congrArg I ?_; unfold cmpS; first | (rw [if_pos (by assumption)]; done) | (rw [if_neg (by assumption), if_pos (by assumption)]; done) | (rw [if_neg (by assumption), if_neg (by assumption)]; done))) rfl (fun _ => trivial)
  refine aw_r [(2, .dec false)] [19] [] [Bv false] [] [¬ (sless x y = false ∧ x ≠ y)] hB ⟨h2, trivial⟩ ?_
  refine ae_then ?_
  refine aw_false rfl ?_
  refine aw_skip ?_
  refine ae_then ?_
  refine aR [] [4] [] [I 0] [] [] hB trivial ?_
  refine aw_ret ?_
  refine ae_ret hB (I 0) (by kernel_rfl) (.inl (by refine congrArg I ?_; unfold cmpS; first | (rw [if_pos (by assumption)]; done) | (rw [if_neg (by assumption), if_pos (by assumption)]; done) | (rw [if_neg (by assumption), if_neg (by assumption)]; done))) rfl (fun _ => trivial)


-- cmp.Or[int]
theorem OrI_ok (vals : List Int) : Con Try.prog 73 [slI false vals] true (I (orL vals)) := by
  refine fn_ok (fn := Try.f73) (nt := 18) Try.func73 rfl rfl rfl rfl (by simp [taggedL, tagged, tagI]) fun B hB => ?_
  refine aw_lens (x := slI false vals) 0 rfl (fun len_vals => ?_)
  simp [LenOK, LenL, cI, fI, slI] at len_vals
  refine aR [] [0] [] [slI false vals] [] [] hB trivial ?_
  refine aR [] [0, 3] [] [slI false vals, I 0] [] [] hB trivial ?_
  refine aw_seq ?_
  refine aR [] [3, 6, 7, 8] [] [I 0, slI false vals, I (vals.length : Int), I 0] [] [] hB trivial ?_
  refine aw_block ?_
  refine aw_loop (fun gn gσ => ∃ (t8 : Int), gn = ((vals.length : Int) - t8).toNat ∧ (0 ≤ t8 ∧ t8 ≤ (vals.length : Int)) ∧ (∀ j : Nat, (j : Int) < t8 → at_ vals j = 0) ∧ gσ = mkS [(3, I 0), (6, slI false vals), (7, I (vals.length : Int)), (8, I t8)] []) (((vals.length : Int) - 0).toNat) ⟨0, rfl, (by omega), (by intro j hj; omega), rfl⟩ (fun gn gσ hI => ?_)
  obtain ⟨t8, rfl, hi0, hz0, rfl⟩ := hI
  refine aw_seq ?_
  by_cases h1 : t8 < (vals.length : Int)
  ·have hi : t8.toNat < vals.length := by omega
   refine aw_r [(0, .dec true)] [3, 6, 7, 8, 9] [] [I 0, slI false vals, I (vals.length : Int), I t8, Bv true] [] [t8 < (vals.length : Int)] hB ⟨h1, trivial⟩ ?_
   refine ae_then ?_
   refine aw_seq ?_
   refine aw_true rfl ?_
   refine aw_skip ?_
   refine ae_then ?_
   refine aw_seq ?_
   refine aw_block ?_
   refine aR [] [3, 5, 6, 7, 8] [] [I 0, I (at_ vals t8.toNat), slI false vals, I (vals.length : Int), I t8] [] [(0 : Int) ≤ t8 ∧ t8 < (vals.length : Int)] hB ⟨⟨(by omega), (by omega)⟩, trivial⟩ ?_
   refine aw_seq ?_
   by_cases h2 : (at_ vals t8.toNat) = 0
   ·refine aw_r [(2, .dec false)] [3, 5, 6, 7, 8, 14] [] [I 0, I (at_ vals t8.toNat), slI false vals, I (vals.length : Int), I t8, Bv false] [] [¬ ((at_ vals t8.toNat) ≠ 0)] hB ⟨(fun hq => hq h2), trivial⟩ ?_
    refine ae_then ?_
    refine aw_false rfl ?_
    refine aw_skip ?_
    refine ae_block 1 ?_
    refine ae_then ?_
    refine aw_r [] [3, 6, 7, 8] [] [I 0, slI false vals, I (vals.length : Int), I (t8 + 1)] [] [inR .i64 (t8 + 1)] hB ⟨(inR_i64 (by omega) (by omega)), trivial⟩ ?_
    exact ae_again _ (by omega) ⟨(t8 + 1), rfl, (by omega), (by intro j hj; by_cases ej : j = t8.toNat; (subst ej; assumption); exact hz0 j (by omega)), rfl⟩
   refine aw_r [(2, .dec true)] [3, 5, 6, 7, 8, 14] [] [I 0, I (at_ vals t8.toNat), slI false vals, I (vals.length : Int), I t8, Bv true] [] [(at_ vals t8.toNat) ≠ 0] hB ⟨h2, trivial⟩ ?_
   refine ae_then ?_
   refine aw_true rfl ?_
   refine aR [] [2] [] [I (at_ vals t8.toNat)] [] [] hB trivial ?_
   refine aw_ret ?_
   refine ae_ret_block (ae_ret_then (ae_ret_then (ae_ret_block (ae_ret_then ?_))))
   refine ae_ret hB (I (at_ vals t8.toNat)) (by kernel_rfl) (.inl (by refine congrArg I ?_; first | (rw [orL_none (fun j hj => hz0 j (by omega))]; done) | (rw [orL_at hi (fun j hj => hz0 j (by omega)) (by assumption)]; done) | (rw [orL_at hi (fun j hj => hz0 j (by omega)) (by assumption)]))) rfl (fun _ => trivial)
  refine aw_r [(0, .dec false)] [3, 6, 7, 8, 9] [] [I 0, slI false vals, I (vals.length : Int), I t8, Bv false] [] [¬ (t8 < (vals.length : Int))] hB ⟨h1, trivial⟩ ?_
  refine ae_then ?_
  refine aw_seq ?_
  refine aw_false rfl ?_
  refine aw_exit ?_
  refine ae_exit_then ?_
  refine ae_exit_then ?_
  refine ae_exit_same ?_
  refine ae_then ?_
  refine aR [] [2] [] [I 0] [] [] hB trivial ?_
  refine aw_ret ?_
  refine ae_ret hB (I 0) (by kernel_rfl) (.inl (by refine congrArg I ?_; first | (rw [orL_none (fun j hj => hz0 j (by omega))]; done) | (rw [orL_at hi (fun j hj => hz0 j (by omega)) (by assumption)]; done) | (rw [orL_at hi (fun j hj => hz0 j (by omega)) (by assumption)]))) rfl (fun _ => trivial)


-- impl.compareBigrams
theorem compareBigrams_ok (a : Bigram) (b : Bigram) : Con Try.prog 67 [agBigram a, agBigram b] true (I (cmpG a b)) := by
  refine fn_ok (fn := Try.f67) (nt := 17) Try.func67 rfl rfl rfl rfl (by simp [taggedL, tagged]) fun B hB => ?_
  refine aR [(0, .new 2), (1, .new 3)] [2, 3] [2, 3] [.ref 2 0, .ref 3 0] [some (bxBigram a), some (bxBigram b)] [] hB trivial ?_
  refine aR [(4, .call [(true, .any), (true, .any)] true (I (cmpS a.First b.First))), (9, .call [(true, .any), (true, .any)] true (I (cmpS a.Second b.Second))), (10, .new 15), (11, .call [(false, slI false ([(cmpS a.First b.First), (cmpS a.Second b.Second)]))] true (I (orL ([(cmpS a.First b.First), (cmpS a.Second b.Second)]))))] [4] [] [I (orL ([(cmpS a.First b.First), (cmpS a.Second b.Second)]))] [] [Con Try.prog 53 [Sv a.First, Sv b.First] true (I (cmpS a.First b.First)) ∧ True, Con Try.prog 53 [Sv a.Second, Sv b.Second] true (I (cmpS a.Second b.Second)) ∧ True, Con Try.prog 73 [slI false ([(cmpS a.First b.First), (cmpS a.Second b.Second)])] true (I (orL ([(cmpS a.First b.First), (cmpS a.Second b.Second)]))) ∧ ((false = true → true = true) ∧ 1 = 1 ∧ 2 = (([(cmpS a.First b.First), (cmpS a.Second b.Second)]).length) ∧ ∀ i_, i_ < (([(cmpS a.First b.First), (cmpS a.Second b.Second)]).length) → (litF [I (cmpS a.First b.First), I (cmpS a.Second b.Second)] 1) i_ = (fI ([(cmpS a.First b.First), (cmpS a.Second b.Second)])) i_ ∨ (AV.idsL ((fI ([(cmpS a.First b.First), (cmpS a.Second b.Second)])) i_) = [] ∧ leL (fun _ => none) false ((litF [I (cmpS a.First b.First), I (cmpS a.Second b.Second)] 1) i_) ((fI ([(cmpS a.First b.First), (cmpS a.Second b.Second)])) i_))) ∧ True] hB ⟨⟨(CompareS_ok a.First b.First), trivial⟩, ⟨(CompareS_ok a.Second b.Second), trivial⟩, ⟨(OrI_ok ([(cmpS a.First b.First), (cmpS a.Second b.Second)])), ⟨(fun h => by cases h), rfl, (by first | rfl | (simp; done) | (simp; omega) | omega), fun i_ hi_ => .inl (match i_, hi_ with | 0, _ => rfl | 1, _ => rfl | (i + 2), h => absurd h (by simp))⟩, trivial⟩, trivial⟩ ?_
  refine aw_ret ?_
  refine ae_ret hB (I (orL ([(cmpS a.First b.First), (cmpS a.Second b.Second)]))) (by kernel_rfl) (.inl (by rfl)) rfl (fun _ => trivial)


-- impl.ValidModel
theorem ValidModel_ok (m : Model) (hm : okMod m) : Con Try.prog 47 [agModel m] true (Bv true) := by
  have hc := hm.2.1
  refine fn_ok (fn := Try.f47) (nt := 41) Try.func47 rfl rfl rfl rfl (by simp [taggedL, tagged, tagBigram]) fun B hB => ?_
  refine aw_lens (x := agModel m) 0 rfl (fun len_m => ?_)
  simp [LenOK, LenL, cBigram, fBigram, slBigram] at len_m
  refine aR [(0, .new 1)] [1] [1] [.ref 1 0] [some (bxModel m)] [] hB trivial ?_
  refine aw_seq ?_
  refine aR [] [1, 6, 7, 8] [1] [.ref 1 0, slBigram false m.Bigrams, I (m.Bigrams.length : Int), I 0] [some (bxModel m)] [] hB trivial ?_
  refine aw_block ?_
  refine aw_loop (fun gn gσ => ∃ (t8 : Int), gn = ((m.Bigrams.length : Int) - t8).toNat ∧ (0 ≤ t8 ∧ t8 ≤ (m.Bigrams.length : Int)) ∧ gσ = mkS [(1, .ref 1 0), (6, slBigram false m.Bigrams), (7, I (m.Bigrams.length : Int)), (8, I t8)] [(1, bxModel m)]) (((m.Bigrams.length : Int) - 0).toNat) ⟨0, rfl, (by omega), rfl⟩ (fun gn gσ hI => ?_)
  obtain ⟨t8, rfl, hi0, rfl⟩ := hI
  refine aw_seq ?_
  by_cases h1 : t8 < (m.Bigrams.length : Int)
  ·have hi : t8.toNat < m.Bigrams.length := by omega
   have hen := hm.2.2.1 _ (at_mem hi)
   have hed := hen
   refine aw_r [(0, .dec true)] [1, 6, 7, 8, 9] [1] [.ref 1 0, slBigram false m.Bigrams, I (m.Bigrams.length : Int), I t8, Bv true] [some (bxModel m)] [t8 < (m.Bigrams.length : Int)] hB ⟨h1, trivial⟩ ?_
   refine ae_then ?_
   refine aw_seq ?_
   refine aw_true rfl ?_
   refine aw_skip ?_
   refine ae_then ?_
   refine aw_seq ?_
   refine aw_block ?_
   refine aR [(3, .new 4)] [1, 3, 4, 6, 7, 8] [1, 4] [.ref 1 0, I t8, .ref 4 0, slBigram false m.Bigrams, I (m.Bigrams.length : Int), I t8] [some (bxModel m), some (bxBigram (at_ m.Bigrams t8.toNat))] [(0 : Int) ≤ t8 ∧ t8 < (m.Bigrams.length : Int)] hB ⟨⟨(by omega), (by omega)⟩, trivial⟩ ?_
   refine aw_seq ?_
   by_cases h2 : 0 < t8
   ·have hpr := pw_get hm.2.2.2 (show (t8 - 1).toNat < t8.toNat by omega) hi
    have hpa := (cmpG_w.anti _ _).1 hpr
    refine aw_r [(1, .call [(true, .any)] true (Bv true)), (5, .dec true), (14, .call [(true, .any), (true, .any)] true (I (cmpG (at_ m.Bigrams ((t8 - 1).toNat)) (at_ m.Bigrams t8.toNat)))), (15, .dec false)] [1, 6, 7, 8, 30] [1] [.ref 1 0, slBigram false m.Bigrams, I (m.Bigrams.length : Int), I t8, Bv false] [some (bxModel m)] [Con Try.prog 66 [agBigram (at_ m.Bigrams t8.toNat)] true (Bv true) ∧ True, 0 < t8, inR .i64 (t8 - 1), (0 : Int) ≤ (t8 - 1) ∧ (t8 - 1) < (m.Bigrams.length : Int), Con Try.prog 67 [agBigram (at_ m.Bigrams ((t8 - 1).toNat)), agBigram (at_ m.Bigrams t8.toNat)] true (I (cmpG (at_ m.Bigrams ((t8 - 1).toNat)) (at_ m.Bigrams t8.toNat))) ∧ True, ¬ (0 ≤ (cmpG (at_ m.Bigrams ((t8 - 1).toNat)) (at_ m.Bigrams t8.toNat)))] hB ⟨⟨(validBigram_ok (at_ m.Bigrams t8.toNat) hen), trivial⟩, h2, (inR_i64 (by omega) (by omega)), ⟨(by omega), (by omega)⟩, ⟨(compareBigrams_ok (at_ m.Bigrams ((t8 - 1).toNat)) (at_ m.Bigrams t8.toNat)), trivial⟩, (by omega), trivial⟩ ?_
    refine ae_then ?_
    refine aw_false rfl ?_
    refine aw_skip ?_
    refine ae_block 1 ?_
    refine ae_then ?_
    refine aw_r [] [1, 6, 7, 8] [1] [.ref 1 0, slBigram false m.Bigrams, I (m.Bigrams.length : Int), I (t8 + 1)] [some (bxModel m)] [inR .i64 (t8 + 1)] hB ⟨(inR_i64 (by omega) (by omega)), trivial⟩ ?_
    exact ae_again _ (by omega) ⟨(t8 + 1), rfl, (by omega), rfl⟩
   refine aw_r [(1, .call [(true, .any)] true (Bv true)), (5, .dec false)] [1, 6, 7, 8, 30] [1] [.ref 1 0, slBigram false m.Bigrams, I (m.Bigrams.length : Int), I t8, Bv false] [some (bxModel m)] [Con Try.prog 66 [agBigram (at_ m.Bigrams t8.toNat)] true (Bv true) ∧ True, ¬ (0 < t8)] hB ⟨⟨(validBigram_ok (at_ m.Bigrams t8.toNat) hen), trivial⟩, h2, trivial⟩ ?_
   refine ae_then ?_
   refine aw_false rfl ?_
   refine aw_skip ?_
   refine ae_block 1 ?_
   refine ae_then ?_
   refine aw_r [] [1, 6, 7, 8] [1] [.ref 1 0, slBigram false m.Bigrams, I (m.Bigrams.length : Int), I (t8 + 1)] [some (bxModel m)] [inR .i64 (t8 + 1)] hB ⟨(inR_i64 (by omega) (by omega)), trivial⟩ ?_
   exact ae_again _ (by omega) ⟨(t8 + 1), rfl, (by omega), rfl⟩
  refine aw_r [(0, .dec false)] [1, 6, 7, 8, 9] [1] [.ref 1 0, slBigram false m.Bigrams, I (m.Bigrams.length : Int), I t8, Bv false] [some (bxModel m)] [¬ (t8 < (m.Bigrams.length : Int))] hB ⟨h1, trivial⟩ ?_
  refine ae_then ?_
  refine aw_seq ?_
  refine aw_false rfl ?_
  refine aw_exit ?_
  refine ae_exit_then ?_
  refine ae_exit_then ?_
  refine ae_exit_same ?_
  refine ae_then ?_
  refine aR [(2, .call [(true, .any)] true (Bv true)), (7, .dec true)] [2] [] [Bv true] [] [Con Try.prog 31 [I m.Default] true (Bv true) ∧ True, (m.Bigrams.length : Int) ≤ 60] hB ⟨⟨(con_bool (inB_iff.2 hm.1) (isCost_ok m.Default)), trivial⟩, (by omega), trivial⟩ ?_
  refine aw_ret ?_
  refine ae_ret hB (Bv true) (by kernel_rfl) (.inl rfl) rfl (fun _ => trivial)


-- impl.fitsNodes
theorem fitsNodes_ok (l : Lattice) (e : Edge) (he : okEd l e) (hn : l.Nodes ≤ 20) : Con Try.prog 54 [agLattice l, agEdge e] true (Bv true) := by
  have h1 := he.1
  have h2 := he.2.1
  refine fn_ok (fn := Try.f54) (nt := 27) Try.func54 rfl rfl rfl rfl (by simp [taggedL, tagged, tagEdge]) fun B hB => ?_
  refine aw_lens (x := agLattice l) 0 rfl (fun len_l => ?_)
  simp [LenOK, LenL, cEdge, fEdge, slEdge] at len_l
  refine aR [(0, .new 2), (1, .new 3)] [2, 3] [2, 3] [.ref 2 0, .ref 3 0] [some (bxLattice l), some (bxEdge e)] [] hB trivial ?_
  refine aR [(2, .dec true), (8, .dec true), (15, .dec true), (20, .call [(true, .any)] true (Bv (inB e.Cost 0 1000000)))] [4] [] [Bv (inB e.Cost 0 1000000)] [] [0 ≤ e.From, e.From < e.To, e.To < l.Nodes, Con Try.prog 31 [I e.Cost] true (Bv (inB e.Cost 0 1000000)) ∧ True] hB ⟨(by omega), (by omega), (by omega), ⟨(isCost_ok e.Cost), trivial⟩, trivial⟩ ?_
  refine aw_ret ?_
  refine ae_ret hB (Bv (inB e.Cost 0 1000000)) (by kernel_rfl) (.inl (by first | rfl | (simp [inB]; omega))) rfl (fun _ => trivial)


/-- Whether a byte occurs. -/
def hasB (s : ByteArray) (n : Int) : Bool := s.data.toList.any fun x => decide ((x.toNat : Int) = n)
theorem one_byte {t : ByteArray} (h : t.size = 1) : ∃ c, t = ⟨#[c]⟩ := by
  obtain ⟨⟨l⟩⟩ := t
  cases l with
  | nil => cases h
  | cons c l =>
    cases l with
    | nil => exact ⟨c, rfl⟩
    | cons d l => simp [ByteArray.size] at h
theorem has_index (l : List UInt8) (c : UInt8) : decide (0 ≤ Lib.indexByte l c) = l.any fun x => decide ((x.toNat : Int) = bAt ⟨#[c]⟩ 0) := by
  rw [← Lib.contains_iff_indexByte, Bool.eq_iff_iff]
  simp [bAt, List.contains_iff_mem]
  constructor
  · intro h; exact ⟨c, h, rfl⟩
  · rintro ⟨x, hx, e⟩
    have : x = c := UInt8.toNat_inj.1 (by omega)
    exact this ▸ hx

-- strings.Contains
theorem contains_ok (s t : ByteArray) (h : t.size = 1) : Con Try.prog 72 [Sv s, Sv t] true (Bv (hasB s (bAt t 0))) := by
  obtain ⟨c, rfl⟩ := one_byte h
  refine con_of_calls (vals := [.string s, .string ⟨#[c]⟩]) fun w _ => ?_
  refine (Try.strings_Contains_one s c w).mono ?_
  rintro e w' ⟨rfl, rfl⟩
  refine ⟨?_, Below.refl _ _⟩
  simp only [has_index, hasB]


-- impl.IsLabel
theorem implIsLabel_ok (s : ByteArray) (ok : s.size ≤ 9223372036854775807) : Con Try.prog 55 [Sv s] true (Bv (okLabel s)) := by
  refine fn_ok (fn := Try.f55) (nt := 15) Try.func55 rfl rfl rfl rfl (by simp [taggedL, tagged]) fun B hB => ?_
  refine aR [] [0] [] [Sv s] [] [] hB trivial ?_
  refine aw_seq ?_
  by_cases h1 : (s.size : Int) = 1
  ·rcases Bool.eq_false_or_eq_true (inB (bAt s 0) 97 122) with h2 | h2
   ·refine aw_r [(2, .dec true), (6, .call [(true, .any)] true (Bv true))] [2] [] [Bv true] [] [(s.size : Int) = 1, (0 : Int) ≤ 0 ∧ 0 < (s.size : Int), Con Try.prog 71 [.val (.int .u8 (bAt s 0))] true (Bv true) ∧ True] hB ⟨h1, ⟨(by omega), (by omega)⟩, ⟨(con_bool h2 (isLetter_ok (bAt s 0))), trivial⟩, trivial⟩ ?_
    refine ae_then ?_
    refine aw_ret ?_
    refine ae_ret hB (Bv true) (by kernel_rfl) (.inl (by first | (refine congrArg Bv ?_; simp_all [okLabel, labB, inB]; done) | (refine congrArg Bv ?_; have hbd := bAt_bd s 0; rw [Bool.eq_iff_iff]; simp_all [okLabel, hasB, labB, inB]; omega))) rfl (fun _ => trivial)
   refine aw_r [(2, .dec true), (6, .call [(true, .any)] true (Bv false)), (9, .call [(true, .any), (true, .any)] true (Bv (hasB (⟨#[48, 49, 50, 51, 52, 53, 54, 55, 56, 57, 43, 45, 42, 47, 61, 40, 41, 46, 44]⟩ : ByteArray) (bAt s 0))))] [2] [] [Bv (hasB (⟨#[48, 49, 50, 51, 52, 53, 54, 55, 56, 57, 43, 45, 42, 47, 61, 40, 41, 46, 44]⟩ : ByteArray) (bAt s 0))] [] [(s.size : Int) = 1, (0 : Int) ≤ 0 ∧ 0 < (s.size : Int), Con Try.prog 71 [.val (.int .u8 (bAt s 0))] true (Bv false) ∧ True, Con Try.prog 72 [Sv (⟨#[48, 49, 50, 51, 52, 53, 54, 55, 56, 57, 43, 45, 42, 47, 61, 40, 41, 46, 44]⟩ : ByteArray), Sv s] true (Bv (hasB (⟨#[48, 49, 50, 51, 52, 53, 54, 55, 56, 57, 43, 45, 42, 47, 61, 40, 41, 46, 44]⟩ : ByteArray) (bAt s 0))) ∧ True] hB ⟨h1, ⟨(by omega), (by omega)⟩, ⟨(con_bool h2 (isLetter_ok (bAt s 0))), trivial⟩, ⟨(contains_ok (⟨#[48, 49, 50, 51, 52, 53, 54, 55, 56, 57, 43, 45, 42, 47, 61, 40, 41, 46, 44]⟩ : ByteArray) s (by omega)), trivial⟩, trivial⟩ ?_
   refine ae_then ?_
   refine aw_ret ?_
   refine ae_ret hB (Bv (hasB (⟨#[48, 49, 50, 51, 52, 53, 54, 55, 56, 57, 43, 45, 42, 47, 61, 40, 41, 46, 44]⟩ : ByteArray) (bAt s 0))) (by kernel_rfl) (.inl (by first | (refine congrArg Bv ?_; simp_all [okLabel, labB, inB]; done) | (refine congrArg Bv ?_; have hbd := bAt_bd s 0; rw [Bool.eq_iff_iff]; simp_all [okLabel, hasB, labB, inB]; omega))) rfl (fun _ => trivial)
  refine aw_r [(2, .dec false)] [2] [] [Bv false] [] [¬ ((s.size : Int) = 1)] hB ⟨h1, trivial⟩ ?_
  refine ae_then ?_
  refine aw_ret ?_
  refine ae_ret hB (Bv false) (by kernel_rfl) (.inl (by first | (refine congrArg Bv ?_; simp_all [okLabel, labB, inB]; done) | (refine congrArg Bv ?_; have hbd := bAt_bd s 0; rw [Bool.eq_iff_iff]; simp_all [okLabel, hasB, labB, inB]; omega))) rfl (fun _ => trivial)


-- cmp.isNaN[int64]
theorem isNaNI_ok (x : Int) : Con Try.prog 81 [I x] true (Bv false) := by
  refine fn_ok (fn := Try.f81) (nt := 6) Try.func81 rfl rfl rfl rfl (by simp [taggedL, tagged]) fun B hB => ?_
  refine aR [] [0] [] [I x] [] [] hB trivial ?_
  refine aR [(2, .dec false)] [2] [] [Bv false] [] [¬ (x ≠ x)] hB ⟨(fun hq => hq rfl), trivial⟩ ?_
  refine aw_ret ?_
  refine ae_ret hB (Bv false) (by kernel_rfl) (.inl rfl) rfl (fun _ => trivial)


-- cmp.Compare[int64]
theorem CompareI_ok (x : Int) (y : Int) : Con Try.prog 74 [I x, I y] true (I (cmpI x y)) := by
  refine fn_ok (fn := Try.f74) (nt := 20) Try.func74 rfl rfl rfl rfl (by simp [taggedL, tagged]) fun B hB => ?_
  refine aR [] [0, 1] [] [I x, I y] [] [] hB trivial ?_
  refine aR [(1, .call [(true, .any)] true (Bv false))] [0, 1, 5] [] [I x, I y, Bv false] [] [Con Try.prog 81 [I x] true (Bv false) ∧ True] hB ⟨⟨(isNaNI_ok x), trivial⟩, trivial⟩ ?_
  refine aR [(1, .call [(true, .any)] true (Bv false))] [0, 1, 5, 6] [] [I x, I y, Bv false, Bv false] [] [Con Try.prog 81 [I y] true (Bv false) ∧ True] hB ⟨⟨(isNaNI_ok y), trivial⟩, trivial⟩ ?_
  refine aw_seq ?_
  refine aR [] [0, 1, 6, 11] [] [I x, I y, Bv false, Bv false] [] [] hB trivial ?_
  refine aw_false rfl ?_
  refine aw_skip ?_
  refine ae_then ?_
  refine aw_seq ?_
  refine aR [] [0, 1, 13] [] [I x, I y, Bv false] [] [] hB trivial ?_
  refine aw_false rfl ?_
  refine aw_skip ?_
  refine ae_then ?_
  refine aw_seq ?_
  refine aw_seq ?_
  by_cases h1 : x < y
  ·refine aw_r [(2, .dec true)] [0, 1, 16] [] [I x, I y, Bv true] [] [x < y] hB ⟨h1, trivial⟩ ?_
   refine ae_then ?_
   refine aw_true rfl ?_
   refine aR [] [4] [] [I (-1)] [] [] hB trivial ?_
   refine aw_ret ?_
   refine ae_ret_then ?_
   refine ae_ret hB (I (-1)) (by kernel_rfl) (.inl (by refine congrArg I ?_; unfold cmpI; first | (rw [if_pos (by omega)]; done) | (rw [if_neg (by omega), if_pos (by omega)]; done) | (rw [if_neg (by omega), if_neg (by omega)]; done))) rfl (fun _ => trivial)
  refine aw_r [(2, .dec false)] [0, 1, 16] [] [I x, I y, Bv false] [] [¬ (x < y)] hB ⟨h1, trivial⟩ ?_
  refine ae_then ?_
  refine aw_false rfl ?_
  refine aw_skip ?_
  refine ae_then ?_
  refine aw_seq ?_
  refine aw_seq ?_
  by_cases h2 : y < x
  ·refine aw_r [(2, .dec true)] [19] [] [Bv true] [] [y < x] hB ⟨h2, trivial⟩ ?_
   refine ae_then ?_
   refine aw_true rfl ?_
   refine aR [] [4] [] [I 1] [] [] hB trivial ?_
   refine aw_ret ?_
   refine ae_ret_then ?_
   refine ae_ret hB (I 1) (by kernel_rfl) (.inl (by refine congrArg I ?_; unfold cmpI; first | (rw [if_pos (by omega)]; done) | (rw [if_neg (by omega), if_pos (by omega)]; done) | (rw [if_neg (by omega), if_neg (by omega)]; done))) rfl (fun _ => trivial)
  refine aw_r [(2, .dec false)] [19] [] [Bv false] [] [¬ (y < x)] hB ⟨h2, trivial⟩ ?_
  refine ae_then ?_
  refine aw_false rfl ?_
  refine aw_skip ?_
  refine ae_then ?_
  refine aR [] [4] [] [I 0] [] [] hB trivial ?_
  refine aw_ret ?_
  refine ae_ret hB (I 0) (by kernel_rfl) (.inl (by refine congrArg I ?_; unfold cmpI; first | (rw [if_pos (by omega)]; done) | (rw [if_neg (by omega), if_pos (by omega)]; done) | (rw [if_neg (by omega), if_neg (by omega)]; done))) rfl (fun _ => trivial)


-- impl.compareEdges
theorem compareEdges_ok (a : Edge) (b : Edge) : Con Try.prog 56 [agEdge a, agEdge b] true (I (cmpE a b)) := by
  refine fn_ok (fn := Try.f56) (nt := 22) Try.func56 rfl rfl rfl rfl (by simp [taggedL, tagged]) fun B hB => ?_
  refine aR [(0, .new 2), (1, .new 3)] [2, 3] [2, 3] [.ref 2 0, .ref 3 0] [some (bxEdge a), some (bxEdge b)] [] hB trivial ?_
  refine aR [(4, .call [(true, .any), (true, .any)] true (I (cmpI a.From b.From))), (9, .call [(true, .any), (true, .any)] true (I (cmpI a.To b.To))), (14, .call [(true, .any), (true, .any)] true (I (cmpS a.Label b.Label))), (15, .new 20), (16, .call [(false, slI false ([(cmpI a.From b.From), (cmpI a.To b.To), (cmpS a.Label b.Label)]))] true (I (orL ([(cmpI a.From b.From), (cmpI a.To b.To), (cmpS a.Label b.Label)]))))] [4] [] [I (orL ([(cmpI a.From b.From), (cmpI a.To b.To), (cmpS a.Label b.Label)]))] [] [Con Try.prog 74 [I a.From, I b.From] true (I (cmpI a.From b.From)) ∧ True, Con Try.prog 74 [I a.To, I b.To] true (I (cmpI a.To b.To)) ∧ True, Con Try.prog 53 [Sv a.Label, Sv b.Label] true (I (cmpS a.Label b.Label)) ∧ True, Con Try.prog 73 [slI false ([(cmpI a.From b.From), (cmpI a.To b.To), (cmpS a.Label b.Label)])] true (I (orL ([(cmpI a.From b.From), (cmpI a.To b.To), (cmpS a.Label b.Label)]))) ∧ ((false = true → true = true) ∧ 1 = 1 ∧ 3 = (([(cmpI a.From b.From), (cmpI a.To b.To), (cmpS a.Label b.Label)]).length) ∧ ∀ i_, i_ < (([(cmpI a.From b.From), (cmpI a.To b.To), (cmpS a.Label b.Label)]).length) → (litF [I (cmpI a.From b.From), I (cmpI a.To b.To), I (cmpS a.Label b.Label)] 1) i_ = (fI ([(cmpI a.From b.From), (cmpI a.To b.To), (cmpS a.Label b.Label)])) i_ ∨ (AV.idsL ((fI ([(cmpI a.From b.From), (cmpI a.To b.To), (cmpS a.Label b.Label)])) i_) = [] ∧ leL (fun _ => none) false ((litF [I (cmpI a.From b.From), I (cmpI a.To b.To), I (cmpS a.Label b.Label)] 1) i_) ((fI ([(cmpI a.From b.From), (cmpI a.To b.To), (cmpS a.Label b.Label)])) i_))) ∧ True] hB ⟨⟨(CompareI_ok a.From b.From), trivial⟩, ⟨(CompareI_ok a.To b.To), trivial⟩, ⟨(CompareS_ok a.Label b.Label), trivial⟩, ⟨(OrI_ok ([(cmpI a.From b.From), (cmpI a.To b.To), (cmpS a.Label b.Label)])), ⟨(fun h => by cases h), rfl, (by first | rfl | (simp; done) | (simp; omega) | omega), fun i_ hi_ => .inl (match i_, hi_ with | 0, _ => rfl | 1, _ => rfl | 2, _ => rfl | (i + 3), h => absurd h (by simp))⟩, trivial⟩, trivial⟩ ?_
  refine aw_ret ?_
  refine ae_ret hB (I (orL ([(cmpI a.From b.From), (cmpI a.To b.To), (cmpS a.Label b.Label)]))) (by kernel_rfl) (.inl (by rfl)) rfl (fun _ => trivial)


-- impl.ValidLattice
theorem ValidLattice_ok (l : Lattice) (hl : okLat l) : Con Try.prog 30 [agLattice l] true (Bv true) := by
  have hn := hl.1
  have hc := hl.2.1
  refine fn_ok (fn := Try.f30) (nt := 48) Try.func30 rfl rfl rfl rfl (by simp [taggedL, tagged, tagEdge]) fun B hB => ?_
  refine aw_lens (x := agLattice l) 0 rfl (fun len_l => ?_)
  simp [LenOK, LenL, cEdge, fEdge, slEdge] at len_l
  refine aR [(0, .new 1)] [1] [1] [.ref 1 0] [some (bxLattice l)] [] hB trivial ?_
  refine aw_seq ?_
  refine aR [] [1, 6, 7, 8] [1] [.ref 1 0, slEdge false l.Edges, I (l.Edges.length : Int), I 0] [some (bxLattice l)] [] hB trivial ?_
  refine aw_block ?_
  refine aw_loop (fun gn gσ => ∃ (t8 : Int), gn = ((l.Edges.length : Int) - t8).toNat ∧ (0 ≤ t8 ∧ t8 ≤ (l.Edges.length : Int)) ∧ gσ = mkS [(1, .ref 1 0), (6, slEdge false l.Edges), (7, I (l.Edges.length : Int)), (8, I t8)] [(1, bxLattice l)]) (((l.Edges.length : Int) - 0).toNat) ⟨0, rfl, (by omega), rfl⟩ (fun gn gσ hI => ?_)
  obtain ⟨t8, rfl, hi0, rfl⟩ := hI
  refine aw_seq ?_
  by_cases h1 : t8 < (l.Edges.length : Int)
  ·have hi : t8.toNat < l.Edges.length := by omega
   have hed := hl.2.2.1 _ hi
   refine aw_r [(0, .dec true)] [1, 6, 7, 8, 9] [1] [.ref 1 0, slEdge false l.Edges, I (l.Edges.length : Int), I t8, Bv true] [some (bxLattice l)] [t8 < (l.Edges.length : Int)] hB ⟨h1, trivial⟩ ?_
   refine ae_then ?_
   refine aw_seq ?_
   refine aw_true rfl ?_
   refine aw_skip ?_
   refine ae_then ?_
   refine aw_seq ?_
   refine aw_block ?_
   refine aR [(3, .new 4)] [1, 3, 4, 6, 7, 8] [1, 4] [.ref 1 0, I t8, .ref 4 0, slEdge false l.Edges, I (l.Edges.length : Int), I t8] [some (bxLattice l), some (bxEdge (at_ l.Edges t8.toNat))] [(0 : Int) ≤ t8 ∧ t8 < (l.Edges.length : Int)] hB ⟨⟨(by omega), (by omega)⟩, trivial⟩ ?_
   refine aw_seq ?_
   by_cases h2 : 0 < t8
   ·have hpr := pw_get hl.2.2.2 (show (t8 - 1).toNat < t8.toNat by omega) hi
    refine aw_r [(2, .call [(true, .any), (true, .any)] true (Bv true)), (7, .call [(true, .any)] true (Bv true)), (12, .dec true), (21, .call [(true, .any), (true, .any)] true (I (cmpE (at_ l.Edges ((t8 - 1).toNat)) (at_ l.Edges t8.toNat)))), (22, .dec false)] [1, 6, 7, 8, 37] [1] [.ref 1 0, slEdge false l.Edges, I (l.Edges.length : Int), I t8, Bv false] [some (bxLattice l)] [Con Try.prog 54 [agLattice l, agEdge (at_ l.Edges t8.toNat)] true (Bv true) ∧ True, Con Try.prog 55 [Sv ((at_ l.Edges t8.toNat).Label)] true (Bv true) ∧ True, 0 < t8, inR .i64 (t8 - 1), (0 : Int) ≤ (t8 - 1) ∧ (t8 - 1) < (l.Edges.length : Int), Con Try.prog 56 [agEdge (at_ l.Edges ((t8 - 1).toNat)), agEdge (at_ l.Edges t8.toNat)] true (I (cmpE (at_ l.Edges ((t8 - 1).toNat)) (at_ l.Edges t8.toNat))) ∧ True, ¬ (0 ≤ (cmpE (at_ l.Edges ((t8 - 1).toNat)) (at_ l.Edges t8.toNat)))] hB ⟨⟨(fitsNodes_ok l (at_ l.Edges t8.toNat) hed (by omega)), trivial⟩, ⟨(con_bool hed.2.2 (implIsLabel_ok ((at_ l.Edges t8.toNat).Label) (by have := lab_size hed.2.2; omega))), trivial⟩, h2, (inR_i64 (by omega) (by omega)), ⟨(by omega), (by omega)⟩, ⟨(compareEdges_ok (at_ l.Edges ((t8 - 1).toNat)) (at_ l.Edges t8.toNat)), trivial⟩, (by omega), trivial⟩ ?_
    refine ae_then ?_
    refine aw_false rfl ?_
    refine aw_skip ?_
    refine ae_block 1 ?_
    refine ae_then ?_
    refine aw_r [] [1, 6, 7, 8] [1] [.ref 1 0, slEdge false l.Edges, I (l.Edges.length : Int), I (t8 + 1)] [some (bxLattice l)] [inR .i64 (t8 + 1)] hB ⟨(inR_i64 (by omega) (by omega)), trivial⟩ ?_
    exact ae_again _ (by omega) ⟨(t8 + 1), rfl, (by omega), rfl⟩
   refine aw_r [(2, .call [(true, .any), (true, .any)] true (Bv true)), (7, .call [(true, .any)] true (Bv true)), (12, .dec false)] [1, 6, 7, 8, 37] [1] [.ref 1 0, slEdge false l.Edges, I (l.Edges.length : Int), I t8, Bv false] [some (bxLattice l)] [Con Try.prog 54 [agLattice l, agEdge (at_ l.Edges t8.toNat)] true (Bv true) ∧ True, Con Try.prog 55 [Sv ((at_ l.Edges t8.toNat).Label)] true (Bv true) ∧ True, ¬ (0 < t8)] hB ⟨⟨(fitsNodes_ok l (at_ l.Edges t8.toNat) hed (by omega)), trivial⟩, ⟨(con_bool hed.2.2 (implIsLabel_ok ((at_ l.Edges t8.toNat).Label) (by have := lab_size hed.2.2; omega))), trivial⟩, h2, trivial⟩ ?_
   refine ae_then ?_
   refine aw_false rfl ?_
   refine aw_skip ?_
   refine ae_block 1 ?_
   refine ae_then ?_
   refine aw_r [] [1, 6, 7, 8] [1] [.ref 1 0, slEdge false l.Edges, I (l.Edges.length : Int), I (t8 + 1)] [some (bxLattice l)] [inR .i64 (t8 + 1)] hB ⟨(inR_i64 (by omega) (by omega)), trivial⟩ ?_
   exact ae_again _ (by omega) ⟨(t8 + 1), rfl, (by omega), rfl⟩
  refine aw_r [(0, .dec false)] [1, 6, 7, 8, 9] [1] [.ref 1 0, slEdge false l.Edges, I (l.Edges.length : Int), I t8, Bv false] [some (bxLattice l)] [¬ (t8 < (l.Edges.length : Int))] hB ⟨h1, trivial⟩ ?_
  refine ae_then ?_
  refine aw_seq ?_
  refine aw_false rfl ?_
  refine aw_exit ?_
  refine ae_exit_then ?_
  refine ae_exit_then ?_
  refine ae_exit_same ?_
  refine ae_then ?_
  refine aR [(2, .call [(true, .any), (true, .any), (true, .any)] true (Bv true)), (7, .dec true)] [2] [] [Bv true] [] [Con Try.prog 57 [I l.Nodes, I 1, I 20] true (Bv true) ∧ True, (l.Edges.length : Int) ≤ 200] hB ⟨⟨(con_bool (inB_iff.2 hl.1) (within_ok l.Nodes 1 20)), trivial⟩, (by omega), trivial⟩ ?_
  refine aw_ret ?_
  refine ae_ret hB (Bv true) (by kernel_rfl) (.inl rfl) rfl (fun _ => trivial)


-- impl.sentenced$1
theorem sentenced1_ok (l : Lattice) (hl : okLat l) : Con Try.prog 49 [agLattice l] true (Bv false) := by
  refine fn_ok (fn := Try.f49) (nt := 6) Try.func49 rfl rfl rfl rfl (by simp [taggedL, tagged, tagEdge]) fun B hB => ?_
  refine aw_lens (x := agLattice l) 0 rfl (fun len_l => ?_)
  simp [LenOK, LenL, cEdge, fEdge, slEdge] at len_l
  refine aR [(0, .new 1)] [1] [1] [.ref 1 0] [some (bxLattice l)] [] hB trivial ?_
  refine aR [(1, .call [(true, .any)] true (Bv true))] [2] [] [Bv false] [] [Con Try.prog 30 [agLattice l] true (Bv true) ∧ True] hB ⟨⟨(ValidLattice_ok l hl), trivial⟩, trivial⟩ ?_
  refine aw_ret ?_
  refine ae_ret hB (Bv false) (by kernel_rfl) (.inl rfl) rfl (fun _ => trivial)


/-- The first number below n that p holds of, or -1. -/
def firstN (n : Nat) (p : Nat → Bool) : Int := match (List.range n).find? p with
  | some i => i
  | none => -1
theorem firstN_hit {n : Nat} {p : Nat → Bool} {k : Nat} (hk : k < n) (hp : p k = true) (hn : ∀ i, i < k → p i = false) : firstN n p = k := by
  have h : (List.range n).find? p = some k := by
    rw [List.find?_range_eq_some]
    exact ⟨hp, List.mem_range.2 hk, fun j hj => by simpa using hn j hj⟩
  simp [firstN, h]
theorem firstN_none {n : Nat} {p : Nat → Bool} (hn : ∀ i, i < n → p i = false) : firstN n p = -1 := by
  have h : (List.range n).find? p = none := by
    rw [List.find?_range_eq_none]
    intro i hi; simpa using hn i hi
  simp [firstN, h]
theorem firstN_cases (n : Nat) (p : Nat → Bool) : (firstN n p = -1 ∧ ∀ i, i < n → p i = false) ∨ ∃ k : Nat, firstN n p = k ∧ k < n ∧ p k = true ∧ ∀ i, i < k → p i = false := by
  by_cases h : ∃ k, k < n ∧ p k = true
  · right
    obtain ⟨k, hk, hp⟩ := h
    cases e : (List.range n).find? p with
    | none => rw [List.find?_range_eq_none] at e; exact absurd hp (by simpa using e k hk)
    | some i =>
      have e' := e
      rw [List.find?_range_eq_some] at e
      exact ⟨i, by simp [firstN, e'], List.mem_range.1 e.2.1, e.1, fun j hj => by simpa using e.2.2 j hj⟩
  · left
    have h' : ∀ i, i < n → p i = false := fun i hi => by rw [← Bool.not_eq_true]; exact fun hp => h ⟨i, hi, hp⟩
    exact ⟨firstN_none h', h'⟩
theorem firstN_any (n : Nat) (p : Nat → Bool) : decide (0 ≤ firstN n p) = anyN n p := by
  rcases firstN_cases n p with ⟨h1, h2⟩ | ⟨k, h1, h2, h3, _⟩
  · rw [h1, anyN_none h2]; decide
  · rw [h1, anyN_at h2 h3]; simp

-- impl.sentenced
theorem containsLat_ok_idx (s : List Lattice) (hel : ∀ j, j < s.length → okLat (at_ s j)) : Con Try.prog 68 [slLattice false s, .fn 49 []] true (I (firstN s.length (fun j => false))) := by
  refine fn_ok (fn := Try.f68) (nt := 19) Try.func68 rfl rfl rfl rfl (by simp [taggedL, tagged, tagLattice]) fun B hB => ?_
  refine aw_lens (x := slLattice false s) 0 rfl (fun len_s => ?_)
  simp [LenOK, LenL, cEdge, cLattice, fEdge, fLattice, slEdge, slLattice] at len_s
  refine aR [] [0, 1] [] [slLattice false s, .fn 49 []] [] [] hB trivial ?_
  refine aw_seq ?_
  refine aR [] [0, 1, 7, 8] [] [slLattice false s, .fn 49 [], I (s.length : Int), I 0] [] [] hB trivial ?_
  refine aw_block ?_
  refine aw_loop (fun gn gσ => ∃ (t8 : Int), gn = ((s.length : Int) - t8).toNat ∧ (0 ≤ t8 ∧ t8 ≤ (s.length : Int)) ∧ (∀ j : Nat, (j : Int) < t8 → false = false) ∧ gσ = mkS [(0, slLattice false s), (1, .fn 49 []), (7, I (s.length : Int)), (8, I t8)] []) (((s.length : Int) - 0).toNat) ⟨0, rfl, (by omega), (by intro j hj; omega), rfl⟩ (fun gn gσ hI => ?_)
  obtain ⟨t8, rfl, hi0, hall0, rfl⟩ := hI
  refine aw_seq ?_
  by_cases h1 : t8 < (s.length : Int)
  ·have hi : t8.toNat < s.length := by omega
   refine aw_r [(0, .dec true)] [0, 1, 7, 8, 9] [] [slLattice false s, .fn 49 [], I (s.length : Int), I t8, Bv true] [] [t8 < (s.length : Int)] hB ⟨h1, trivial⟩ ?_
   refine ae_then ?_
   refine aw_seq ?_
   refine aw_true rfl ?_
   refine aw_skip ?_
   refine ae_then ?_
   refine aw_seq ?_
   refine aw_block ?_
   refine aR [] [0, 1, 5, 7, 8] [] [slLattice false s, .fn 49 [], I t8, I (s.length : Int), I t8] [] [] hB trivial ?_
   refine aR [(5, .call [(true, .any)] true (Bv false))] [0, 1, 5, 7, 8, 16] [] [slLattice false s, .fn 49 [], I t8, I (s.length : Int), I t8, Bv false] [] [(0 : Int) ≤ t8 ∧ t8 < (s.length : Int), Con Try.prog 49 [agLattice (at_ s t8.toNat)] true (Bv false) ∧ True] hB ⟨⟨(by omega), (by omega)⟩, ⟨(sentenced1_ok (at_ s t8.toNat) (hel _ hi)), trivial⟩, trivial⟩ ?_
   refine aw_false rfl ?_
   refine aw_skip ?_
   refine ae_block 1 ?_
   refine ae_then ?_
   refine aw_r [] [0, 1, 7, 8] [] [slLattice false s, .fn 49 [], I (s.length : Int), I (t8 + 1)] [] [inR .i64 (t8 + 1)] hB ⟨(inR_i64 (by omega) (by omega)), trivial⟩ ?_
   exact ae_again _ (by omega) ⟨(t8 + 1), rfl, (by omega), (by intro j hj; by_cases ej : j = t8.toNat; (subst ej; first | assumption | rfl); exact hall0 j (by omega)), rfl⟩
  have hfin : firstN s.length (fun j => false) = -1 := firstN_none (fun j hj => hall0 j (by omega))
  refine aw_r [(0, .dec false)] [0, 1, 7, 8, 9] [] [slLattice false s, .fn 49 [], I (s.length : Int), I t8, Bv false] [] [¬ (t8 < (s.length : Int))] hB ⟨h1, trivial⟩ ?_
  refine ae_then ?_
  refine aw_seq ?_
  refine aw_false rfl ?_
  refine aw_exit ?_
  refine ae_exit_then ?_
  refine ae_exit_then ?_
  refine ae_exit_same ?_
  refine ae_then ?_
  refine aR [] [4] [] [I (-1)] [] [] hB trivial ?_
  refine aw_ret ?_
  refine ae_ret hB (I (-1)) (by kernel_rfl) (.inl (by refine congrArg I ?_; first | (rw [hfin]; done) | (rw [hfin]; omega))) rfl (fun _ => trivial)

theorem containsLat_ok (s : List Lattice) (hel : ∀ j, j < s.length → okLat (at_ s j)) : Con Try.prog 48 [slLattice false s, .fn 49 []] true (Bv (anyN s.length (fun j => false))) := by
  refine fn_ok (fn := Try.f48) (nt := 9) Try.func48 rfl rfl rfl rfl (by simp [taggedL, tagged, tagLattice]) fun B hB => ?_
  refine aw_lens (x := slLattice false s) 0 rfl (fun len_s => ?_)
  simp [LenOK, LenL, cEdge, cLattice, fEdge, fLattice, slEdge, slLattice] at len_s
  refine aR [] [0, 1] [] [slLattice false s, .fn 49 []] [] [] hB trivial ?_
  refine aR [(2, .call [(true, .any), (true, .any)] true (I (firstN s.length (fun j => false))))] [4] [] [Bv (decide (0 ≤ (firstN s.length (fun j => false))))] [] [Con Try.prog 68 [slLattice false s, .fn 49 []] true (I (firstN s.length (fun j => false))) ∧ True] hB ⟨⟨(containsLat_ok_idx s hel), trivial⟩, trivial⟩ ?_
  refine aw_ret ?_
  refine ae_ret hB (Bv (decide (0 ≤ (firstN s.length (fun j => false))))) (by kernel_rfl) (.inl (by exact congrArg Bv (firstN_any _ _))) rfl (fun _ => trivial)

theorem sentenced_ok (list : List Lattice) (lx : Lexicon) (m : Model) (hls : (list.length : Int) ≤ 8 ∧ ∀ l ∈ list, okLat l) (hlx : okLex lx) (hmd : okMod m) : Con Try.prog 25 [slLattice false list, .agg [slEntry false lx.Entries], agModel m] true (I 0) := by
  refine fn_ok (fn := Try.f25) (nt := 24) Try.func25 rfl rfl rfl rfl (by simp [taggedL, tagged, tagBigram, tagEntry, tagLattice]) fun B hB => ?_
  refine aw_lens (x := slLattice false list) 0 rfl (fun len_list => ?_)
  simp [LenOK, LenL, cEdge, cLattice, fEdge, fLattice, slEdge, slLattice] at len_list
  refine aw_lens (x := .agg [slEntry false lx.Entries]) 1 rfl (fun len_lx => ?_)
  simp [LenOK, LenL, cEntry, fEntry, slEntry] at len_lx
  refine aw_lens (x := agModel m) 2 rfl (fun len_m => ?_)
  simp [LenOK, LenL, cBigram, fBigram, slBigram] at len_m
  refine aR [(0, .new 4), (1, .new 5)] [0, 4, 5] [4, 5] [slLattice false list, .ref 4 0, .ref 5 0] [some (.box [slEntry false lx.Entries]), some (bxModel m)] [] hB trivial ?_
  refine aw_seq ?_
  refine aw_block ?_
  refine aR [(1, .call [(true, .any)] true (Bv true)), (5, .call [(true, .any)] true (Bv true)), (10, .call [(true, .any), (true, .any)] true (Bv false))] [0, 7] [] [slLattice false list, Bv false] [] [Con Try.prog 46 [.agg [slEntry false lx.Entries]] true (Bv true) ∧ True, Con Try.prog 47 [agModel m] true (Bv true) ∧ True, Con Try.prog 48 [slLattice false list, .fn 49 []] true (Bv false) ∧ True] hB ⟨⟨(ValidLexicon_ok lx hlx), trivial⟩, ⟨(ValidModel_ok m hmd), trivial⟩, ⟨(con_bool (by rw [anyN_none fun _ _ => rfl]) (containsLat_ok list (fun j hj => hls.2 _ (at_mem hj)))), trivial⟩, trivial⟩ ?_
  refine aw_false rfl ?_
  refine aR [(2, .dec false)] [20] [] [Bv false] [] [¬ (8 < (list.length : Int))] hB ⟨(by omega), trivial⟩ ?_
  refine aw_false rfl ?_
  refine aw_skip ?_
  refine ae_block 0 ?_
  refine ae_then ?_
  refine aR [] [6] [] [I 0] [] [] hB trivial ?_
  refine aw_ret ?_
  refine ae_ret hB (I 0) (by kernel_rfl) (.inl rfl) rfl (fun _ => trivial)


/-- The costs of the nodes behind one more letter, after k edges; and whether there is any. -/
def rowE (l : Lattice) (c : List Int) (ch : ByteArray) : Nat → List Int × Bool
  | 0 => (List.replicate l.Nodes.toNat 1099511627776, false)
  | k + 1 => if (at_ l.Edges k).Label = ch ∧ at_ c (at_ l.Edges k).From.toNat < 1099511627776 then ((rowE l c ch k).1.set (at_ l.Edges k).To.toNat (min (at_ (rowE l c ch k).1 (at_ l.Edges k).To.toNat) (at_ c (at_ l.Edges k).From.toNat + (at_ l.Edges k).Cost)), true) else rowE l c ch k
def chA (w : ByteArray) (k : Nat) : ByteArray := w.extract k (k + 1)
/-- The costs of the nodes behind k letters. -/
def tcRow (l : Lattice) (w : ByteArray) : Nat → List Int
  | 0 => (List.replicate l.Nodes.toNat 1099511627776).set 0 0
  | k + 1 => (rowE l (tcRow l w k) (chA w k) l.Edges.length).1
def tcA (l : Lattice) (w : ByteArray) (k : Nat) : Bool := (rowE l (tcRow l w k) (chA w k) l.Edges.length).2
/-- The cost of a text in a lattice. -/
def tcF (l : Lattice) (w : ByteArray) : Int := if (anyN w.size fun k => !(tcA l w k)) = true then 1099511627776 else at_ (tcRow l w w.size) (l.Nodes - 1).toNat
def okRow (n : Nat) (b : Int) (c : List Int) : Prop := c.length = n ∧ ∀ j : Nat, j < n → 0 ≤ at_ c j ∧ (at_ c j ≤ b ∨ at_ c j = 1099511627776)
theorem row_set {n : Nat} {b x : Int} {c : List Int} {k : Nat} (h : okRow n b c) (hx : 0 ≤ x ∧ (x ≤ b ∨ x = 1099511627776)) : okRow n b (c.set k x) := ⟨by rw [List.length_set]; exact h.1, fun j hj => by
  by_cases e : j = k
  · subst e; rw [at_set_same (by rw [h.1]; exact hj)]; exact hx
  · rw [at_set_oth e]; exact h.2 j hj⟩
theorem row_far (n : Nat) (b : Int) : okRow n b (List.replicate n 1099511627776) := ⟨List.length_replicate, fun j hj => by rw [at_eq (by rw [List.length_replicate]; exact hj), List.getElem_replicate]; omega⟩
theorem rowE_ok {l : Lattice} (hl : okLat l) {b : Int} (hb : 0 ≤ b) {c : List Int} (hc : okRow l.Nodes.toNat b c) (ch : ByteArray) : ∀ k : Nat, k ≤ l.Edges.length → okRow l.Nodes.toNat (b + 1000000) (rowE l c ch k).1
  | 0, _ => row_far _ _
  | k + 1, hk => by
    have ih := rowE_ok hl hb hc ch k (by omega)
    have he := hl.2.2.1 k (by omega)
    unfold rowE
    split
    · rename_i q
      have h1 := hc.2 (at_ l.Edges k).From.toNat (by have := he.1; omega)
      have h2 := ih.2 (at_ l.Edges k).To.toNat (by have := he.1; omega)
      have h3 := he.2.1
      exact row_set ih (by omega)
    · exact ih
theorem tcRow_ok {l : Lattice} (hl : okLat l) (w : ByteArray) : ∀ k : Nat, okRow l.Nodes.toNat (1000000 * k) (tcRow l w k)
  | 0 => row_set (row_far _ _) (by omega)
  | k + 1 => by
    have := rowE_ok hl (by omega) (tcRow_ok hl w k) (chA w k) l.Edges.length (Nat.le_refl _)
    rw [show (1000000 * ((k + 1 : Nat) : Int)) = 1000000 * (k : Int) + 1000000 from by omega]; exact this
theorem tcF_bd {l : Lattice} (hl : okLat l) (w : ByteArray) : 0 ≤ tcF l w ∧ (tcF l w ≤ 1000000 * w.size ∨ tcF l w = 1099511627776) := by
  unfold tcF
  split
  · omega
  · have := (tcRow_ok hl w w.size).2 (l.Nodes - 1).toNat (by have := hl.1; omega)
    exact this
def farI (n : Nat) (k : Nat) : List Int := List.replicate k 1099511627776 ++ List.replicate (n - k) 0
theorem far_0 {n m : Nat} (h : m = n) : List.replicate m (0 : Int) = farI n 0 := by simp [farI, h]
theorem far_len {n k : Nat} (h : k ≤ n) : (farI n k).length = n := by simp [farI]; omega
theorem far_next {n k : Nat} (h : k < n) : (farI n k).set k 1099511627776 = farI n (k + 1) := by
  unfold farI
  rw [List.set_append_right _ _ (by simp)]
  rw [List.length_replicate, Nat.sub_self, show n - k = (n - (k + 1)) + 1 from by omega, List.replicate_succ, List.set_cons_zero, List.replicate_succ', List.append_assoc]
  rfl
theorem far_all (n : Nat) : farI n n = List.replicate n 1099511627776 := by simp [farI]

-- impl.textCost
theorem textCost_ok (l : Lattice) (w : ByteArray) (hl : okLat l) (hw : w.size ≤ 1000) : Con Try.prog 26 [agLattice l, Sv w] true (I (tcF l w)) := by
  have hn := hl.1
  have hc := hl.2.1
  refine fn_ok (fn := Try.f26) (nt := 96) Try.func26 rfl rfl rfl rfl (by simp [taggedL, tagged, tagEdge]) fun B hB => ?_
  refine aw_lens (x := agLattice l) 0 rfl (fun len_l => ?_)
  simp [LenOK, LenL, cEdge, fEdge, slEdge] at len_l
  refine aR [(0, .new 2)] [1, 2] [2] [Sv w, .ref 2 0] [some (bxLattice l)] [] hB trivial ?_
  refine aR [(2, .new 15)] [1, 2, 5] [2, 15] [Sv w, .ref 2 0, .arr 15] [some (bxLattice l), some (.arr 1 l.Nodes.toNat (fun _ => [I 0]))] [(0 : Int) ≤ l.Nodes ∧ (l.Nodes : Int) ≤ l.Nodes ∧ (8 : Int) * l.Nodes ≤ 281474976710656 ∧ l.Nodes ≤ 9223372036854775807] hB ⟨⟨(by omega), (by omega), (by omega), (by omega)⟩, trivial⟩ ?_
  refine aw_seq ?_
  refine aR [] [1, 2, 5, 17, 18] [2, 15] [Sv w, .ref 2 0, .arr 15, I (l.Nodes.toNat : Int), I 0] [some (bxLattice l), some (.arr 1 l.Nodes.toNat (fun _ => [I 0]))] [] hB trivial ?_
  refine aw_block ?_
  refine aw_weak hB [] (T := [(1, Sv w), (2, .ref 2 0), (5, .arr 15), (17, I (l.Nodes.toNat : Int)), (18, I 0)]) (O := [(2, bxLattice l), (15, .arr 1 ((List.replicate l.Nodes.toNat 0).length) (fI (List.replicate l.Nodes.toNat 0)))]) rfl (⟨.inl rfl, .inl rfl, .inl rfl, .inl rfl, .inl rfl, trivial⟩) (⟨.inl rfl, .inr ⟨rfl, (by first | rfl | (simp; done) | (simp; omega) | omega), fun i_ hi_ => .inl (const_enc (enc := cI) rfl i_ hi_)⟩, trivial⟩) ?_
  refine aw_loop (fun gn gσ => ∃ (t18 : Int) (cs : List Int), gn = (l.Nodes - t18).toNat ∧ (0 ≤ t18 ∧ t18 ≤ l.Nodes) ∧ (cs = farI l.Nodes.toNat t18.toNat) ∧ (cs.length = l.Nodes.toNat) ∧ gσ = mkS [(1, Sv w), (2, .ref 2 0), (5, .arr 15), (17, I (l.Nodes.toNat : Int)), (18, I t18)] [(2, bxLattice l), (15, .arr 1 cs.length (fI cs))]) ((l.Nodes - 0).toNat) ⟨0, (List.replicate l.Nodes.toNat 0), rfl, (by omega), (by exact far_0 rfl), (by simp), rfl⟩ (fun gn gσ hI => ?_)
  obtain ⟨t18, cs, rfl, hi0, hcs, hcl, rfl⟩ := hI
  refine aw_seq ?_
  by_cases h1 : t18 < (l.Nodes.toNat : Int)
  ·refine aw_r [(0, .dec true)] [1, 2, 5, 17, 18, 19] [2, 15] [Sv w, .ref 2 0, .arr 15, I (l.Nodes.toNat : Int), I t18, Bv true] [some (bxLattice l), some (.arr 1 cs.length (fI cs))] [t18 < (l.Nodes.toNat : Int)] hB ⟨h1, trivial⟩ ?_
   refine ae_then ?_
   refine aw_seq ?_
   refine aw_true rfl ?_
   refine aw_skip ?_
   refine ae_then ?_
   refine aw_seq ?_
   refine aw_block ?_
   refine aR [] [1, 2, 5, 6, 17, 18] [2, 15] [Sv w, .ref 2 0, .arr 15, I t18, I (l.Nodes.toNat : Int), I t18] [some (bxLattice l), some (.arr 1 cs.length (fI cs))] [] hB trivial ?_
   refine aw_r [] [1, 2, 5, 17, 18] [2, 15] [Sv w, .ref 2 0, .arr 15, I (l.Nodes.toNat : Int), I t18] [some (bxLattice l), some (.arr 1 cs.length (fun q => bif Nat.beq q t18.toNat then [I 1099511627776] else (fI cs) q))] [(0 : Int) ≤ t18 ∧ t18 < (cs.length : Int), t18.toNat < cs.length] hB ⟨⟨(by omega), (by omega)⟩, (by omega), trivial⟩ ?_
   refine ae_block 1 ?_
   refine ae_then ?_
   refine aw_r [] [1, 2, 5, 17, 18] [2, 15] [Sv w, .ref 2 0, .arr 15, I (l.Nodes.toNat : Int), I (t18 + 1)] [some (bxLattice l), some (.arr 1 cs.length (fun q => bif Nat.beq q t18.toNat then [I 1099511627776] else (fI cs) q))] [inR .i64 (t18 + 1)] hB ⟨(inR_i64 (by omega) (by omega)), trivial⟩ ?_
   refine ae_weak hB [] (T := [(1, Sv w), (2, .ref 2 0), (5, .arr 15), (17, I (l.Nodes.toNat : Int)), (18, I (t18 + 1))]) (O := [(2, bxLattice l), (15, .arr 1 ((cs.set t18.toNat 1099511627776).length) (fI (cs.set t18.toNat 1099511627776)))]) rfl (⟨.inl rfl, .inl rfl, .inl rfl, .inl rfl, .inl rfl, trivial⟩) (⟨.inl rfl, .inr ⟨rfl, (by first | rfl | (simp; done) | (simp; omega) | omega), fun i_ hi_ => .inl (upd_enc (enc := cI) rfl i_ hi_)⟩, trivial⟩) (ae_again _ (by omega) ⟨(t18 + 1), (cs.set t18.toNat 1099511627776), rfl, (by omega), (by rw [hcs, far_next (by omega), show (t18 + 1).toNat = t18.toNat + 1 from by omega]), (by rw [List.length_set]; exact hcl), rfl⟩)
  have hcf : cs = List.replicate l.Nodes.toNat 1099511627776 := by rw [hcs, show t18.toNat = l.Nodes.toNat from by omega, far_all]
  refine aw_r [(0, .dec false)] [1, 2, 5, 17, 18, 19] [2, 15] [Sv w, .ref 2 0, .arr 15, I (l.Nodes.toNat : Int), I t18, Bv false] [some (bxLattice l), some (.arr 1 cs.length (fI cs))] [¬ (t18 < (l.Nodes.toNat : Int))] hB ⟨h1, trivial⟩ ?_
  refine ae_then ?_
  refine aw_seq ?_
  refine aw_false rfl ?_
  refine aw_exit ?_
  refine ae_exit_then ?_
  refine ae_exit_then ?_
  refine ae_exit_same ?_
  refine ae_then ?_
  refine aR [] [1, 2, 5] [2, 15] [Sv w, .ref 2 0, .arr 15] [some (bxLattice l), some (.arr 1 cs.length (fun q => bif Nat.beq q 0 then [I 0] else (fI cs) q))] [(0 : Int) ≤ 0 ∧ 0 < (cs.length : Int), 0 < cs.length] hB ⟨⟨(by omega), (by omega)⟩, (by omega), trivial⟩ ?_
  refine aw_seq ?_
  refine aR [] [1, 2, 5, 28, 29] [2, 15] [Sv w, .ref 2 0, .arr 15, I (w.size : Int), I 0] [some (bxLattice l), some (.arr 1 cs.length (fun q => bif Nat.beq q 0 then [I 0] else (fI cs) q))] [] hB trivial ?_
  refine aw_block ?_
  refine aw_weak hB [] (T := [(1, Sv w), (2, .ref 2 0), (5, .arr 15), (28, I (w.size : Int)), (29, I 0)]) (O := [(2, bxLattice l), (15, .arr 1 ((cs.set 0 0).length) (fI (cs.set 0 0)))]) rfl (⟨.inl rfl, .inl rfl, .inl rfl, .inl rfl, .inl rfl, trivial⟩) (⟨.inl rfl, .inr ⟨rfl, (by first | rfl | (simp; done) | (simp; omega) | omega), fun i_ hi_ => .inl (upd_enc (enc := cI) rfl i_ hi_)⟩, trivial⟩) ?_
  refine aw_loop (fun gn gσ => ∃ (c2 : List Int) (t29 : Int), gn = ((w.size : Int) - t29).toNat ∧ (0 ≤ t29 ∧ t29 ≤ (w.size : Int)) ∧ (c2 = tcRow l w t29.toNat) ∧ (∀ j : Nat, (j : Int) < t29 → tcA l w j = true) ∧ gσ = mkS [(1, Sv w), (2, .ref 2 0), (5, .arr 15), (28, I (w.size : Int)), (29, I t29)] [(2, bxLattice l), (15, .arr 1 c2.length (fI c2))]) (((w.size : Int) - 0).toNat) ⟨(cs.set 0 0), 0, rfl, (by omega), (by rw [hcf]; rfl), (by intro j hj; omega), rfl⟩ (fun gn gσ hI => ?_)
  obtain ⟨c2, t29, rfl, hi9, hc2, hal, rfl⟩ := hI
  have hrow := tcRow_ok hl w t29.toNat
  rw [← hc2] at hrow
  have hrl := hrow.1
  refine aw_seq ?_
  by_cases h2 : t29 < (w.size : Int)
  ·have hi9 : t29.toNat < w.size := by omega
   refine aw_r [(0, .dec true)] [1, 2, 5, 28, 29, 30] [2, 15] [Sv w, .ref 2 0, .arr 15, I (w.size : Int), I t29, Bv true] [some (bxLattice l), some (.arr 1 c2.length (fI c2))] [t29 < (w.size : Int)] hB ⟨h2, trivial⟩ ?_
   refine ae_then ?_
   refine aw_seq ?_
   refine aw_true rfl ?_
   refine aw_skip ?_
   refine ae_then ?_
   refine aw_seq ?_
   refine aw_block ?_
   refine aR [] [1, 2, 5, 7, 28, 29] [2, 15] [Sv w, .ref 2 0, .arr 15, I t29, I (w.size : Int), I t29] [some (bxLattice l), some (.arr 1 c2.length (fI c2))] [] hB trivial ?_
   refine aR [(2, .new 34)] [1, 2, 5, 7, 8, 28, 29] [2, 15, 34] [Sv w, .ref 2 0, .arr 15, I t29, .arr 34, I (w.size : Int), I t29] [some (bxLattice l), some (.arr 1 c2.length (fI c2)), some (.arr 1 l.Nodes.toNat (fun _ => [I 0]))] [(0 : Int) ≤ l.Nodes ∧ (l.Nodes : Int) ≤ l.Nodes ∧ (8 : Int) * l.Nodes ≤ 281474976710656 ∧ l.Nodes ≤ 9223372036854775807] hB ⟨⟨(by omega), (by omega), (by omega), (by omega)⟩, trivial⟩ ?_
   refine aw_seq ?_
   refine aR [] [1, 2, 5, 7, 8, 28, 29, 36, 37] [2, 15, 34] [Sv w, .ref 2 0, .arr 15, I t29, .arr 34, I (w.size : Int), I t29, I (l.Nodes.toNat : Int), I 0] [some (bxLattice l), some (.arr 1 c2.length (fI c2)), some (.arr 1 l.Nodes.toNat (fun _ => [I 0]))] [] hB trivial ?_
   refine aw_block ?_
   refine aw_weak hB [] (T := [(1, Sv w), (2, .ref 2 0), (5, .arr 15), (7, I t29), (8, .arr 34), (28, I (w.size : Int)), (29, I t29), (36, I (l.Nodes.toNat : Int)), (37, I 0)]) (O := [(2, bxLattice l), (15, .arr 1 c2.length (fI c2)), (34, .arr 1 ((List.replicate l.Nodes.toNat 0).length) (fI (List.replicate l.Nodes.toNat 0)))]) rfl (⟨.inl rfl, .inl rfl, .inl rfl, .inl rfl, .inl rfl, .inl rfl, .inl rfl, .inl rfl, .inl rfl, trivial⟩) (⟨.inl rfl, .inl rfl, .inr ⟨rfl, (by first | rfl | (simp; done) | (simp; omega) | omega), fun i_ hi_ => .inl (const_enc (enc := cI) rfl i_ hi_)⟩, trivial⟩) ?_
   refine aw_loop (fun gn gσ => ∃ (t37 : Int) (nx : List Int), gn = (l.Nodes - t37).toNat ∧ (0 ≤ t37 ∧ t37 ≤ l.Nodes) ∧ (nx = farI l.Nodes.toNat t37.toNat) ∧ (nx.length = l.Nodes.toNat) ∧ gσ = mkS [(1, Sv w), (2, .ref 2 0), (5, .arr 15), (7, I t29), (8, .arr 34), (28, I (w.size : Int)), (29, I t29), (36, I (l.Nodes.toNat : Int)), (37, I t37)] [(2, bxLattice l), (15, .arr 1 c2.length (fI c2)), (34, .arr 1 nx.length (fI nx))]) ((l.Nodes - 0).toNat) ⟨0, (List.replicate l.Nodes.toNat 0), rfl, (by omega), (by exact far_0 rfl), (by simp), rfl⟩ (fun gn gσ hI => ?_)
   obtain ⟨t37, nx, rfl, hi7, hnx, hnl, rfl⟩ := hI
   refine aw_seq ?_
   by_cases h3 : t37 < (l.Nodes.toNat : Int)
   ·refine aw_r [(0, .dec true)] [1, 2, 5, 7, 8, 28, 29, 36, 37, 38] [2, 15, 34] [Sv w, .ref 2 0, .arr 15, I t29, .arr 34, I (w.size : Int), I t29, I (l.Nodes.toNat : Int), I t37, Bv true] [some (bxLattice l), some (.arr 1 c2.length (fI c2)), some (.arr 1 nx.length (fI nx))] [t37 < (l.Nodes.toNat : Int)] hB ⟨h3, trivial⟩ ?_
    refine ae_then ?_
    refine aw_seq ?_
    refine aw_true rfl ?_
    refine aw_skip ?_
    refine ae_then ?_
    refine aw_seq ?_
    refine aw_block ?_
    refine aR [] [1, 2, 5, 7, 8, 9, 28, 29, 36, 37] [2, 15, 34] [Sv w, .ref 2 0, .arr 15, I t29, .arr 34, I t37, I (w.size : Int), I t29, I (l.Nodes.toNat : Int), I t37] [some (bxLattice l), some (.arr 1 c2.length (fI c2)), some (.arr 1 nx.length (fI nx))] [] hB trivial ?_
    refine aw_r [] [1, 2, 5, 7, 8, 28, 29, 36, 37] [2, 15, 34] [Sv w, .ref 2 0, .arr 15, I t29, .arr 34, I (w.size : Int), I t29, I (l.Nodes.toNat : Int), I t37] [some (bxLattice l), some (.arr 1 c2.length (fI c2)), some (.arr 1 nx.length (fun q => bif Nat.beq q t37.toNat then [I 1099511627776] else (fI nx) q))] [(0 : Int) ≤ t37 ∧ t37 < (nx.length : Int), t37.toNat < nx.length] hB ⟨⟨(by omega), (by omega)⟩, (by omega), trivial⟩ ?_
    refine ae_block 5 ?_
    refine ae_then ?_
    refine aw_r [] [1, 2, 5, 7, 8, 28, 29, 36, 37] [2, 15, 34] [Sv w, .ref 2 0, .arr 15, I t29, .arr 34, I (w.size : Int), I t29, I (l.Nodes.toNat : Int), I (t37 + 1)] [some (bxLattice l), some (.arr 1 c2.length (fI c2)), some (.arr 1 nx.length (fun q => bif Nat.beq q t37.toNat then [I 1099511627776] else (fI nx) q))] [inR .i64 (t37 + 1)] hB ⟨(inR_i64 (by omega) (by omega)), trivial⟩ ?_
    refine ae_weak hB [] (T := [(1, Sv w), (2, .ref 2 0), (5, .arr 15), (7, I t29), (8, .arr 34), (28, I (w.size : Int)), (29, I t29), (36, I (l.Nodes.toNat : Int)), (37, I (t37 + 1))]) (O := [(2, bxLattice l), (15, .arr 1 c2.length (fI c2)), (34, .arr 1 ((nx.set t37.toNat 1099511627776).length) (fI (nx.set t37.toNat 1099511627776)))]) rfl (⟨.inl rfl, .inl rfl, .inl rfl, .inl rfl, .inl rfl, .inl rfl, .inl rfl, .inl rfl, .inl rfl, trivial⟩) (⟨.inl rfl, .inl rfl, .inr ⟨rfl, (by first | rfl | (simp; done) | (simp; omega) | omega), fun i_ hi_ => .inl (upd_enc (enc := cI) rfl i_ hi_)⟩, trivial⟩) (ae_again _ (by omega) ⟨(t37 + 1), (nx.set t37.toNat 1099511627776), rfl, (by omega), (by rw [hnx, far_next (by omega), show (t37 + 1).toNat = t37.toNat + 1 from by omega]), (by rw [List.length_set]; exact hnl), rfl⟩)
   have hnf : nx = List.replicate l.Nodes.toNat 1099511627776 := by rw [hnx, show t37.toNat = l.Nodes.toNat from by omega, far_all]
   refine aw_r [(0, .dec false)] [1, 2, 5, 7, 8, 28, 29, 36, 37, 38] [2, 15, 34] [Sv w, .ref 2 0, .arr 15, I t29, .arr 34, I (w.size : Int), I t29, I (l.Nodes.toNat : Int), I t37, Bv false] [some (bxLattice l), some (.arr 1 c2.length (fI c2)), some (.arr 1 nx.length (fI nx))] [¬ (t37 < (l.Nodes.toNat : Int))] hB ⟨h3, trivial⟩ ?_
   refine ae_then ?_
   refine aw_seq ?_
   refine aw_false rfl ?_
   refine aw_exit ?_
   refine ae_exit_then ?_
   refine ae_exit_then ?_
   refine ae_exit_same ?_
   refine ae_then ?_
   refine aR [] [1, 2, 5, 7, 8, 10, 28, 29] [2, 15, 34] [Sv w, .ref 2 0, .arr 15, I t29, .arr 34, Bv false, I (w.size : Int), I t29] [some (bxLattice l), some (.arr 1 c2.length (fI c2)), some (.arr 1 nx.length (fI nx))] [] hB trivial ?_
   refine aw_seq ?_
   refine aR [] [1, 2, 5, 7, 8, 10, 28, 29, 45, 46, 47] [2, 15, 34] [Sv w, .ref 2 0, .arr 15, I t29, .arr 34, Bv false, I (w.size : Int), I t29, slEdge false l.Edges, I (l.Edges.length : Int), I 0] [some (bxLattice l), some (.arr 1 c2.length (fI c2)), some (.arr 1 nx.length (fI nx))] [] hB trivial ?_
   refine aw_block ?_
   refine aw_loop (fun gn gσ => ∃ (alive : Bool) (t47 : Int) (n2 : List Int), gn = ((l.Edges.length : Int) - t47).toNat ∧ (0 ≤ t47 ∧ t47 ≤ (l.Edges.length : Int)) ∧ ((n2, alive) = rowE l c2 (chA w t29.toNat) t47.toNat) ∧ gσ = mkS [(1, Sv w), (2, .ref 2 0), (5, .arr 15), (7, I t29), (8, .arr 34), (10, Bv alive), (28, I (w.size : Int)), (29, I t29), (45, slEdge false l.Edges), (46, I (l.Edges.length : Int)), (47, I t47)] [(2, bxLattice l), (15, .arr 1 c2.length (fI c2)), (34, .arr 1 n2.length (fI n2))]) (((l.Edges.length : Int) - 0).toNat) ⟨false, 0, nx, rfl, (by omega), (by rw [hnf]; rfl), rfl⟩ (fun gn gσ hI => ?_)
   obtain ⟨alive, t47, n2, rfl, hi4, hn2, rfl⟩ := hI
   have hre := rowE_ok hl (by omega) hrow (chA w t29.toNat) t47.toNat (by omega)
   rw [← hn2] at hre
   replace hre : okRow l.Nodes.toNat _ n2 := hre
   have hnl2 := hre.1
   refine aw_seq ?_
   by_cases h4 : t47 < (l.Edges.length : Int)
   ·have hi : t47.toNat < l.Edges.length := by omega
    have hed := hl.2.2.1 _ hi
    have hee := hed.1
    have hec := hed.2.1
    have hr1 := hrow.2 (at_ l.Edges t47.toNat).From.toNat (by omega)
    have hr2 := hre.2 (at_ l.Edges t47.toNat).To.toNat (by omega)
    refine aw_r [(0, .dec true)] [1, 2, 5, 7, 8, 10, 28, 29, 45, 46, 47, 48] [2, 15, 34] [Sv w, .ref 2 0, .arr 15, I t29, .arr 34, Bv alive, I (w.size : Int), I t29, slEdge false l.Edges, I (l.Edges.length : Int), I t47, Bv true] [some (bxLattice l), some (.arr 1 c2.length (fI c2)), some (.arr 1 n2.length (fI n2))] [t47 < (l.Edges.length : Int)] hB ⟨h4, trivial⟩ ?_
    refine ae_then ?_
    refine aw_seq ?_
    refine aw_true rfl ?_
    refine aw_skip ?_
    refine ae_then ?_
    refine aw_seq ?_
    refine aw_block ?_
    refine aR [(2, .new 12)] [1, 2, 5, 7, 8, 10, 12, 28, 29, 45, 46, 47] [2, 12, 15, 34] [Sv w, .ref 2 0, .arr 15, I t29, .arr 34, Bv alive, .ref 12 0, I (w.size : Int), I t29, slEdge false l.Edges, I (l.Edges.length : Int), I t47] [some (bxLattice l), some (bxEdge (at_ l.Edges t47.toNat)), some (.arr 1 c2.length (fI c2)), some (.arr 1 n2.length (fI n2))] [(0 : Int) ≤ t47 ∧ t47 < (l.Edges.length : Int)] hB ⟨⟨(by omega), (by omega)⟩, trivial⟩ ?_
    refine aw_seq ?_
    by_cases h5 : ((at_ l.Edges t47.toNat).Label) = (w.extract t29.toNat (t29 + 1).toNat)
    ·have hlb := h5
     rw [show w.extract t29.toNat (t29 + 1).toNat = chA w t29.toNat from by rw [show (t29 + 1).toNat = t29.toNat + 1 from by omega]; rfl] at hlb
     by_cases h6 : (at_ c2 (((at_ l.Edges t47.toNat).From).toNat)) < 1099511627776
     ·refine aw_r [(7, .dec true), (14, .dec true)] [1, 2, 5, 7, 8, 10, 12, 28, 29, 45, 46, 47, 66] [2, 12, 15, 34] [Sv w, .ref 2 0, .arr 15, I t29, .arr 34, Bv alive, .ref 12 0, I (w.size : Int), I t29, slEdge false l.Edges, I (l.Edges.length : Int), I t47, Bv true] [some (bxLattice l), some (bxEdge (at_ l.Edges t47.toNat)), some (.arr 1 c2.length (fI c2)), some (.arr 1 n2.length (fI n2))] [inR .i64 (t29 + 1), (0 : Int) ≤ t29 ∧ t29 ≤ (t29 + 1) ∧ (t29 + 1) ≤ (w.size : Int), ((at_ l.Edges t47.toNat).Label) = (w.extract t29.toNat (t29 + 1).toNat), (0 : Int) ≤ ((at_ l.Edges t47.toNat).From) ∧ ((at_ l.Edges t47.toNat).From) < (c2.length : Int), ((at_ l.Edges t47.toNat).From).toNat < c2.length, (at_ c2 (((at_ l.Edges t47.toNat).From).toNat)) < 1099511627776] hB ⟨(inR_i64 (by omega) (by omega)), ⟨(by omega), (by omega), (by omega)⟩, h5, ⟨(by omega), (by omega)⟩, (by omega), h6, trivial⟩ ?_
      refine ae_then ?_
      refine aw_true rfl ?_
      refine aR [] [1, 2, 5, 7, 8, 28, 29, 45, 46, 47] [2, 15, 34] [Sv w, .ref 2 0, .arr 15, I t29, .arr 34, I (w.size : Int), I t29, slEdge false l.Edges, I (l.Edges.length : Int), I t47] [some (bxLattice l), some (.arr 1 c2.length (fI c2)), some (.arr 1 n2.length (fun q => bif Nat.beq q (((at_ l.Edges t47.toNat).To).toNat) then [I (min (at_ n2 (((at_ l.Edges t47.toNat).To).toNat)) ((at_ c2 (((at_ l.Edges t47.toNat).From).toNat)) + ((at_ l.Edges t47.toNat).Cost)))] else (fI n2) q))] [(0 : Int) ≤ ((at_ l.Edges t47.toNat).To) ∧ ((at_ l.Edges t47.toNat).To) < (n2.length : Int), ((at_ l.Edges t47.toNat).To).toNat < n2.length, (0 : Int) ≤ ((at_ l.Edges t47.toNat).From) ∧ ((at_ l.Edges t47.toNat).From) < (c2.length : Int), ((at_ l.Edges t47.toNat).From).toNat < c2.length, inR .i64 ((at_ c2 (((at_ l.Edges t47.toNat).From).toNat)) + ((at_ l.Edges t47.toNat).Cost)), (0 : Int) ≤ ((at_ l.Edges t47.toNat).To) ∧ ((at_ l.Edges t47.toNat).To) < (n2.length : Int), ((at_ l.Edges t47.toNat).To).toNat < n2.length] hB ⟨⟨(by omega), (by omega)⟩, (by omega), ⟨(by omega), (by omega)⟩, (by omega), (inR_i64 (by omega) (by omega)), ⟨(by omega), (by omega)⟩, (by omega), trivial⟩ ?_
      refine aw_r [] [1, 2, 5, 7, 8, 10, 28, 29, 45, 46, 47] [2, 15, 34] [Sv w, .ref 2 0, .arr 15, I t29, .arr 34, Bv true, I (w.size : Int), I t29, slEdge false l.Edges, I (l.Edges.length : Int), I t47] [some (bxLattice l), some (.arr 1 c2.length (fI c2)), some (.arr 1 n2.length (fun q => bif Nat.beq q (((at_ l.Edges t47.toNat).To).toNat) then [I (min (at_ n2 (((at_ l.Edges t47.toNat).To).toNat)) ((at_ c2 (((at_ l.Edges t47.toNat).From).toNat)) + ((at_ l.Edges t47.toNat).Cost)))] else (fI n2) q))] [] hB trivial ?_
      refine ae_block 7 ?_
      refine ae_then ?_
      refine aw_r [] [1, 2, 5, 7, 8, 10, 28, 29, 45, 46, 47] [2, 15, 34] [Sv w, .ref 2 0, .arr 15, I t29, .arr 34, Bv true, I (w.size : Int), I t29, slEdge false l.Edges, I (l.Edges.length : Int), I (t47 + 1)] [some (bxLattice l), some (.arr 1 c2.length (fI c2)), some (.arr 1 n2.length (fun q => bif Nat.beq q (((at_ l.Edges t47.toNat).To).toNat) then [I (min (at_ n2 (((at_ l.Edges t47.toNat).To).toNat)) ((at_ c2 (((at_ l.Edges t47.toNat).From).toNat)) + ((at_ l.Edges t47.toNat).Cost)))] else (fI n2) q))] [inR .i64 (t47 + 1)] hB ⟨(inR_i64 (by omega) (by omega)), trivial⟩ ?_
      refine ae_weak hB [] (T := [(1, Sv w), (2, .ref 2 0), (5, .arr 15), (7, I t29), (8, .arr 34), (10, Bv true), (28, I (w.size : Int)), (29, I t29), (45, slEdge false l.Edges), (46, I (l.Edges.length : Int)), (47, I (t47 + 1))]) (O := [(2, bxLattice l), (15, .arr 1 c2.length (fI c2)), (34, .arr 1 ((n2.set (((at_ l.Edges t47.toNat).To).toNat) (min (at_ n2 (((at_ l.Edges t47.toNat).To).toNat)) ((at_ c2 (((at_ l.Edges t47.toNat).From).toNat)) + ((at_ l.Edges t47.toNat).Cost)))).length) (fI (n2.set (((at_ l.Edges t47.toNat).To).toNat) (min (at_ n2 (((at_ l.Edges t47.toNat).To).toNat)) ((at_ c2 (((at_ l.Edges t47.toNat).From).toNat)) + ((at_ l.Edges t47.toNat).Cost))))))]) rfl (⟨.inl rfl, .inl rfl, .inl rfl, .inl rfl, .inl rfl, .inl rfl, .inl rfl, .inl rfl, .inl rfl, .inl rfl, .inl rfl, trivial⟩) (⟨.inl rfl, .inl rfl, .inr ⟨rfl, (by first | rfl | (simp; done) | (simp; omega) | omega), fun i_ hi_ => .inl (upd_enc (enc := cI) rfl i_ hi_)⟩, trivial⟩) (ae_again _ (by omega) ⟨true, (t47 + 1), (n2.set (((at_ l.Edges t47.toNat).To).toNat) (min (at_ n2 (((at_ l.Edges t47.toNat).To).toNat)) ((at_ c2 (((at_ l.Edges t47.toNat).From).toNat)) + ((at_ l.Edges t47.toNat).Cost)))), rfl, (by omega), (by rw [show (t47 + 1).toNat = t47.toNat + 1 from by omega]; show _ = (if _ then _ else _); rw [← hn2]; first | (rw [if_pos ⟨by assumption, by assumption⟩]; done) | (rw [if_neg (fun q => absurd q.1 (by assumption))]; done) | (rw [if_neg (fun q => absurd q.2 (by assumption))]; done)), rfl⟩)
     refine aw_r [(7, .dec true), (14, .dec false)] [1, 2, 5, 7, 8, 10, 12, 28, 29, 45, 46, 47, 66] [2, 12, 15, 34] [Sv w, .ref 2 0, .arr 15, I t29, .arr 34, Bv alive, .ref 12 0, I (w.size : Int), I t29, slEdge false l.Edges, I (l.Edges.length : Int), I t47, Bv false] [some (bxLattice l), some (bxEdge (at_ l.Edges t47.toNat)), some (.arr 1 c2.length (fI c2)), some (.arr 1 n2.length (fI n2))] [inR .i64 (t29 + 1), (0 : Int) ≤ t29 ∧ t29 ≤ (t29 + 1) ∧ (t29 + 1) ≤ (w.size : Int), ((at_ l.Edges t47.toNat).Label) = (w.extract t29.toNat (t29 + 1).toNat), (0 : Int) ≤ ((at_ l.Edges t47.toNat).From) ∧ ((at_ l.Edges t47.toNat).From) < (c2.length : Int), ((at_ l.Edges t47.toNat).From).toNat < c2.length, ¬ ((at_ c2 (((at_ l.Edges t47.toNat).From).toNat)) < 1099511627776)] hB ⟨(inR_i64 (by omega) (by omega)), ⟨(by omega), (by omega), (by omega)⟩, h5, ⟨(by omega), (by omega)⟩, (by omega), h6, trivial⟩ ?_
     refine ae_then ?_
     refine aw_false rfl ?_
     refine aw_skip ?_
     refine ae_block 7 ?_
     refine ae_then ?_
     refine aw_r [] [1, 2, 5, 7, 8, 10, 28, 29, 45, 46, 47] [2, 15, 34] [Sv w, .ref 2 0, .arr 15, I t29, .arr 34, Bv alive, I (w.size : Int), I t29, slEdge false l.Edges, I (l.Edges.length : Int), I (t47 + 1)] [some (bxLattice l), some (.arr 1 c2.length (fI c2)), some (.arr 1 n2.length (fI n2))] [inR .i64 (t47 + 1)] hB ⟨(inR_i64 (by omega) (by omega)), trivial⟩ ?_
     exact ae_again _ (by omega) ⟨alive, (t47 + 1), n2, rfl, (by omega), (by rw [show (t47 + 1).toNat = t47.toNat + 1 from by omega]; show _ = (if _ then _ else _); rw [← hn2]; first | (rw [if_pos ⟨by assumption, by assumption⟩]; done) | (rw [if_neg (fun q => absurd q.1 (by assumption))]; done) | (rw [if_neg (fun q => absurd q.2 (by assumption))]; done)), rfl⟩
    have hlb := h5
    rw [show w.extract t29.toNat (t29 + 1).toNat = chA w t29.toNat from by rw [show (t29 + 1).toNat = t29.toNat + 1 from by omega]; rfl] at hlb
    refine aw_r [(7, .dec false)] [1, 2, 5, 7, 8, 10, 12, 28, 29, 45, 46, 47, 66] [2, 12, 15, 34] [Sv w, .ref 2 0, .arr 15, I t29, .arr 34, Bv alive, .ref 12 0, I (w.size : Int), I t29, slEdge false l.Edges, I (l.Edges.length : Int), I t47, Bv false] [some (bxLattice l), some (bxEdge (at_ l.Edges t47.toNat)), some (.arr 1 c2.length (fI c2)), some (.arr 1 n2.length (fI n2))] [inR .i64 (t29 + 1), (0 : Int) ≤ t29 ∧ t29 ≤ (t29 + 1) ∧ (t29 + 1) ≤ (w.size : Int), ¬ (((at_ l.Edges t47.toNat).Label) = (w.extract t29.toNat (t29 + 1).toNat))] hB ⟨(inR_i64 (by omega) (by omega)), ⟨(by omega), (by omega), (by omega)⟩, h5, trivial⟩ ?_
    refine ae_then ?_
    refine aw_false rfl ?_
    refine aw_skip ?_
    refine ae_block 7 ?_
    refine ae_then ?_
    refine aw_r [] [1, 2, 5, 7, 8, 10, 28, 29, 45, 46, 47] [2, 15, 34] [Sv w, .ref 2 0, .arr 15, I t29, .arr 34, Bv alive, I (w.size : Int), I t29, slEdge false l.Edges, I (l.Edges.length : Int), I (t47 + 1)] [some (bxLattice l), some (.arr 1 c2.length (fI c2)), some (.arr 1 n2.length (fI n2))] [inR .i64 (t47 + 1)] hB ⟨(inR_i64 (by omega) (by omega)), trivial⟩ ?_
    exact ae_again _ (by omega) ⟨alive, (t47 + 1), n2, rfl, (by omega), (by rw [show (t47 + 1).toNat = t47.toNat + 1 from by omega]; show _ = (if _ then _ else _); rw [← hn2]; first | (rw [if_pos ⟨by assumption, by assumption⟩]; done) | (rw [if_neg (fun q => absurd q.1 (by assumption))]; done) | (rw [if_neg (fun q => absurd q.2 (by assumption))]; done)), rfl⟩
   have hie : t47.toNat = l.Edges.length := by omega
   refine aw_r [(0, .dec false)] [1, 2, 5, 7, 8, 10, 28, 29, 45, 46, 47, 48] [2, 15, 34] [Sv w, .ref 2 0, .arr 15, I t29, .arr 34, Bv alive, I (w.size : Int), I t29, slEdge false l.Edges, I (l.Edges.length : Int), I t47, Bv false] [some (bxLattice l), some (.arr 1 c2.length (fI c2)), some (.arr 1 n2.length (fI n2))] [¬ (t47 < (l.Edges.length : Int))] hB ⟨h4, trivial⟩ ?_
   refine ae_then ?_
   refine aw_seq ?_
   refine aw_false rfl ?_
   refine aw_exit ?_
   refine ae_exit_then ?_
   refine ae_exit_then ?_
   refine ae_exit_same ?_
   refine ae_then ?_
   refine aw_seq ?_
   refine aw_seq ?_
   rcases Bool.eq_false_or_eq_true alive with h7 | h7
   ·subst h7
    refine aw_r [] [1, 2, 8, 28, 29, 87] [2, 34] [Sv w, .ref 2 0, .arr 34, I (w.size : Int), I t29, Bv false] [some (bxLattice l), some (.arr 1 n2.length (fI n2))] [] hB trivial ?_
    refine ae_then ?_
    refine aw_false rfl ?_
    refine aw_skip ?_
    refine ae_then ?_
    refine aw_r [] [1, 2, 5, 28, 29] [2, 34] [Sv w, .ref 2 0, .arr 34, I (w.size : Int), I t29] [some (bxLattice l), some (.arr 1 n2.length (fI n2))] [] hB trivial ?_
    refine ae_block 3 ?_
    refine ae_then ?_
    refine aw_r [] [1, 2, 5, 28, 29] [2, 34] [Sv w, .ref 2 0, .arr 34, I (w.size : Int), I (t29 + 1)] [some (bxLattice l), some (.arr 1 n2.length (fI n2))] [inR .i64 (t29 + 1)] hB ⟨(inR_i64 (by omega) (by omega)), trivial⟩ ?_
    refine ae_weak hB [(15, 34)] (T := [(1, Sv w), (2, .ref 2 0), (5, .arr 15), (28, I (w.size : Int)), (29, I (t29 + 1))]) (O := [(2, bxLattice l), (15, .arr 1 n2.length (fI n2))]) rfl (⟨.inl rfl, .inl rfl, .inl rfl, .inl rfl, .inl rfl, trivial⟩) (⟨.inl rfl, .inl rfl, trivial⟩) (ae_again _ (by omega) ⟨n2, (t29 + 1), rfl, (by omega), (by rw [show (t29 + 1).toNat = t29.toNat + 1 from by omega]; show _ = (rowE l (tcRow l w t29.toNat) (chA w t29.toNat) l.Edges.length).1; rw [← hc2, ← hie, ← hn2]), (by intro j hj; by_cases ej : j = t29.toNat; (subst ej; show (rowE l (tcRow l w t29.toNat) (chA w t29.toNat) l.Edges.length).2 = true; rw [← hc2, ← hie, ← hn2]); exact hal j (by omega)), rfl⟩)
   subst h7
   refine aw_r [] [1, 2, 8, 28, 29, 87] [2, 34] [Sv w, .ref 2 0, .arr 34, I (w.size : Int), I t29, Bv true] [some (bxLattice l), some (.arr 1 n2.length (fI n2))] [] hB trivial ?_
   refine ae_then ?_
   refine aw_true rfl ?_
   refine aR [] [4] [] [I 1099511627776] [] [] hB trivial ?_
   refine aw_ret ?_
   refine ae_ret_then (ae_ret_block (ae_ret_then (ae_ret_then (ae_ret_block (ae_ret_then ?_)))))
   refine ae_ret hB (I 1099511627776) (by kernel_rfl) (.inl (by refine congrArg I ?_; first | (unfold tcF; rw [if_pos (anyN_at hi9 (by show (!(rowE l (tcRow l w t29.toNat) _ _).2) = true; rw [← hc2, ← hie, ← hn2]; rfl))]; done) | (unfold tcF; rw [if_neg (by rw [anyN_none (fun j hj => by rw [hal j (by omega)]; rfl)]; decide), ← hie9, ← hc2]; done))) rfl (fun _ => trivial)
  have hie9 : t29.toNat = w.size := by omega
  have hrow := tcRow_ok hl w t29.toNat
  rw [← hc2] at hrow
  have hrl := hrow.1
  refine aw_r [(0, .dec false)] [1, 2, 5, 28, 29, 30] [2, 15] [Sv w, .ref 2 0, .arr 15, I (w.size : Int), I t29, Bv false] [some (bxLattice l), some (.arr 1 c2.length (fI c2))] [¬ (t29 < (w.size : Int))] hB ⟨h2, trivial⟩ ?_
  refine ae_then ?_
  refine aw_seq ?_
  refine aw_false rfl ?_
  refine aw_exit ?_
  refine ae_exit_then ?_
  refine ae_exit_then ?_
  refine ae_exit_same ?_
  refine ae_then ?_
  refine aR [] [4] [] [I (at_ c2 ((l.Nodes - 1).toNat))] [] [inR .i64 (l.Nodes - 1), (0 : Int) ≤ (l.Nodes - 1) ∧ (l.Nodes - 1) < (c2.length : Int), (l.Nodes - 1).toNat < c2.length] hB ⟨(inR_i64 (by omega) (by omega)), ⟨(by omega), (by omega)⟩, (by omega), trivial⟩ ?_
  refine aw_ret ?_
  refine ae_ret hB (I (at_ c2 ((l.Nodes - 1).toNat))) (by kernel_rfl) (.inl (by refine congrArg I ?_; first | (unfold tcF; rw [if_pos (anyN_at hi9 (by show (!(rowE l (tcRow l w t29.toNat) _ _).2) = true; rw [← hc2, ← hie, ← hn2]; rfl))]; done) | (unfold tcF; rw [if_neg (by rw [anyN_none (fun j hj => by rw [hal j (by omega)]; rfl)]; decide), ← hie9, ← hc2]; done))) rfl (fun _ => trivial)


theorem bs_lo {α : Type} [Inhabited α] {d : α → α → Int} (hw : CmpW d) {xs : List α} {e : α} (hp : xs.Pairwise fun x y => d x y < 0) {k h : Nat} (hk : k < h) (hh : h < xs.length) (hc : d (at_ xs h) e < 0) : d (at_ xs k) e < 0 :=
  hw.trans _ _ _ (by have := pw_get hp hk hh; omega) hc
theorem bs_hi {α : Type} [Inhabited α] {d : α → α → Int} (hw : CmpW d) {xs : List α} {e : α} (hp : xs.Pairwise fun x y => d x y < 0) {k h : Nat} (hk : k < h) (hh : h < xs.length) (hc : ¬ d (at_ xs k) e < 0) : ¬ d (at_ xs h) e < 0 := fun q => hc (bs_lo hw hp hk hh q)
theorem bs_no {α : Type} [Inhabited α] {d : α → α → Int} (hw : CmpW d) {xs : List α} {e : α} (hp : xs.Pairwise fun x y => d x y < 0) {a : Nat} (h1 : ∀ k : Nat, k < a → d (at_ xs k) e < 0) (h3 : ∀ k : Nat, a ≤ k → k < xs.length → ¬ d (at_ xs k) e < 0) (h2 : ¬ (a < xs.length ∧ d (at_ xs a) e = 0)) : ∀ j : Nat, j < xs.length → d (at_ xs j) e ≠ 0 := fun j hj q => by
  by_cases c1 : j < a
  · have := h1 j c1; omega
  · by_cases c2 : j = a
    · subst c2; exact h2 ⟨hj, q⟩
    · have n1 := h3 a (Nat.le_refl _) (by omega)
      have n2 : d (at_ xs a) e ≠ 0 := fun z => h2 ⟨by omega, z⟩
      have p := pw_get hp (show a < j by omega) hj
      have a1 := hw.anti e (at_ xs a)
      have a2 := hw.anti e (at_ xs j)
      have := hw.trans e (at_ xs a) (at_ xs j) (by omega) p
      omega

/-- The cost of a word behind another. -/
def pcM (m : Model) (a b : ByteArray) : Int := match m.Bigrams.find? (fun g => decide (g.First = a ∧ g.Second = b)) with
  | some g => g.Cost
  | none => m.Default
theorem find_at {α : Type} [Inhabited α] {xs : List α} {p : α → Bool} {k : Nat} (hk : k < xs.length) (h : p (at_ xs k) = true) (hn : ∀ j : Nat, j < k → ¬ p (at_ xs j) = true) : xs.find? p = some (at_ xs k) := by
  rw [at_eq hk] at *
  rw [List.find?_eq_some_iff_getElem]
  refine ⟨h, k, hk, rfl, fun j hj => ?_⟩
  have := hn j hj
  rw [at_eq (by omega)] at this
  simpa using this
theorem find_no {α : Type} [Inhabited α] {xs : List α} {p : α → Bool} (hn : ∀ j : Nat, j < xs.length → ¬ p (at_ xs j) = true) : xs.find? p = none := by
  rw [List.find?_eq_none]
  intro x hx
  obtain ⟨j, hj, q⟩ := List.getElem_of_mem hx
  have := hn j hj
  rwa [at_eq hj, q] at this
theorem pc_hit {m : Model} {a b : ByteArray} {c : Int} {k : Nat} (hp : m.Bigrams.Pairwise fun x y => cmpG x y < 0) (hk : k < m.Bigrams.length) (h : cmpG (at_ m.Bigrams k) (Bigram.mk a b c) = 0) : pcM m a b = (at_ m.Bigrams k).Cost := by
  have e : m.Bigrams.find? (fun g => decide (g.First = a ∧ g.Second = b)) = some (at_ m.Bigrams k) := find_at hk (decide_eq_true (cmpG_zero.1 h)) fun j hj q => by
    have z := cmpG_zero.2 (show (at_ m.Bigrams j).First = (Bigram.mk a b c).First ∧ (at_ m.Bigrams j).Second = (Bigram.mk a b c).Second from of_decide_eq_true q)
    have := bs_lo cmpG_w hp hj hk (e := Bigram.mk a b c)
    have p := pw_get hp hj hk
    have h2 := cmpG_zero.1 h
    have h3 := cmpG_zero.1 z
    have : cmpG (at_ m.Bigrams j) (at_ m.Bigrams k) = 0 := cmpG_zero.2 ⟨h3.1.trans h2.1.symm, h3.2.trans h2.2.symm⟩
    omega
  unfold pcM; rw [e]
theorem pc_no {m : Model} {a b : ByteArray} {c : Int} (h : ∀ j : Nat, j < m.Bigrams.length → cmpG (at_ m.Bigrams j) (Bigram.mk a b c) ≠ 0) : pcM m a b = m.Default := by
  unfold pcM; rw [find_no fun j hj q => h j hj (cmpG_zero.2 (of_decide_eq_true q))]
theorem pc_bd {m : Model} (h : okMod m) (a b : ByteArray) : 0 ≤ pcM m a b ∧ pcM m a b ≤ 1000000 := by
  unfold pcM
  split
  · rename_i g e
    exact (h.2.2.1 g (List.mem_of_find?_eq_some e)).2.2
  · exact h.1

-- impl.pairCost
theorem bsBig_ok (xs : List Bigram) (target : Bigram) (hp : xs.Pairwise fun x_ y_ => cmpG x_ y_ < 0) (hll : xs.length ≤ 1000) : ∃ (pl : Int) (found : Bool), (0 ≤ pl ∧ pl ≤ (xs.length : Int)) ∧ (found = true → pl < (xs.length : Int) ∧ cmpG (at_ xs pl.toNat) target = 0) ∧ (found = false → ∀ j : Nat, j < xs.length → cmpG (at_ xs j) target ≠ 0) ∧ Con Try.prog 69 [slBigram false xs, agBigram target, .fn 67 []] true (.tup [I pl, Bv found]) := by
  have hh : ∃ r : Int × Bool, ((0 ≤ r.1 ∧ r.1 ≤ (xs.length : Int)) ∧ (r.2 = true → r.1 < (xs.length : Int) ∧ cmpG (at_ xs r.1.toNat) target = 0) ∧ (r.2 = false → ∀ j : Nat, j < xs.length → cmpG (at_ xs j) target ≠ 0) ∧ (True)) ∧ CallOK Try.prog 69 [slBigram false xs, agBigram target, .fn 67 []] (lookO []) true (.tup [I r.1, Bv r.2]) (lookO []) := by
    refine fn_okX (Φ := fun r : Int × Bool => (0 ≤ r.1 ∧ r.1 ≤ (xs.length : Int)) ∧ (r.2 = true → r.1 < (xs.length : Int) ∧ cmpG (at_ xs r.1.toNat) target = 0) ∧ (r.2 = false → ∀ j : Nat, j < xs.length → cmpG (at_ xs j) target ≠ 0) ∧ (True)) [] (fun r => []) (fn := Try.f69) (nt := 49) Try.func69 rfl rfl (args := [slBigram false xs, agBigram target, .fn 67 []]) rfl (allcons (.inl ⟨rfl, tagBigram false _⟩) (allcons (.inl ⟨rfl, by simp [tagged, taggedL]⟩) (allcons (.inl ⟨rfl, trivial⟩) allnil))) (res := fun r => .tup [I r.1, Bv r.2]) ?_
    refine xR [(0, .new 4)] [0, 2, 4] [4] [slBigram false xs, .fn 67 [], .ref 4 0] [some (bxBigram target)] [] trivial ?_
    refine xR [] [0, 2, 4, 8] [4] [slBigram false xs, .fn 67 [], .ref 4 0, I (xs.length : Int)] [some (bxBigram target)] [] trivial ?_
    refine xR [] [0, 2, 4, 8, 9, 10] [4] [slBigram false xs, .fn 67 [], .ref 4 0, I (xs.length : Int), I 0, I (xs.length : Int)] [some (bxBigram target)] [] trivial ?_
    refine x_seq ?_
    refine x_block ?_
    refine x_loop (X := Int × Int) (fun x => mkS [(0, slBigram false xs), (2, .fn 67 []), (4, .ref 4 0), (8, I (xs.length : Int)), (9, I x.1), (10, I x.2)] [(4, bxBigram target)]) (fun x => (0 ≤ x.1 ∧ x.1 ≤ x.2 ∧ x.2 ≤ (xs.length : Int)) ∧ (∀ k : Nat, (k : Int) < x.1 → cmpG (at_ xs k) target < 0) ∧ (∀ k : Nat, x.2 ≤ (k : Int) → k < xs.length → ¬ cmpG (at_ xs k) target < 0) ∧ True) (fun x => (x.2 - x.1).toNat) (0, (xs.length : Int)) rfl (show (0 ≤ (0 : Int) ∧ (0 : Int) ≤ (xs.length : Int) ∧ (xs.length : Int) ≤ (xs.length : Int)) ∧ (∀ k : Nat, (k : Int) < (0 : Int) → cmpG (at_ xs k) target < 0) ∧ (∀ k : Nat, (xs.length : Int) ≤ (k : Int) → k < xs.length → ¬ cmpG (at_ xs k) target < 0) ∧ True from ⟨(by omega), (by intro k hk; omega), (by intro k h1 h2; omega), trivial⟩) (fun x hI => ?_)
    obtain ⟨i, j⟩ := x
    obtain ⟨hi0, hlo, hhi, _⟩ : (0 ≤ i ∧ i ≤ j ∧ j ≤ (xs.length : Int)) ∧ (∀ k : Nat, (k : Int) < i → cmpG (at_ xs k) target < 0) ∧ (∀ k : Nat, j ≤ (k : Int) → k < xs.length → ¬ cmpG (at_ xs k) target < 0) ∧ True := hI
    show XW _ _ _ _ (mkS [(0, slBigram false xs), (2, .fn 67 []), (4, .ref 4 0), (8, I (xs.length : Int)), (9, I i), (10, I j)] [(4, bxBigram target)]) _ _
    refine x_seq ?_
    refine x_seq ?_
    by_cases h1 : i < j
    ·have hij : i < j := h1
     refine x_r [(2, .dec true)] [0, 2, 4, 8, 9, 10, 17] [4] [slBigram false xs, .fn 67 [], .ref 4 0, I (xs.length : Int), I i, I j, Bv true] [some (bxBigram target)] [i < j] ⟨h1, trivial⟩ ?_
     refine xe_then ?_
     refine x_true rfl ?_
     refine x_skip ?_
     refine xe_then ?_
     refine x_block ?_
     refine xR [] [0, 2, 4, 8, 9, 10, 11] [4] [slBigram false xs, .fn 67 [], .ref 4 0, I (xs.length : Int), I i, I j, I ((i + j) / 2)] [some (bxBigram target)] [inR .i64 (i + j), inR .u64 (i + j), (0 : Int) ≤ 1 ∧ (1 : Int) ≤ ((IntKind.bits .u64 : Nat) : Int), inR .i64 ((i + j) / 2)] ⟨(inR_i64 (by omega) (by omega)), (inR_u64 (by omega) (by omega)), ⟨(by decide), (by decide)⟩, (inR_i64 (by omega) (by omega)), trivial⟩ ?_
     refine x_seq ?_
     by_cases h2 : (cmpG (at_ xs (((i + j) / 2).toNat)) target) < 0
     ·refine x_r [(6, .call [(true, .any), (true, .any)] true (I (cmpG (at_ xs (((i + j) / 2).toNat)) target))), (7, .dec true)] [0, 2, 4, 8, 9, 10, 11, 31] [4] [slBigram false xs, .fn 67 [], .ref 4 0, I (xs.length : Int), I i, I j, I ((i + j) / 2), Bv true] [some (bxBigram target)] [(0 : Int) ≤ ((i + j) / 2) ∧ ((i + j) / 2) < (xs.length : Int), Con Try.prog 67 [agBigram (at_ xs (((i + j) / 2).toNat)), agBigram target] true (I (cmpG (at_ xs (((i + j) / 2).toNat)) target)) ∧ True, (cmpG (at_ xs (((i + j) / 2).toNat)) target) < 0] ⟨⟨(by omega), (by omega)⟩, ⟨(compareBigrams_ok (at_ xs (((i + j) / 2).toNat)) target), trivial⟩, h2, trivial⟩ ?_
      refine xe_then ?_
      refine x_true rfl ?_
      refine x_r [] [0, 2, 4, 8, 9, 10] [4] [slBigram false xs, .fn 67 [], .ref 4 0, I (xs.length : Int), I (((i + j) / 2) + 1), I j] [some (bxBigram target)] [inR .i64 (((i + j) / 2) + 1)] ⟨(inR_i64 (by omega) (by omega)), trivial⟩ ?_
      refine xe_block 1 ?_
      exact xe_again ((((i + j) / 2) + 1), j) rfl (show (0 ≤ (((i + j) / 2) + 1) ∧ (((i + j) / 2) + 1) ≤ j ∧ j ≤ (xs.length : Int)) ∧ (∀ k : Nat, (k : Int) < (((i + j) / 2) + 1) → cmpG (at_ xs k) target < 0) ∧ (∀ k : Nat, j ≤ (k : Int) → k < xs.length → ¬ cmpG (at_ xs k) target < 0) ∧ True from ⟨(by omega), (by first | exact hlo | (intro k hk; by_cases ek : (k : Int) = (i + j) / 2; (rw [show k = ((i + j) / 2).toNat from by omega]; assumption); exact bs_lo cmpG_w hp (k := k) (h := ((i + j) / 2).toNat) (by omega) (by omega) (by assumption))), (by first | exact hhi | (intro k hk1 hk2; by_cases ek : (k : Int) = (i + j) / 2; (rw [show k = ((i + j) / 2).toNat from by omega]; assumption); exact bs_hi cmpG_w hp (k := ((i + j) / 2).toNat) (h := k) (by omega) hk2 (by assumption))), trivial⟩) (by first | (show ((j - (((i + j) / 2) + 1)).toNat : Nat) < (j - i).toNat; omega) | (dsimp only; omega))
     refine x_r [(6, .call [(true, .any), (true, .any)] true (I (cmpG (at_ xs (((i + j) / 2).toNat)) target))), (7, .dec false)] [0, 2, 4, 8, 9, 10, 11, 31] [4] [slBigram false xs, .fn 67 [], .ref 4 0, I (xs.length : Int), I i, I j, I ((i + j) / 2), Bv false] [some (bxBigram target)] [(0 : Int) ≤ ((i + j) / 2) ∧ ((i + j) / 2) < (xs.length : Int), Con Try.prog 67 [agBigram (at_ xs (((i + j) / 2).toNat)), agBigram target] true (I (cmpG (at_ xs (((i + j) / 2).toNat)) target)) ∧ True, ¬ ((cmpG (at_ xs (((i + j) / 2).toNat)) target) < 0)] ⟨⟨(by omega), (by omega)⟩, ⟨(compareBigrams_ok (at_ xs (((i + j) / 2).toNat)) target), trivial⟩, h2, trivial⟩ ?_
     refine xe_then ?_
     refine x_false rfl ?_
     refine x_r [] [0, 2, 4, 8, 9, 10] [4] [slBigram false xs, .fn 67 [], .ref 4 0, I (xs.length : Int), I i, I ((i + j) / 2)] [some (bxBigram target)] [] trivial ?_
     refine xe_block 1 ?_
     exact xe_again (i, ((i + j) / 2)) rfl (show (0 ≤ i ∧ i ≤ ((i + j) / 2) ∧ ((i + j) / 2) ≤ (xs.length : Int)) ∧ (∀ k : Nat, (k : Int) < i → cmpG (at_ xs k) target < 0) ∧ (∀ k : Nat, ((i + j) / 2) ≤ (k : Int) → k < xs.length → ¬ cmpG (at_ xs k) target < 0) ∧ True from ⟨(by omega), (by first | exact hlo | (intro k hk; by_cases ek : (k : Int) = (i + j) / 2; (rw [show k = ((i + j) / 2).toNat from by omega]; assumption); exact bs_lo cmpG_w hp (k := k) (h := ((i + j) / 2).toNat) (by omega) (by omega) (by assumption))), (by first | exact hhi | (intro k hk1 hk2; by_cases ek : (k : Int) = (i + j) / 2; (rw [show k = ((i + j) / 2).toNat from by omega]; assumption); exact bs_hi cmpG_w hp (k := ((i + j) / 2).toNat) (h := k) (by omega) hk2 (by assumption))), trivial⟩) (by first | (show ((((i + j) / 2) - i).toNat : Nat) < (j - i).toNat; omega) | (dsimp only; omega))
    refine x_r [(2, .dec false)] [0, 2, 4, 8, 9, 10, 17] [4] [slBigram false xs, .fn 67 [], .ref 4 0, I (xs.length : Int), I i, I j, Bv false] [some (bxBigram target)] [¬ (i < j)] ⟨h1, trivial⟩ ?_
    refine xe_then ?_
    refine x_false rfl ?_
    refine x_exit ?_
    refine xe_exit_then ?_
    refine xe_loop_exit ?_
    refine xe_exit_same ?_
    refine xe_then ?_
    refine x_seq ?_
    by_cases h3 : i < (xs.length : Int)
    ·refine x_r [(3, .dec true), (11, .call [(true, .any), (true, .any)] true (I (cmpG (at_ xs i.toNat) target)))] [6, 7] [] [I i, Bv (decide ((cmpG (at_ xs i.toNat) target) = 0))] [] [i < (xs.length : Int), (0 : Int) ≤ i ∧ i < (xs.length : Int), Con Try.prog 67 [agBigram (at_ xs i.toNat), agBigram target] true (I (cmpG (at_ xs i.toNat) target)) ∧ True] ⟨h3, ⟨(by omega), (by omega)⟩, ⟨(compareBigrams_ok (at_ xs i.toNat) target), trivial⟩, trivial⟩ ?_
     refine xe_then ?_
     refine x_ret ?_
     refine xe_end (i, decide ((cmpG (at_ xs i.toNat) target) = 0)) (show (0 ≤ i ∧ i ≤ (xs.length : Int)) ∧ ((decide ((cmpG (at_ xs i.toNat) target) = 0)) = true → i < (xs.length : Int) ∧ cmpG (at_ xs i.toNat) target = 0) ∧ ((decide ((cmpG (at_ xs i.toNat) target) = 0)) = false → ∀ j : Nat, j < xs.length → cmpG (at_ xs j) target ≠ 0) ∧ (True) from ⟨(by first | omega | exact fun q => ⟨by omega, of_decide_eq_true q⟩ | exact fun q => absurd q (by decide) | exact fun q => bs_no cmpG_w hp (a := i.toNat) (fun k hk => hlo k (by omega)) (fun k h1 h2 => hhi k (by omega) h2) (fun z => absurd z.2 (of_decide_eq_false q)) | exact fun _ => bs_no cmpG_w hp (a := i.toNat) (fun k hk => hlo k (by omega)) (fun k h1 h2 => hhi k (by omega) h2) (fun z => absurd z.1 (by omega))), (by first | omega | exact fun q => ⟨by omega, of_decide_eq_true q⟩ | exact fun q => absurd q (by decide) | exact fun q => bs_no cmpG_w hp (a := i.toNat) (fun k hk => hlo k (by omega)) (fun k h1 h2 => hhi k (by omega) h2) (fun z => absurd z.2 (of_decide_eq_false q)) | exact fun _ => bs_no cmpG_w hp (a := i.toNat) (fun k hk => hlo k (by omega)) (fun k h1 h2 => hhi k (by omega) h2) (fun z => absurd z.1 (by omega))), (by first | omega | exact fun q => ⟨by omega, of_decide_eq_true q⟩ | exact fun q => absurd q (by decide) | exact fun q => bs_no cmpG_w hp (a := i.toNat) (fun k hk => hlo k (by omega)) (fun k h1 h2 => hhi k (by omega) h2) (fun z => absurd z.2 (of_decide_eq_false q)) | exact fun _ => bs_no cmpG_w hp (a := i.toNat) (fun k hk => hlo k (by omega)) (fun k h1 h2 => hhi k (by omega) h2) (fun z => absurd z.1 (by omega))), trivial⟩) (trivial) (.tup [I i, Bv (decide ((cmpG (at_ xs i.toNat) target) = 0))]) (by kernel_rfl) (.inl rfl) (fun _ => rfl) (fun _ => (by simp [tagged, taggedL]))
    refine x_r [(3, .dec false)] [6, 7] [] [I i, Bv false] [] [¬ (i < (xs.length : Int))] ⟨h3, trivial⟩ ?_
    refine xe_then ?_
    refine x_ret ?_
    refine xe_end (i, false) (show (0 ≤ i ∧ i ≤ (xs.length : Int)) ∧ (false = true → i < (xs.length : Int) ∧ cmpG (at_ xs i.toNat) target = 0) ∧ (false = false → ∀ j : Nat, j < xs.length → cmpG (at_ xs j) target ≠ 0) ∧ (True) from ⟨(by first | omega | exact fun q => ⟨by omega, of_decide_eq_true q⟩ | exact fun q => absurd q (by decide) | exact fun q => bs_no cmpG_w hp (a := i.toNat) (fun k hk => hlo k (by omega)) (fun k h1 h2 => hhi k (by omega) h2) (fun z => absurd z.2 (of_decide_eq_false q)) | exact fun _ => bs_no cmpG_w hp (a := i.toNat) (fun k hk => hlo k (by omega)) (fun k h1 h2 => hhi k (by omega) h2) (fun z => absurd z.1 (by omega))), (by first | omega | exact fun q => ⟨by omega, of_decide_eq_true q⟩ | exact fun q => absurd q (by decide) | exact fun q => bs_no cmpG_w hp (a := i.toNat) (fun k hk => hlo k (by omega)) (fun k h1 h2 => hhi k (by omega) h2) (fun z => absurd z.2 (of_decide_eq_false q)) | exact fun _ => bs_no cmpG_w hp (a := i.toNat) (fun k hk => hlo k (by omega)) (fun k h1 h2 => hhi k (by omega) h2) (fun z => absurd z.1 (by omega))), (by first | omega | exact fun q => ⟨by omega, of_decide_eq_true q⟩ | exact fun q => absurd q (by decide) | exact fun q => bs_no cmpG_w hp (a := i.toNat) (fun k hk => hlo k (by omega)) (fun k h1 h2 => hhi k (by omega) h2) (fun z => absurd z.2 (of_decide_eq_false q)) | exact fun _ => bs_no cmpG_w hp (a := i.toNat) (fun k hk => hlo k (by omega)) (fun k h1 h2 => hhi k (by omega) h2) (fun z => absurd z.1 (by omega))), trivial⟩) (trivial) (.tup [I i, Bv false]) (by kernel_rfl) (.inl rfl) (fun _ => rfl) (fun _ => (by simp [tagged, taggedL]))
  obtain ⟨⟨pl, found⟩, ⟨hh0, hh1, hh2, _⟩, hc⟩ := hh
  exact ⟨pl, found, hh0, hh1, hh2, hc⟩

theorem pairCost_ok (m : Model) (a : ByteArray) (b : ByteArray) (hmd : okMod m) : ∃ (v : Int), (v = pcM m a b) ∧ Con Try.prog 50 [agModel m, Sv a, Sv b] true (I v) := by
  have hc := hmd.2.1
  have hh : ∃ r : Int, ((r = pcM m a b) ∧ (True)) ∧ CallOK Try.prog 50 [agModel m, Sv a, Sv b] (lookO []) true (I r) (lookO []) := by
    refine fn_okX (Φ := fun r : Int => (r = pcM m a b) ∧ (True)) [] (fun r => []) (fn := Try.f50) (nt := 28) Try.func50 rfl rfl (args := [agModel m, Sv a, Sv b]) rfl (allcons (.inl ⟨rfl, by simp [tagged, taggedL, tagBigram]⟩) (allcons (.inl ⟨rfl, trivial⟩) (allcons (.inl ⟨rfl, trivial⟩) allnil))) (res := fun r => I r) ?_
    refine xR [(0, .new 3)] [1, 2, 3] [3] [Sv a, Sv b, .ref 3 0] [some (bxModel m)] [] trivial ?_
    refine x_seq ?_
    obtain ⟨pl_1, found_1, hx1_0, hx1_1, hx1_2, hc1⟩ := bsBig_ok m.Bigrams (Bigram.mk a b 0) hmd.2.2.2 (by omega)
    have hb0 := hx1_0
    have hb1 := hx1_1
    have hb2 := hx1_2
    refine x_r [(5, .call [(true, .any), (true, .any), (true, .any)] true (.tup [I pl_1, Bv found_1]))] [3, 7, 8] [3] [.ref 3 0, I pl_1, Bv found_1] [some (bxModel m)] [Con Try.prog 69 [slBigram false m.Bigrams, .agg [Sv a, Sv b, I 0], .fn 67 []] true (.tup [I pl_1, Bv found_1]) ∧ True] ⟨⟨hc1, trivial⟩, trivial⟩ ?_
    refine xe_then ?_
    refine x_seq ?_
    refine x_seq ?_
    rcases Bool.eq_false_or_eq_true found_1 with h1 | h1
    ·subst h1
     have hb3 := hb1 rfl
     have hb4 := hb3.1
     refine x_r [] [3, 7, 19] [3] [.ref 3 0, I pl_1, Bv false] [some (bxModel m)] [] trivial ?_
     refine xe_then ?_
     refine x_false rfl ?_
     refine x_skip ?_
     refine xe_then ?_
     refine xR [] [6] [] [I ((at_ m.Bigrams pl_1.toNat).Cost)] [] [(0 : Int) ≤ pl_1 ∧ pl_1 < (m.Bigrams.length : Int)] ⟨⟨(by omega), (by omega)⟩, trivial⟩ ?_
     refine x_ret ?_
     refine xe_end ((at_ m.Bigrams pl_1.toNat).Cost) (show (((at_ m.Bigrams pl_1.toNat).Cost) = pcM m a b) ∧ (True) from ⟨(by first | exact (pc_hit hmd.2.2.2 (by omega) (hb1 rfl).2).symm | exact (pc_no (hb2 rfl)).symm), trivial⟩) (trivial) (I ((at_ m.Bigrams pl_1.toNat).Cost)) (by kernel_rfl) (.inl rfl) (fun _ => rfl) (fun _ => trivial)
    subst h1
    refine x_r [] [3, 7, 19] [3] [.ref 3 0, I pl_1, Bv true] [some (bxModel m)] [] trivial ?_
    refine xe_then ?_
    refine x_true rfl ?_
    refine xR [] [6] [] [I m.Default] [] [] trivial ?_
    refine x_ret ?_
    refine xe_ret_then ?_
    refine xe_end m.Default (show (m.Default = pcM m a b) ∧ (True) from ⟨(by first | exact (pc_hit hmd.2.2.2 (by omega) (hb1 rfl).2).symm | exact (pc_no (hb2 rfl)).symm), trivial⟩) (trivial) (I m.Default) (by kernel_rfl) (.inl rfl) (fun _ => rfl) (fun _ => trivial)
  obtain ⟨v, ⟨hh0, _⟩, hc⟩ := hh
  exact ⟨v, hh0, hc⟩


/-- The cost of words one behind the other, each behind the last. -/
def wcM (m : Model) (l : ByteArray) : List ByteArray → Int
  | [] => 0
  | w :: r => pcM m l w + wcM m w r
def lastW (l : ByteArray) (ws : List ByteArray) (k : Nat) : ByteArray := if k = 0 then l else at_ ws (k - 1)
/-- The cost of the first words. -/
def wcK (m : Model) (l : ByteArray) (ws : List ByteArray) : Nat → Int
  | 0 => 0
  | k + 1 => wcK m l ws k + pcM m (lastW l ws k) (at_ ws k)
theorem wcK_bd {m : Model} (h : okMod m) (l : ByteArray) (ws : List ByteArray) : ∀ k : Nat, 0 ≤ wcK m l ws k ∧ wcK m l ws k ≤ 1000000 * k
  | 0 => by simp [wcK]
  | k + 1 => by
    have := wcK_bd h l ws k
    have := pc_bd h (lastW l ws k) (at_ ws k)
    unfold wcK; omega
theorem wcK_cons (m : Model) (l w : ByteArray) (r : List ByteArray) : ∀ k : Nat, wcK m l (w :: r) (k + 1) = pcM m l w + wcK m w r k
  | 0 => by simp [wcK, lastW, at_]
  | k + 1 => by
    show wcK m l (w :: r) (k + 1) + pcM m (lastW l (w :: r) (k + 1)) (at_ (w :: r) (k + 1)) = pcM m l w + (wcK m w r k + pcM m (lastW w r k) (at_ r k))
    rw [wcK_cons m l w r k]
    have e1 : lastW l (w :: r) (k + 1) = lastW w r k := by
      unfold lastW; rw [if_neg (by omega)]
      cases k with
      | zero => rfl
      | succ n => rw [if_neg (by omega)]; simp [at_]
    have e2 : at_ (w :: r) (k + 1) = at_ r k := by simp [at_]
    rw [e1, e2]; omega
theorem wcK_all (m : Model) : ∀ (ws : List ByteArray) (l : ByteArray), wcK m l ws ws.length = wcM m l ws
  | [], l => rfl
  | w :: r, l => by rw [List.length_cons, wcK_cons, wcK_all m r w]; rfl

/-- The best of the first words behind a word. -/
def bwI (m : Model) (l : ByteArray) (ws : List wordAt) : Nat → wordAt × Bool
  | 0 => (⟨⟨#[]⟩, 0⟩, false)
  | k + 1 => if (bwI m l ws k).2 = false ∨ pcM m l (at_ ws k).word + (at_ ws k).cost < (bwI m l ws k).1.cost then (⟨(at_ ws k).word, pcM m l (at_ ws k).word + (at_ ws k).cost⟩, true) else bwI m l ws k
theorem bw_y {m : Model} {l : ByteArray} {ws : List wordAt} {k : Nat} {b : wordAt} {f : Bool} {p : Int} (hp : p = pcM m l (at_ ws k).word) (h : (b, f) = bwI m l ws k) (hc : f = false ∨ p + (at_ ws k).cost < b.cost) : ((⟨(at_ ws k).word, p + (at_ ws k).cost⟩ : wordAt), true) = bwI m l ws (k + 1) := by
  subst hp; show _ = (if _ then _ else _); rw [← h, if_pos hc]
theorem bw_n {m : Model} {l : ByteArray} {ws : List wordAt} {k : Nat} {b : wordAt} {f : Bool} {p : Int} (hp : p = pcM m l (at_ ws k).word) (h : (b, f) = bwI m l ws k) (hc : ¬ (f = false ∨ p + (at_ ws k).cost < b.cost)) : (b, f) = bwI m l ws (k + 1) := by
  subst hp; show _ = (if _ then _ else _); rw [← h, if_neg hc]

-- impl.bestWord
theorem bestWord_ok (m : Model) (last : ByteArray) (words : List wordAt) (hmd : okMod m) (hwc : ∀ w ∈ words, 0 ≤ w.cost ∧ w.cost ≤ 1000000000000) (hwl : words.length ≤ 1000) : ∃ (v : wordAt) (found : Bool), ((v, found) = bwI m last words words.length) ∧ Con Try.prog 27 [agModel m, Sv last, slwordAt false words] true (.tup [agwordAt v, Bv found]) := by
  have hh : ∃ r : wordAt × Bool, (((r.1, r.2) = bwI m last words words.length) ∧ (True)) ∧ CallOK Try.prog 27 [agModel m, Sv last, slwordAt false words] (lookO []) true (.tup [agwordAt r.1, Bv r.2]) (lookO []) := by
    refine fn_okX (Φ := fun r : wordAt × Bool => ((r.1, r.2) = bwI m last words words.length) ∧ (True)) [] (fun r => []) (fn := Try.f27) (nt := 43) Try.func27 rfl rfl (args := [agModel m, Sv last, slwordAt false words]) rfl (allcons (.inl ⟨rfl, by simp [tagged, taggedL, tagBigram]⟩) (allcons (.inl ⟨rfl, trivial⟩) (allcons (.inl ⟨rfl, tagwordAt false _⟩) allnil))) (res := fun r => .tup [agwordAt r.1, Bv r.2]) ?_
    refine xR [(0, .new 3), (1, .new 6)] [1, 2, 3, 6] [3, 6] [Sv last, slwordAt false words, .ref 3 0, .ref 6 0] [some (bxModel m), some (.box [Sv (⟨#[]⟩ : ByteArray), I 0])] [] trivial ?_
    refine xR [(1, .new 8)] [1, 2, 3, 6, 8, 9] [3, 6, 8] [Sv last, slwordAt false words, .ref 3 0, .ref 6 0, .ref 8 0, Bv false] [some (bxModel m), some (.box [Sv (⟨#[]⟩ : ByteArray), I 0]), some (.box [Sv (⟨#[]⟩ : ByteArray), I 0])] [] trivial ?_
    refine x_seq ?_
    refine xR [] [1, 3, 6, 8, 9, 14, 15, 16] [3, 6, 8] [Sv last, .ref 3 0, .ref 6 0, .ref 8 0, Bv false, slwordAt false words, I (words.length : Int), I 0] [some (bxModel m), some (.box [Sv (⟨#[]⟩ : ByteArray), I 0]), some (.box [Sv (⟨#[]⟩ : ByteArray), I 0])] [] trivial ?_
    refine x_block ?_
    refine x_weak [] (T := [(1, Sv last), (3, .ref 3 0), (6, .ref 6 0), (8, .ref 8 0), (9, Bv false), (14, slwordAt false words), (15, I (words.length : Int)), (16, I 0)]) (O := [(3, bxModel m), (6, .box [Sv (⟨#[]⟩ : ByteArray), I 0]), (8, .box [Sv ((wordAt.mk (⟨#[]⟩ : ByteArray) 0).word), I ((wordAt.mk (⟨#[]⟩ : ByteArray) 0).cost)])]) rfl (⟨.inl rfl, .inl rfl, .inl rfl, .inl rfl, .inl rfl, .inl rfl, .inl rfl, .inl rfl, trivial⟩) (⟨.inl rfl, .inl rfl, .inr ⟨(by first | rfl | (simp [valOf]; done) | (simp [valOf]; omega)), ⟨(by first | rfl | (simp [valOf]; done) | (simp [valOf]; omega)), rfl⟩⟩, trivial⟩) ?_
    refine x_loop (X := Bool × Int × wordAt) (fun x => mkS [(1, Sv last), (3, .ref 3 0), (6, .ref 6 0), (8, .ref 8 0), (9, Bv x.1), (14, slwordAt false words), (15, I (words.length : Int)), (16, I x.2.1)] [(3, bxModel m), (6, .box [Sv (⟨#[]⟩ : ByteArray), I 0]), (8, bxwordAt x.2.2)]) (fun x => (0 ≤ x.2.1 ∧ x.2.1 ≤ (words.length : Int)) ∧ ((x.2.2, x.1) = bwI m last words x.2.1.toNat) ∧ True) (fun x => ((words.length : Int) - x.2.1).toNat) (false, 0, (wordAt.mk (⟨#[]⟩ : ByteArray) 0)) rfl (show (0 ≤ (0 : Int) ∧ (0 : Int) ≤ (words.length : Int)) ∧ (((wordAt.mk (⟨#[]⟩ : ByteArray) 0), false) = bwI m last words (0 : Int).toNat) ∧ True from ⟨(by omega), (by rfl), trivial⟩) (fun x hI => ?_)
    obtain ⟨fd, t16, best⟩ := x
    obtain ⟨hi0, hbw, _⟩ : (0 ≤ t16 ∧ t16 ≤ (words.length : Int)) ∧ ((best, fd) = bwI m last words t16.toNat) ∧ True := hI
    show XW _ _ _ _ (mkS [(1, Sv last), (3, .ref 3 0), (6, .ref 6 0), (8, .ref 8 0), (9, Bv fd), (14, slwordAt false words), (15, I (words.length : Int)), (16, I t16)] [(3, bxModel m), (6, .box [Sv (⟨#[]⟩ : ByteArray), I 0]), (8, bxwordAt best)]) _ _
    refine x_seq ?_
    by_cases h1 : t16 < (words.length : Int)
    ·have hi : t16.toNat < words.length := by omega
     have hwb := hwc _ (at_mem hi)
     have hpb := pc_bd hmd last (at_ words t16.toNat).word
     refine x_r [(0, .dec true)] [1, 3, 6, 8, 9, 14, 15, 16, 17] [3, 6, 8] [Sv last, .ref 3 0, .ref 6 0, .ref 8 0, Bv fd, slwordAt false words, I (words.length : Int), I t16, Bv true] [some (bxModel m), some (.box [Sv (⟨#[]⟩ : ByteArray), I 0]), some (bxwordAt best)] [t16 < (words.length : Int)] ⟨h1, trivial⟩ ?_
     refine xe_then ?_
     refine x_seq ?_
     refine x_true rfl ?_
     refine x_skip ?_
     refine xe_then ?_
     refine x_seq ?_
     refine x_block ?_
     refine xR [(2, .new 11)] [1, 3, 6, 8, 9, 11, 14, 15, 16] [3, 6, 8, 11] [Sv last, .ref 3 0, .ref 6 0, .ref 8 0, Bv fd, .ref 11 0, slwordAt false words, I (words.length : Int), I t16] [some (bxModel m), some (.box [Sv (⟨#[]⟩ : ByteArray), I 0]), some (bxwordAt best), some (bxwordAt (at_ words t16.toNat))] [(0 : Int) ≤ t16 ∧ t16 < (words.length : Int)] ⟨⟨(by omega), (by omega)⟩, trivial⟩ ?_
     refine x_seq ?_
     obtain ⟨v_1, hx1_0, hc1⟩ := pairCost_ok m last ((at_ words t16.toNat).word) hmd
     have hpv := hx1_0
     rw [← hpv] at hpb
     refine x_r [(4, .call [(true, .any), (true, .any), (true, .any)] true (I v_1))] [1, 3, 6, 8, 9, 11, 12, 14, 15, 16] [3, 6, 8, 11] [Sv last, .ref 3 0, .ref 6 0, .ref 8 0, Bv fd, .ref 11 0, I (v_1 + ((at_ words t16.toNat).cost)), slwordAt false words, I (words.length : Int), I t16] [some (bxModel m), some (.box [Sv (⟨#[]⟩ : ByteArray), I 0]), some (bxwordAt best), some (bxwordAt (at_ words t16.toNat))] [Con Try.prog 50 [agModel m, Sv last, Sv ((at_ words t16.toNat).word)] true (I v_1) ∧ True, inR .i64 (v_1 + ((at_ words t16.toNat).cost))] ⟨⟨hc1, trivial⟩, (inR_i64 (by omega) (by omega)), trivial⟩ ?_
     refine xe_then ?_
     refine x_seq ?_
     rcases Bool.eq_false_or_eq_true fd with h2 | h2
     ·subst h2
      by_cases h3 : (v_1 + ((at_ words t16.toNat).cost)) < best.cost
      ·refine x_r [(6, .dec true)] [1, 3, 6, 8, 9, 11, 12, 14, 15, 16, 35] [3, 6, 8, 11] [Sv last, .ref 3 0, .ref 6 0, .ref 8 0, Bv true, .ref 11 0, I (v_1 + ((at_ words t16.toNat).cost)), slwordAt false words, I (words.length : Int), I t16, Bv true] [some (bxModel m), some (.box [Sv (⟨#[]⟩ : ByteArray), I 0]), some (bxwordAt best), some (bxwordAt (at_ words t16.toNat))] [(v_1 + ((at_ words t16.toNat).cost)) < best.cost] ⟨h3, trivial⟩ ?_
       refine xe_then ?_
       refine x_true rfl ?_
       refine x_r [] [1, 3, 6, 8, 9, 14, 15, 16] [3, 6, 8] [Sv last, .ref 3 0, .ref 6 0, .ref 8 0, Bv true, slwordAt false words, I (words.length : Int), I t16] [some (bxModel m), some (.box [Sv (⟨#[]⟩ : ByteArray), I 0]), some (.box [Sv ((at_ words t16.toNat).word), I (v_1 + ((at_ words t16.toNat).cost))])] [] trivial ?_
       refine xe_block 1 ?_
       refine xe_then ?_
       refine x_r [] [1, 3, 6, 8, 9, 14, 15, 16] [3, 6, 8] [Sv last, .ref 3 0, .ref 6 0, .ref 8 0, Bv true, slwordAt false words, I (words.length : Int), I (t16 + 1)] [some (bxModel m), some (.box [Sv (⟨#[]⟩ : ByteArray), I 0]), some (.box [Sv ((at_ words t16.toNat).word), I (v_1 + ((at_ words t16.toNat).cost))])] [inR .i64 (t16 + 1)] ⟨(inR_i64 (by omega) (by omega)), trivial⟩ ?_
       refine xe_weak [] (T := [(1, Sv last), (3, .ref 3 0), (6, .ref 6 0), (8, .ref 8 0), (9, Bv true), (14, slwordAt false words), (15, I (words.length : Int)), (16, I (t16 + 1))]) (O := [(3, bxModel m), (6, .box [Sv (⟨#[]⟩ : ByteArray), I 0]), (8, .box [Sv ((wordAt.mk ((at_ words t16.toNat).word) (v_1 + ((at_ words t16.toNat).cost))).word), I ((wordAt.mk ((at_ words t16.toNat).word) (v_1 + ((at_ words t16.toNat).cost))).cost)])]) rfl (⟨.inl rfl, .inl rfl, .inl rfl, .inl rfl, .inl rfl, .inl rfl, .inl rfl, .inl rfl, trivial⟩) (⟨.inl rfl, .inl rfl, .inr ⟨(by first | rfl | (simp [valOf]; done) | (simp [valOf]; omega)), ⟨(by first | rfl | (simp [valOf]; done) | (simp [valOf]; omega)), rfl⟩⟩, trivial⟩) (xe_again (true, (t16 + 1), (wordAt.mk ((at_ words t16.toNat).word) (v_1 + ((at_ words t16.toNat).cost)))) rfl (show (0 ≤ (t16 + 1) ∧ (t16 + 1) ≤ (words.length : Int)) ∧ (((wordAt.mk ((at_ words t16.toNat).word) (v_1 + ((at_ words t16.toNat).cost))), true) = bwI m last words (t16 + 1).toNat) ∧ True from ⟨(by omega), (by rw [show (t16 + 1).toNat = t16.toNat + 1 from by omega]; first | exact bw_y hpv hbw (.inl rfl) | exact bw_y hpv hbw (.inr (by assumption)) | exact bw_n hpv hbw (by simp; omega) | exact bw_n hpv hbw (fun q => by rcases q with q | q; (cases q); (contradiction))), trivial⟩) (by first | (show (((words.length : Int) - (t16 + 1)).toNat : Nat) < ((words.length : Int) - t16).toNat; omega) | (dsimp only; omega)))
      refine x_r [(6, .dec false)] [1, 3, 6, 8, 9, 11, 12, 14, 15, 16, 35] [3, 6, 8, 11] [Sv last, .ref 3 0, .ref 6 0, .ref 8 0, Bv true, .ref 11 0, I (v_1 + ((at_ words t16.toNat).cost)), slwordAt false words, I (words.length : Int), I t16, Bv false] [some (bxModel m), some (.box [Sv (⟨#[]⟩ : ByteArray), I 0]), some (bxwordAt best), some (bxwordAt (at_ words t16.toNat))] [¬ ((v_1 + ((at_ words t16.toNat).cost)) < best.cost)] ⟨h3, trivial⟩ ?_
      refine xe_then ?_
      refine x_false rfl ?_
      refine x_skip ?_
      refine xe_block 1 ?_
      refine xe_then ?_
      refine x_r [] [1, 3, 6, 8, 9, 14, 15, 16] [3, 6, 8] [Sv last, .ref 3 0, .ref 6 0, .ref 8 0, Bv true, slwordAt false words, I (words.length : Int), I (t16 + 1)] [some (bxModel m), some (.box [Sv (⟨#[]⟩ : ByteArray), I 0]), some (bxwordAt best)] [inR .i64 (t16 + 1)] ⟨(inR_i64 (by omega) (by omega)), trivial⟩ ?_
      exact xe_again (true, (t16 + 1), best) rfl (show (0 ≤ (t16 + 1) ∧ (t16 + 1) ≤ (words.length : Int)) ∧ ((best, true) = bwI m last words (t16 + 1).toNat) ∧ True from ⟨(by omega), (by rw [show (t16 + 1).toNat = t16.toNat + 1 from by omega]; first | exact bw_y hpv hbw (.inl rfl) | exact bw_y hpv hbw (.inr (by assumption)) | exact bw_n hpv hbw (by simp; omega) | exact bw_n hpv hbw (fun q => by rcases q with q | q; (cases q); (contradiction))), trivial⟩) (by first | (show (((words.length : Int) - (t16 + 1)).toNat : Nat) < ((words.length : Int) - t16).toNat; omega) | (dsimp only; omega))
     subst h2
     refine x_r [] [1, 3, 6, 8, 9, 11, 12, 14, 15, 16, 35] [3, 6, 8, 11] [Sv last, .ref 3 0, .ref 6 0, .ref 8 0, Bv false, .ref 11 0, I (v_1 + ((at_ words t16.toNat).cost)), slwordAt false words, I (words.length : Int), I t16, Bv true] [some (bxModel m), some (.box [Sv (⟨#[]⟩ : ByteArray), I 0]), some (bxwordAt best), some (bxwordAt (at_ words t16.toNat))] [] trivial ?_
     refine xe_then ?_
     refine x_true rfl ?_
     refine x_r [] [1, 3, 6, 8, 9, 14, 15, 16] [3, 6, 8] [Sv last, .ref 3 0, .ref 6 0, .ref 8 0, Bv true, slwordAt false words, I (words.length : Int), I t16] [some (bxModel m), some (.box [Sv (⟨#[]⟩ : ByteArray), I 0]), some (.box [Sv ((at_ words t16.toNat).word), I (v_1 + ((at_ words t16.toNat).cost))])] [] trivial ?_
     refine xe_block 1 ?_
     refine xe_then ?_
     refine x_r [] [1, 3, 6, 8, 9, 14, 15, 16] [3, 6, 8] [Sv last, .ref 3 0, .ref 6 0, .ref 8 0, Bv true, slwordAt false words, I (words.length : Int), I (t16 + 1)] [some (bxModel m), some (.box [Sv (⟨#[]⟩ : ByteArray), I 0]), some (.box [Sv ((at_ words t16.toNat).word), I (v_1 + ((at_ words t16.toNat).cost))])] [inR .i64 (t16 + 1)] ⟨(inR_i64 (by omega) (by omega)), trivial⟩ ?_
     refine xe_weak [] (T := [(1, Sv last), (3, .ref 3 0), (6, .ref 6 0), (8, .ref 8 0), (9, Bv true), (14, slwordAt false words), (15, I (words.length : Int)), (16, I (t16 + 1))]) (O := [(3, bxModel m), (6, .box [Sv (⟨#[]⟩ : ByteArray), I 0]), (8, .box [Sv ((wordAt.mk ((at_ words t16.toNat).word) (v_1 + ((at_ words t16.toNat).cost))).word), I ((wordAt.mk ((at_ words t16.toNat).word) (v_1 + ((at_ words t16.toNat).cost))).cost)])]) rfl (⟨.inl rfl, .inl rfl, .inl rfl, .inl rfl, .inl rfl, .inl rfl, .inl rfl, .inl rfl, trivial⟩) (⟨.inl rfl, .inl rfl, .inr ⟨(by first | rfl | (simp [valOf]; done) | (simp [valOf]; omega)), ⟨(by first | rfl | (simp [valOf]; done) | (simp [valOf]; omega)), rfl⟩⟩, trivial⟩) (xe_again (true, (t16 + 1), (wordAt.mk ((at_ words t16.toNat).word) (v_1 + ((at_ words t16.toNat).cost)))) rfl (show (0 ≤ (t16 + 1) ∧ (t16 + 1) ≤ (words.length : Int)) ∧ (((wordAt.mk ((at_ words t16.toNat).word) (v_1 + ((at_ words t16.toNat).cost))), true) = bwI m last words (t16 + 1).toNat) ∧ True from ⟨(by omega), (by rw [show (t16 + 1).toNat = t16.toNat + 1 from by omega]; first | exact bw_y hpv hbw (.inl rfl) | exact bw_y hpv hbw (.inr (by assumption)) | exact bw_n hpv hbw (by simp; omega) | exact bw_n hpv hbw (fun q => by rcases q with q | q; (cases q); (contradiction))), trivial⟩) (by first | (show (((words.length : Int) - (t16 + 1)).toNat : Nat) < ((words.length : Int) - t16).toNat; omega) | (dsimp only; omega)))
    have hie : t16.toNat = words.length := by omega
    refine x_r [(0, .dec false)] [1, 3, 6, 8, 9, 14, 15, 16, 17] [3, 6, 8] [Sv last, .ref 3 0, .ref 6 0, .ref 8 0, Bv fd, slwordAt false words, I (words.length : Int), I t16, Bv false] [some (bxModel m), some (.box [Sv (⟨#[]⟩ : ByteArray), I 0]), some (bxwordAt best)] [¬ (t16 < (words.length : Int))] ⟨h1, trivial⟩ ?_
    refine xe_then ?_
    refine x_seq ?_
    refine x_false rfl ?_
    refine x_exit ?_
    refine xe_exit_then ?_
    refine xe_loop_exit ?_
    refine xe_exit_same ?_
    refine xe_then ?_
    refine xR [] [6, 7] [6] [.ref 6 0, Bv fd] [some (bxwordAt best)] [] trivial ?_
    refine x_ret ?_
    refine xe_end (best, fd) (show ((best, fd) = bwI m last words words.length) ∧ (True) from ⟨(by first | (rw [hbw, hie]; done) | (rw [← hie]; exact hbw)), trivial⟩) (trivial) (.tup [agwordAt best, Bv fd]) (by kernel_rfl) (.inl rfl) (fun _ => rfl) (fun _ => (by simp [tagged, taggedL]))
  obtain ⟨⟨v, found⟩, ⟨hh0, _⟩, hc⟩ := hh
  exact ⟨v, found, hh0, hc⟩


def entF (lx : Lexicon) (w : ByteArray) : Option Entry := lx.Entries.find? fun e => decide (e.Word = w)
def entC (lx : Lexicon) (w : ByteArray) : Int := match entF lx w with
  | some e => e.Cost
  | none => 0
/-- Whether a word may stand in a lattice. -/
def canW (lx : Lexicon) (l : Lattice) (w : ByteArray) : Prop := (∃ j : Nat, j < lx.Entries.length ∧ (at_ lx.Entries j).Word = w) ∧ tcF l w ≠ 1099511627776
theorem ent_hit {lx : Lexicon} {w : ByteArray} {k : Nat} (h : okLex lx) (hk : k < lx.Entries.length) (hw : (at_ lx.Entries k).Word = w) : entC lx w = (at_ lx.Entries k).Cost := by
  have e : entF lx w = some (at_ lx.Entries k) := find_at hk (decide_eq_true hw) fun j hj q => by
    have p := pw_get h.2.2 hj hk
    have z : cmpN (at_ lx.Entries j) (at_ lx.Entries k) = 0 := cmpS_zero.2 ((of_decide_eq_true q).trans hw.symm)
    omega
  unfold entC; rw [e]
theorem ent_bd {lx : Lexicon} (h : okLex lx) (w : ByteArray) : 0 ≤ entC lx w ∧ entC lx w ≤ 1000000 := by
  unfold entC
  split
  · rename_i e q
    exact (h.2.1 e (List.mem_of_find?_eq_some q)).2
  · omega
/-- The costs of the first words in their lattices. -/
def scK (list : List Lattice) (lx : Lexicon) (ws : List ByteArray) : Nat → Int
  | 0 => 0
  | k + 1 => scK list lx ws k + (tcF (at_ list k) (at_ ws k) + entC lx (at_ ws k))
def scOK (list : List Lattice) (lx : Lexicon) (m : Model) (ws : List ByteArray) (v c : Int) : Prop :=
  (ws.length ≠ list.length ∧ v = 0 ∧ c = 2) ∨ (ws.length = list.length ∧ (∃ k : Nat, k < ws.length ∧ ¬ canW lx (at_ list k) (at_ ws k)) ∧ v = 0 ∧ c = 3) ∨ (ws.length = list.length ∧ (∀ k : Nat, k < ws.length → canW lx (at_ list k) (at_ ws k)) ∧ v = wcM m ⟨#[]⟩ ws + scK list lx ws ws.length ∧ c = 0)

/-- The words that may stand in a lattice ahead of the next words, each with the least cost from there on. -/
def stE (l : Lattice) (lx : Lexicon) (m : Model) (nx : List wordAt) (lst : Bool) : Nat → List wordAt
  | 0 => []
  | e + 1 => if tcF l (at_ lx.Entries e).Word < 1099511627776 ∧ ((bwI m (at_ lx.Entries e).Word nx nx.length).2 = true ∨ lst = true) then stE l lx m nx lst e ++ [⟨(at_ lx.Entries e).Word, tcF l (at_ lx.Entries e).Word + (at_ lx.Entries e).Cost + (bwI m (at_ lx.Entries e).Word nx nx.length).1.cost⟩] else stE l lx m nx lst e
/-- The stage that has i lattices from it on. -/
def stR (list : List Lattice) (lx : Lexicon) (m : Model) : Nat → List wordAt
  | 0 => []
  | i + 1 => stE (at_ list (list.length - 1 - i)) lx m (stR list lx m i) (decide (i = 0)) lx.Entries.length
def stg (list : List Lattice) (lx : Lexicon) (m : Model) (k : Nat) : List wordAt := stR list lx m (list.length - k)
def bdW (B : Int) (ws : List wordAt) : Prop := ∀ w ∈ ws, okWord w.word = true ∧ 0 ≤ w.cost ∧ w.cost ≤ B
theorem bw_bd {m : Model} (hm : okMod m) (l : ByteArray) {ws : List wordAt} {B : Int} (hB : 0 ≤ B) (h : bdW B ws) : ∀ k : Nat, k ≤ ws.length → 0 ≤ (bwI m l ws k).1.cost ∧ (bwI m l ws k).1.cost ≤ B + 1000000
  | 0, _ => by simp [bwI]; omega
  | k + 1, hk => by
    have ih := bw_bd hm l hB h k (by omega)
    have hw := h _ (at_mem (show k < ws.length by omega))
    have := pc_bd hm l (at_ ws k).word
    unfold bwI
    split
    · dsimp only; omega
    · exact ih
theorem stE_bd {l : Lattice} {lx : Lexicon} {m : Model} (hl : okLat l) (hx : okLex lx) (hm : okMod m) {nx : List wordAt} {B : Int} (hB : 0 ≤ B) (h : bdW B nx) (lst : Bool) : ∀ e : Nat, e ≤ lx.Entries.length → bdW (B + 12000000) (stE l lx m nx lst e) ∧ (stE l lx m nx lst e).length ≤ e
  | 0, _ => ⟨fun _ h => (by cases h), Nat.le_refl _⟩
  | e + 1, he => by
    have ih := stE_bd hl hx hm hB h lst e (by omega)
    have hen := hx.2.1 _ (at_mem (show e < lx.Entries.length by omega))
    have hsz := (okWord_iff.1 hen.1).1
    have htb := tcF_bd hl (at_ lx.Entries e).Word
    have hb := bw_bd hm (at_ lx.Entries e).Word hB h nx.length (Nat.le_refl _)
    have hc := hen.2
    unfold stE
    split
    · rename_i q
      refine ⟨fun w hw => ?_, by rw [List.length_append]; simp; omega⟩
      rcases mem_app.1 hw with z | z
      · have := ih.1 w z; exact ⟨this.1, this.2.1, by omega⟩
      · subst z
        exact ⟨hen.1, by dsimp only; omega, by dsimp only; omega⟩
    · exact ⟨fun w hw => by have := ih.1 w hw; exact ⟨this.1, this.2.1, by omega⟩, by omega⟩
theorem stR_bd {list : List Lattice} {lx : Lexicon} {m : Model} (hls : ∀ l ∈ list, okLat l) (hx : okLex lx) (hm : okMod m) : ∀ i : Nat, i ≤ list.length → bdW (12000000 * i) (stR list lx m i) ∧ (stR list lx m i).length ≤ 60
  | 0, _ => ⟨fun _ h => (by cases h), Nat.zero_le _⟩
  | i + 1, hi => by
    have ih := stR_bd hls hx hm i (by omega)
    have := stE_bd (hls _ (at_mem (show list.length - 1 - i < list.length by omega))) hx hm (by omega) ih.1 (decide (i = 0)) lx.Entries.length (Nat.le_refl _)
    rw [show (12000000 * ((i + 1 : Nat) : Int)) = 12000000 * (i : Int) + 12000000 from by omega]
    exact ⟨this.1, Nat.le_trans this.2 hx.1⟩
/-- The stages behind k are done. -/
def stOk (list : List Lattice) (lx : Lexicon) (m : Model) (st : List (List wordAt)) (k : Nat) : Prop := st.length = list.length + 1 ∧ (∀ j, j < k → at_ st j = []) ∧ ∀ j, k ≤ j → j ≤ list.length → at_ st j = stg list lx m j
/-- The stages behind k are done, and stage k from the first e entries. -/
def stIn (list : List Lattice) (lx : Lexicon) (m : Model) (st : List (List wordAt)) (k e : Nat) : Prop := st.length = list.length + 1 ∧ (∀ j, j < k → at_ st j = []) ∧ at_ st k = stE (at_ list k) lx m (stg list lx m (k + 1)) (decide (k + 1 = list.length)) e ∧ ∀ j, k < j → j ≤ list.length → at_ st j = stg list lx m j
theorem st_start (list : List Lattice) (lx : Lexicon) (m : Model) {n : Nat} (h : n = list.length + 1) : stOk list lx m (List.replicate n []) list.length := by
  have e : ∀ j, j < n → at_ (List.replicate n ([] : List wordAt)) j = [] := fun j hj => by rw [at_eq (by rw [List.length_replicate]; exact hj), List.getElem_replicate]
  refine ⟨by rw [List.length_replicate, h], fun j hj => e j (by omega), fun j h1 h2 => ?_⟩
  rw [e j (by omega)]; unfold stg; rw [show list.length - j = 0 from by omega]; rfl
theorem st_in {list : List Lattice} {lx : Lexicon} {m : Model} {st : List (List wordAt)} {k : Nat} (h : stOk list lx m st (k + 1)) : stIn list lx m st k 0 :=
  ⟨h.1, fun j hj => h.2.1 j (by omega), h.2.1 k (by omega), fun j h1 h2 => h.2.2 j (by omega) h2⟩
theorem st_out {list : List Lattice} {lx : Lexicon} {m : Model} {st : List (List wordAt)} {k : Nat} (h : stIn list lx m st k lx.Entries.length) (hk : k < list.length) : stOk list lx m st k :=
  ⟨h.1, h.2.1, fun j h1 h2 => by
    by_cases e : j = k
    · subst e; rw [h.2.2.1]
      show _ = stR list lx m (list.length - j)
      rw [show list.length - j = (list.length - (j + 1)) + 1 from by omega]
      show _ = stE (at_ list (list.length - 1 - (list.length - (j + 1)))) lx m _ (decide (list.length - (j + 1) = 0)) _
      rw [show list.length - 1 - (list.length - (j + 1)) = j from by omega]
      have : decide (list.length - (j + 1) = 0) = decide (j + 1 = list.length) := decide_eq_decide.2 ⟨fun _ => by omega, fun _ => by omega⟩
      rw [this]; rfl
    · exact h.2.2.2 j (by omega) h2⟩
theorem st_y {list : List Lattice} {lx : Lexicon} {m : Model} {st : List (List wordAt)} {k e : Nat} {p : Int} {b : wordAt} {f : Bool} (h : stIn list lx m st k e) (hk : k < list.length) (hp : p = tcF (at_ list k) (at_ lx.Entries e).Word) (hb : (b, f) = bwI m (at_ lx.Entries e).Word (at_ st (k + 1)) (at_ st (k + 1)).length) (hc : p < 1099511627776 ∧ (f = true ∨ k + 1 = list.length)) : stIn list lx m (st.set k (at_ st k ++ [⟨(at_ lx.Entries e).Word, p + (at_ lx.Entries e).Cost + b.cost⟩])) k (e + 1) := by
  rw [h.2.2.2 (k + 1) (by omega) (by omega)] at hb
  refine ⟨by rw [List.length_set]; exact h.1, fun j hj => by rw [at_set_oth (by omega)]; exact h.2.1 j hj, ?_, fun j h1 h2 => by rw [at_set_oth (by omega)]; exact h.2.2.2 j h1 h2⟩
  rw [at_set_same (by rw [h.1]; omega), h.2.2.1]
  show _ = (if _ then _ else _)
  rw [← hb, ← hp, if_pos ⟨hc.1, hc.2.imp id fun q => decide_eq_true q⟩]
theorem st_n {list : List Lattice} {lx : Lexicon} {m : Model} {st : List (List wordAt)} {k e : Nat} {p : Int} {b : wordAt} {f : Bool} (h : stIn list lx m st k e) (hk : k < list.length) (hp : p = tcF (at_ list k) (at_ lx.Entries e).Word) (hb : (b, f) = bwI m (at_ lx.Entries e).Word (at_ st (k + 1)) (at_ st (k + 1)).length) (hc : ¬ (p < 1099511627776 ∧ (f = true ∨ k + 1 = list.length))) : stIn list lx m st k (e + 1) := by
  rw [h.2.2.2 (k + 1) (by omega) (by omega)] at hb
  refine ⟨h.1, h.2.1, ?_, h.2.2.2⟩
  rw [h.2.2.1]
  show _ = (if _ then _ else _)
  rw [← hb, ← hp, if_neg fun q => hc ⟨q.1, q.2.imp id fun z => of_decide_eq_true z⟩]
/-- The sentence that is found. -/
def fsW (list : List Lattice) (lx : Lexicon) (m : Model) : Nat → List ByteArray
  | 0 => []
  | k + 1 => fsW list lx m k ++ [(bwI m (lastW ⟨#[]⟩ (fsW list lx m k) k) (stg list lx m k) (stg list lx m k).length).1.word]
def fsB (list : List Lattice) (lx : Lexicon) (m : Model) (k : Nat) : wordAt × Bool := bwI m (lastW ⟨#[]⟩ (fsW list lx m k) k) (stg list lx m k) (stg list lx m k).length
theorem fsW_len (list : List Lattice) (lx : Lexicon) (m : Model) : ∀ k : Nat, (fsW list lx m k).length = k
  | 0 => rfl
  | k + 1 => by unfold fsW; rw [List.length_append, fsW_len list lx m k]; rfl
def fsOK (list : List Lattice) (lx : Lexicon) (m : Model) (v : Sentence) (c : Int) : Prop :=
  (c = 3 ∧ ∃ k : Nat, k < list.length ∧ (fsB list lx m k).2 = false) ∨ (c = 0 ∧ (∀ k : Nat, k < list.length → (fsB list lx m k).2 = true) ∧ v.Words = fsW list lx m list.length ∧ v.Cost = if list.length = 0 then 0 else (fsB list lx m 0).1.cost)

theorem beq_ne {i k : Nat} (h : i ≠ k) : Nat.beq i k = false := Bool.eq_false_iff.2 fun e => h (Nat.eq_of_beq_eq_true e)
theorem at_set_eq {α : Type} [Inhabited α] {xs : List α} {k : Nat} {c : α} (h : k < xs.length) : at_ (xs.set k c) k = c := by simp [at_, h]
theorem at_set_ne {α : Type} [Inhabited α] {xs : List α} {k i : Nat} {c : α} (h : i ≠ k) : at_ (xs.set k c) i = at_ xs i := by
  have : ¬ k = i := fun e => h e.symm
  simp [at_, this]
theorem le_row {ob : Nat → Option Ob} {F N sz p n : Nat} {m : Nat → Nat} {g : Nat → Nat → List AV} {fr : Bool} {f : Nat → List AV} (h : ob F = some (.fam N sz m g)) (hp : p < N) (hn : m p = n)
    (hf : ∀ i, i < n → g p i = f i ∨ (AV.idsL (f i) = [] ∧ leL (fun _ => none) false (g p i) (f i))) : le ob true (.row F p) (.sl fr sz n f) := by
  simp only [le, h]
  exact ⟨fun _ => trivial, hp, trivial, hn, hf⟩

def oLwordAtc (F : Nat) (x : List wordAt) (i : Nat) : List AV := [.row F i]
def oLwordAt (F : Nat) (xs : List (List wordAt)) (i : Nat) : List AV := oLwordAtc F (at_ xs i) i
def mLwordAt (xs : List (List wordAt)) (p : Nat) : Nat := (at_ xs p).length
def gLwordAt (xs : List (List wordAt)) (p : Nat) : Nat → List AV := fwordAt (at_ xs p)
theorem oleLwordAt {ob : Nat → Option Ob} {F : Nat} (fr : Bool) (xs : List (List wordAt)) (h : ob F = some (.fam xs.length 2 (mLwordAt xs) (gLwordAt xs))) : ∀ i, i < xs.length → AV.idsL (fLwordAt fr xs i) = [] ∧ leL ob true (oLwordAt F xs i) (fLwordAt fr xs i) :=
  fun i hi => And.intro rfl (And.intro (le_row h hi rfl (fun q _ => .inl rfl)) rfl)
theorem olecatLwordAt {ob : Nat → Option Ob} {F : Nat} (fr : Bool) (xs : List (List wordAt)) (x : List wordAt) {f : Nat → List AV} (h : ob F = some (.fam xs.length 2 (mLwordAt xs) (gLwordAt xs))) (hx : leL ob true (f 0) (cLwordAt fr x)) : ∀ i, i < (xs ++ [x]).length → AV.idsL (fLwordAt fr (xs ++ [x]) i) = [] ∧ leL ob true (catF xs.length (oLwordAt F xs) f i) (fLwordAt fr (xs ++ [x]) i) := by
  intro i hi
  by_cases hl : i < xs.length
  · have := oleLwordAt fr xs h i hl
    rw [catF_lt hl]
    have e : fLwordAt fr (xs ++ [x]) i = fLwordAt fr xs i := by show cLwordAt fr (at_ _ _) = cLwordAt fr (at_ _ _); rw [at_left hl]
    rw [e]; exact this
  · have e : i = xs.length := by simp at hi; omega
    subst e
    rw [catF_ge (Nat.le_refl _), Nat.sub_self]
    have e : fLwordAt fr (xs ++ [x]) xs.length = cLwordAt fr x := by show cLwordAt fr (at_ _ _) = _; rw [at_right (Nat.le_refl _)]; simp [at_]
    rw [e]; exact ⟨rfl, hx⟩
theorem ocatLwordAt {F j N : Nat} (hF : Nat.beq F j = false) {xs : List (List wordAt)} {x : List wordAt} {g : Nat → List AV} (hN : N = xs.length) (hx : AV.joiL j F N (g 0) = oLwordAtc F x N) : ∀ i, i < (xs ++ [x]).length → AV.joiL j F N (catF xs.length (oLwordAt F xs) g i) = oLwordAt F (xs ++ [x]) i := by
  subst hN
  intro i hi
  by_cases h : i < xs.length
  · rw [catF_lt h]
    simp [oLwordAt, oLwordAtc, at_left h, AV.joiL, AV.joi, hF]
  · have e : i = xs.length := by simp at hi; omega
    subst e
    rw [catF_ge (Nat.le_refl _), Nat.sub_self, hx]
    simp [oLwordAt, at_right (Nat.le_refl _), at_]
theorem fcatLwordAt {xs : List (List wordAt)} (x : List wordAt) {n : Nat} {f : Nat → List AV} (hn : n = x.length) (hf : ∀ i, i < n → f i = fwordAt x i) : xs.length + 1 = (xs ++ [x]).length ∧ 2 = 2 ∧ ∀ p, p < (xs ++ [x]).length → famUp xs.length n (mLwordAt xs) p = mLwordAt (xs ++ [x]) p ∧ ∀ i, i < mLwordAt (xs ++ [x]) p → famUpF xs.length f (gLwordAt xs) p i = gLwordAt (xs ++ [x]) p i ∨ (AV.idsL (gLwordAt (xs ++ [x]) p i) = [] ∧ leL (fun _ => none) false (famUpF xs.length f (gLwordAt xs) p i) (gLwordAt (xs ++ [x]) p i)) := by
  refine ⟨by simp, rfl, fun p hp => ?_⟩
  by_cases h : p < xs.length
  · have e : Nat.beq p xs.length = false := Bool.eq_false_iff.2 fun e => by have := Nat.eq_of_beq_eq_true e; omega
    simp [famUp, famUpF, e, mLwordAt, gLwordAt, at_left h]
  · have e : p = xs.length := by simp at hp; omega
    subst e
    have e2 : at_ (xs ++ [x]) xs.length = x := by simp [at_right (Nat.le_refl _), at_]
    simp only [famUp, famUpF, Nat.beq_refl, cond_true, mLwordAt, gLwordAt, e2]
    exact ⟨hn, fun i hi => .inl (hf i (by omega))⟩
theorem osetLwordAt (F P : Nat) (xs : List (List wordAt)) (ys : List wordAt) (i : Nat) : oLwordAt F xs i = oLwordAt F (xs.set P ys) i := by
  unfold oLwordAt
  by_cases h : P = i
  · subst h
    by_cases hl : P < xs.length
    · simp [at_, hl, oLwordAtc]
    · rw [List.set_eq_of_length_le (by omega)]
  · simp [at_, h]
theorem fnilLwordAt (n : Nat) {g : Nat → Nat → List AV} : n = (List.replicate n ([] : List wordAt)).length ∧ 2 = 2 ∧ ∀ p, p < (List.replicate n ([] : List wordAt)).length → (fun _ : Nat => (0 : Nat)) p = mLwordAt (List.replicate n ([] : List wordAt)) p ∧ ∀ i, i < mLwordAt (List.replicate n ([] : List wordAt)) p → g p i = gLwordAt (List.replicate n ([] : List wordAt)) p i ∨ (AV.idsL (gLwordAt (List.replicate n ([] : List wordAt)) p i) = [] ∧ leL (fun _ => none) false (g p i) (gLwordAt (List.replicate n ([] : List wordAt)) p i)) := by
  refine ⟨by simp, rfl, fun p hp => ?_⟩
  have e : mLwordAt (List.replicate n ([] : List wordAt)) p = 0 := by simp only [List.length_replicate] at hp; simp [mLwordAt, at_, hp]
  exact ⟨e.symm, fun i hi => by rw [e] at hi; exact absurd hi (Nat.not_lt_zero _)⟩
theorem fputLwordAt {xs : List (List wordAt)} {P m1 : Nat} {ys : List wordAt} {f1 : Nat → List AV} (hP : P < xs.length) (hm : m1 = ys.length) (hf : ∀ i, i < m1 → f1 i = fwordAt ys i) : xs.length = (xs.set P ys).length ∧ 2 = 2 ∧ ∀ p, p < (xs.set P ys).length → famUp P m1 (mLwordAt xs) p = mLwordAt (xs.set P ys) p ∧ ∀ i, i < mLwordAt (xs.set P ys) p → famUpF P f1 (gLwordAt xs) p i = gLwordAt (xs.set P ys) p i ∨ (AV.idsL (gLwordAt (xs.set P ys) p i) = [] ∧ leL (fun _ => none) false (famUpF P f1 (gLwordAt xs) p i) (gLwordAt (xs.set P ys) p i)) := by
  refine ⟨by simp, rfl, fun p hp => ?_⟩
  by_cases h : p = P
  · subst h
    have e : at_ (xs.set p ys) p = ys := at_set_eq hP
    refine ⟨?_, fun i hi => .inl ?_⟩
    · simp only [famUp, Nat.beq_refl, cond_true, mLwordAt, e]; exact hm
    · simp only [mLwordAt, e] at hi; simp only [famUpF, Nat.beq_refl, cond_true, gLwordAt, e]; exact hf i (by omega)
  · have e : at_ (xs.set P ys) p = at_ xs p := at_set_ne h
    have b := beq_ne h
    refine ⟨?_, fun i hi => .inl ?_⟩
    · simp only [famUp, b, cond_false, mLwordAt, e]
    · simp only [famUpF, b, cond_false, gLwordAt, e]
theorem fsetLwordAt {xs : List (List wordAt)} {P k : Nat} {c : wordAt} {g' : Nat → Nat → List AV} (hP : P < xs.length) (hk : k < (at_ xs P).length) (h1 : g' P k = cwordAt c) (h2 : ∀ i, i ≠ k → g' P i = gLwordAt xs P i) (h3 : ∀ p, p ≠ P → g' p = gLwordAt xs p) : xs.length = (xs.set P ((at_ xs P).set k c)).length ∧ 2 = 2 ∧ ∀ p, p < (xs.set P ((at_ xs P).set k c)).length → mLwordAt xs p = mLwordAt (xs.set P ((at_ xs P).set k c)) p ∧ ∀ i, i < mLwordAt (xs.set P ((at_ xs P).set k c)) p → g' p i = gLwordAt (xs.set P ((at_ xs P).set k c)) p i ∨ (AV.idsL (gLwordAt (xs.set P ((at_ xs P).set k c)) p i) = [] ∧ leL (fun _ => none) false (g' p i) (gLwordAt (xs.set P ((at_ xs P).set k c)) p i)) := by
  refine ⟨by simp, rfl, fun p hp => ?_⟩
  by_cases h : p = P
  · subst h
    have e2 : at_ (xs.set p ((at_ xs p).set k c)) p = ((at_ xs p).set k c) := at_set_eq hP
    have e3 : ((at_ xs p).set k c) = (at_ xs p).set k c := rfl
    simp only [mLwordAt, gLwordAt, e2, e3]
    refine ⟨by simp, fun i hi => .inl ?_⟩
    by_cases hi2 : i = k
    · subst hi2
      rw [h1]
      show _ = cwordAt (at_ _ _)
      rw [at_set_eq hk]
    · rw [h2 i hi2]
      show cwordAt (at_ _ _) = cwordAt (at_ _ _)
      rw [at_set_ne hi2]
  · have e : at_ (xs.set P ((at_ xs P).set k c)) p = at_ xs p := at_set_ne h
    simp only [mLwordAt, gLwordAt, e]
    refine ⟨trivial, fun i hi => .inl ?_⟩
    rw [h3 p h]; rfl
end Go.Proofs.Ytakkponmkgacaaa.Ax
