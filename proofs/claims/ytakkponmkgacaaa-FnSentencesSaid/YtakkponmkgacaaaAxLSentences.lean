/- The statement FnSentences: contracts of what it reaches, and its proof. No conditions. -/
import Derived.Test.YtakkponmkgacaaaAxLSentences2
import Derived.Test.YtakkponmkgacaaaAxR
import Derived.Test.YtakkponmkgacaaaAxS
namespace Go.Proofs.Ytakkponmkgacaaa.Ax
open Go.RowKit Go.ChangeShapes Go.WideShapes
set_option linter.unusedVariables false
set_option linter.unusedSimpArgs false


-- impl.FindSentence
theorem FindSentence_ok (list : List Lattice) (lx : Lexicon) (m : Model) (hls : (list.length : Int) ≤ 8 ∧ ∀ l ∈ list, okLat l) (hlx : okLex lx) (hmd : okMod m) : ∃ (v : Sentence) (c : Int), (fsOK list lx m v c) ∧ Con Try.prog 7 [slLattice false list, .agg [slEntry false lx.Entries], agModel m] true (.tup [agSentenceT v, I c]) := by
  have hll := hls.1
  have hxl := hlx.1
  have hh : ∃ r : Sentence × Int, ((fsOK list lx m r.1 r.2) ∧ (True)) ∧ CallOK Try.prog 7 [slLattice false list, .agg [slEntry false lx.Entries], agModel m] (lookO []) true (.tup [agSentenceT r.1, I r.2]) (lookO []) := by
    refine fn_okX (Φ := fun r : Sentence × Int => (fsOK list lx m r.1 r.2) ∧ (True)) [] (fun r => []) (fn := Try.f7) (nt := 132) Try.func7 rfl rfl (args := [slLattice false list, .agg [slEntry false lx.Entries], agModel m]) rfl (allcons (.inl ⟨rfl, tagLattice false _⟩) (allcons (.inl ⟨rfl, by simp [tagged, taggedL, tagEntry]⟩) (allcons (.inl ⟨rfl, by simp [tagged, taggedL, tagBigram]⟩) allnil))) (res := fun r => .tup [agSentenceT r.1, I r.2]) ?_
    refine xR [(0, .new 4), (1, .new 5), (2, .new 6)] [0, 4, 5, 6] [4, 5, 6] [slLattice false list, .ref 4 0, .ref 5 0, .ref 6 0] [some (.box [slEntry false lx.Entries]), some (bxModel m), some (.box [nilA, I 0])] [] trivial ?_
    refine x_seq ?_
    refine xR [(3, .call [(true, .any), (true, .any), (true, .any)] true (I 0))] [0, 4, 5, 6, 8] [4, 5, 6] [slLattice false list, .ref 4 0, .ref 5 0, .ref 6 0, I 0] [some (.box [slEntry false lx.Entries]), some (bxModel m), some (.box [nilA, I 0])] [Con Try.prog 25 [slLattice false list, .agg [slEntry false lx.Entries], agModel m] true (I 0) ∧ True] ⟨⟨(sentenced_ok list lx m hls hlx hmd), trivial⟩, trivial⟩ ?_
    refine xR [(1, .dec false)] [0, 4, 5, 6, 8, 26] [4, 5, 6] [slLattice false list, .ref 4 0, .ref 5 0, .ref 6 0, I 0, Bv false] [some (.box [slEntry false lx.Entries]), some (bxModel m), some (.box [nilA, I 0])] [¬ ((0 : Int) ≠ 0)] ⟨(fun hq => hq (by decide)), trivial⟩ ?_
    refine x_false rfl ?_
    refine x_skip ?_
    refine xe_then ?_
    refine xR [(3, .new 32)] [0, 4, 5, 6, 9] [4, 5, 6, 32] [slLattice false list, .ref 4 0, .ref 5 0, .ref 6 0, .arr 32] [some (.box [slEntry false lx.Entries]), some (bxModel m), some (.box [nilA, I 0]), some (.arr 1 (((list.length : Int) + 1).toNat) (fun _ => [nilA]))] [inR .i64 ((list.length : Int) + 1), (0 : Int) ≤ ((list.length : Int) + 1) ∧ (((list.length : Int) + 1) : Int) ≤ ((list.length : Int) + 1) ∧ (24 : Int) * ((list.length : Int) + 1) ≤ 281474976710656 ∧ ((list.length : Int) + 1) ≤ 9223372036854775807] ⟨(inR_i64 (by omega) (by omega)), ⟨(by omega), (by omega), (by omega), (by omega)⟩, trivial⟩ ?_
    refine x_seq ?_
    refine xR [] [0, 4, 5, 6, 9, 10] [4, 5, 6, 32] [slLattice false list, .ref 4 0, .ref 5 0, .ref 6 0, .arr 32, I ((list.length : Int) - 1)] [some (.box [slEntry false lx.Entries]), some (bxModel m), some (.box [nilA, I 0]), some (.arr 1 (((list.length : Int) + 1).toNat) (fun _ => [nilA]))] [inR .i64 ((list.length : Int) - 1)] ⟨(inR_i64 (by omega) (by omega)), trivial⟩ ?_
    refine x_block ?_
    refine x_famN 32 8441 2 rfl (fun q _ => ⟨_, rfl, rfl⟩) (by kernel_rfl) ?_
    refine x_weak [] (T := [(0, slLattice false list), (4, .ref 4 0), (5, .ref 5 0), (6, .ref 6 0), (9, .arr 32), (10, I ((list.length : Int) - 1))]) (O := [(4, .box [slEntry false lx.Entries]), (5, bxModel m), (6, .box [nilA, I 0]), (32, .oar [8441] 1 ((List.replicate (((list.length : Int) + 1).toNat) ([] : List wordAt)).length) (oLwordAt 8441 (List.replicate (((list.length : Int) + 1).toNat) ([] : List wordAt)))), (8441, .fam (List.replicate (((list.length : Int) + 1).toNat) ([] : List wordAt)).length 2 (mLwordAt (List.replicate (((list.length : Int) + 1).toNat) ([] : List wordAt))) (gLwordAt (List.replicate (((list.length : Int) + 1).toNat) ([] : List wordAt))))]) rfl (⟨.inl rfl, .inl rfl, .inl rfl, .inl rfl, .inl rfl, .inl rfl, trivial⟩) (⟨.inl rfl, .inl rfl, .inl rfl, .inr ⟨rfl, rfl, (by simp), fun i hi => .inl rfl⟩, .inr (fnilLwordAt (((list.length : Int) + 1).toNat)), trivial⟩) ?_
    refine x_loop (X := Int × (List (List wordAt))) (fun x => mkS [(0, slLattice false list), (4, .ref 4 0), (5, .ref 5 0), (6, .ref 6 0), (9, .arr 32), (10, I x.1)] [(4, .box [slEntry false lx.Entries]), (5, bxModel m), (6, .box [nilA, I 0]), (32, .oar [8441] 1 x.2.length (oLwordAt 8441 x.2)), (8441, .fam x.2.length 2 (mLwordAt x.2) (gLwordAt x.2))]) (fun x => (0 ≤ x.1 + 1 ∧ x.1 < (list.length : Int)) ∧ (∃ q : Nat, (q : Int) = x.1 + 1 ∧ stOk list lx m x.2 q) ∧ True) (fun x => (x.1 + 1).toNat) (((list.length : Int) - 1), (List.replicate (((list.length : Int) + 1).toNat) ([] : List wordAt))) rfl (show (0 ≤ ((list.length : Int) - 1) + 1 ∧ ((list.length : Int) - 1) < (list.length : Int)) ∧ (∃ q : Nat, (q : Int) = ((list.length : Int) - 1) + 1 ∧ stOk list lx m (List.replicate (((list.length : Int) + 1).toNat) ([] : List wordAt)) q) ∧ True from ⟨(by omega), (by exact ⟨list.length, by omega, st_start list lx m (by first | rfl | omega | simp)⟩), trivial⟩) (fun x hI => ?_)
    obtain ⟨k, st⟩ := x
    obtain ⟨hk0, hst0, _⟩ : (0 ≤ k + 1 ∧ k < (list.length : Int)) ∧ (∃ q : Nat, (q : Int) = k + 1 ∧ stOk list lx m st q) ∧ True := hI
    show XW _ _ _ _ (mkS [(0, slLattice false list), (4, .ref 4 0), (5, .ref 5 0), (6, .ref 6 0), (9, .arr 32), (10, I k)] [(4, .box [slEntry false lx.Entries]), (5, bxModel m), (6, .box [nilA, I 0]), (32, .oar [8441] 1 st.length (oLwordAt 8441 st)), (8441, .fam st.length 2 (mLwordAt st) (gLwordAt st))]) _ _
    have hst : stOk list lx m st (k + 1).toNat := by obtain ⟨q, hq, hs⟩ := hst0; rw [show (k + 1).toNat = q from by omega]; exact hs
    refine x_seq ?_
    refine x_seq ?_
    by_cases h1 : 0 ≤ k
    ·have hsl0 := hst.1
     refine x_r [(1, .dec true)] [0, 4, 5, 6, 9, 10, 37] [4, 5, 6, 32, 8441] [slLattice false list, .ref 4 0, .ref 5 0, .ref 6 0, .arr 32, I k, Bv true] [some (.box [slEntry false lx.Entries]), some (bxModel m), some (.box [nilA, I 0]), some (.oar [8441] 1 st.length (oLwordAt 8441 st)), some (.fam st.length 2 (mLwordAt st) (gLwordAt st))] [0 ≤ k] ⟨h1, trivial⟩ ?_
     refine xe_then ?_
     refine x_true rfl ?_
     refine x_skip ?_
     refine xe_then ?_
     refine x_seq ?_
     refine x_block ?_
     refine xR [] [0, 4, 5, 6, 9, 10, 41, 42, 43] [4, 5, 6, 32, 8441] [slLattice false list, .ref 4 0, .ref 5 0, .ref 6 0, .arr 32, I k, slEntry false lx.Entries, I (lx.Entries.length : Int), I 0] [some (.box [slEntry false lx.Entries]), some (bxModel m), some (.box [nilA, I 0]), some (.oar [8441] 1 st.length (oLwordAt 8441 st)), some (.fam st.length 2 (mLwordAt st) (gLwordAt st))] [] trivial ?_
     refine x_block ?_
     refine x_loop (X := Int × (List (List wordAt))) (fun x => mkS [(0, slLattice false list), (4, .ref 4 0), (5, .ref 5 0), (6, .ref 6 0), (9, .arr 32), (10, I k), (41, slEntry false lx.Entries), (42, I (lx.Entries.length : Int)), (43, I x.1)] [(4, .box [slEntry false lx.Entries]), (5, bxModel m), (6, .box [nilA, I 0]), (32, .oar [8441] 1 x.2.length (oLwordAt 8441 x.2)), (8441, .fam x.2.length 2 (mLwordAt x.2) (gLwordAt x.2))]) (fun x => (0 ≤ x.1 ∧ x.1 ≤ (lx.Entries.length : Int)) ∧ (stIn list lx m x.2 k.toNat x.1.toNat) ∧ True) (fun x => ((lx.Entries.length : Int) - x.1).toNat) (0, st) rfl (show (0 ≤ (0 : Int) ∧ (0 : Int) ≤ (lx.Entries.length : Int)) ∧ (stIn list lx m st k.toNat (0 : Int).toNat) ∧ True from ⟨(by omega), (by exact st_in (by rw [show k.toNat + 1 = (k + 1).toNat from by omega]; exact hst)), trivial⟩) (fun x hI => ?_)
     obtain ⟨t43, st'⟩ := x
     obtain ⟨hi0, hin, _⟩ : (0 ≤ t43 ∧ t43 ≤ (lx.Entries.length : Int)) ∧ (stIn list lx m st' k.toNat t43.toNat) ∧ True := hI
     show XW _ _ _ _ (mkS [(0, slLattice false list), (4, .ref 4 0), (5, .ref 5 0), (6, .ref 6 0), (9, .arr 32), (10, I k), (41, slEntry false lx.Entries), (42, I (lx.Entries.length : Int)), (43, I t43)] [(4, .box [slEntry false lx.Entries]), (5, bxModel m), (6, .box [nilA, I 0]), (32, .oar [8441] 1 st'.length (oLwordAt 8441 st')), (8441, .fam st'.length 2 (mLwordAt st') (gLwordAt st'))]) _ _
     refine x_seq ?_
     by_cases h2 : t43 < (lx.Entries.length : Int)
     ·have hi : t43.toNat < lx.Entries.length := by omega
      have hen := hlx.2.1 _ (at_mem hi)
      have hwz := (okWord_iff.1 hen.1).1
      have hec := hen.2
      have hlt := hls.2 _ (at_mem (xs := list) (i := k.toNat) (by omega))
      have htb := tcF_bd hlt (at_ lx.Entries t43.toNat).Word
      have hnx : at_ st' (k + 1).toNat = stg list lx m (k + 1).toNat := hin.2.2.2 _ (by omega) (by omega)
      have hbd := stR_bd hls.2 hlx hmd (list.length - (k + 1).toNat) (by omega)
      have hbd2 : bdW (12000000 * ((list.length - (k + 1).toNat : Nat) : Int)) (at_ st' (k + 1).toNat) := by rw [hnx]; exact hbd.1
      have hwl2 : (at_ st' (k + 1).toNat).length ≤ 60 := by rw [hnx]; exact hbd.2
      have hwc2 : ∀ w ∈ at_ st' (k + 1).toNat, 0 ≤ w.cost ∧ w.cost ≤ 1000000000000 := fun w hw => by have := hbd2 w hw; omega
      have hbb := bw_bd hmd (at_ lx.Entries t43.toNat).Word (by omega) hbd2 (at_ st' (k + 1).toNat).length (Nat.le_refl _)
      have hsl := hin.1
      have hrl := (stE_bd hlt hlx hmd (by omega) hbd.1 (decide (k.toNat + 1 = list.length)) t43.toNat (by omega)).2
      rw [show stR list lx m (list.length - (k + 1).toNat) = stg list lx m (k.toNat + 1) from by rw [show (k + 1).toNat = k.toNat + 1 from by omega]; rfl, ← hin.2.2.1] at hrl
      refine x_r [(0, .dec true)] [0, 4, 5, 6, 9, 10, 41, 42, 43, 44] [4, 5, 6, 32, 8441] [slLattice false list, .ref 4 0, .ref 5 0, .ref 6 0, .arr 32, I k, slEntry false lx.Entries, I (lx.Entries.length : Int), I t43, Bv true] [some (.box [slEntry false lx.Entries]), some (bxModel m), some (.box [nilA, I 0]), some (.oar [8441] 1 st'.length (oLwordAt 8441 st')), some (.fam st'.length 2 (mLwordAt st') (gLwordAt st'))] [t43 < (lx.Entries.length : Int)] ⟨h2, trivial⟩ ?_
      refine xe_then ?_
      refine x_seq ?_
      refine x_true rfl ?_
      refine x_skip ?_
      refine xe_then ?_
      refine x_seq ?_
      refine x_block ?_
      refine xR [(2, .new 12)] [0, 4, 5, 6, 9, 10, 12, 41, 42, 43] [4, 5, 6, 12, 32, 8441] [slLattice false list, .ref 4 0, .ref 5 0, .ref 6 0, .arr 32, I k, .ref 12 0, slEntry false lx.Entries, I (lx.Entries.length : Int), I t43] [some (.box [slEntry false lx.Entries]), some (bxModel m), some (.box [nilA, I 0]), some (bxEntry (at_ lx.Entries t43.toNat)), some (.oar [8441] 1 st'.length (oLwordAt 8441 st')), some (.fam st'.length 2 (mLwordAt st') (gLwordAt st'))] [(0 : Int) ≤ t43 ∧ t43 < (lx.Entries.length : Int)] ⟨⟨(by omega), (by omega)⟩, trivial⟩ ?_
      refine xR [(6, .call [(true, .any), (true, .any)] true (I (tcF (at_ list k.toNat) ((at_ lx.Entries t43.toNat).Word))))] [0, 4, 5, 6, 9, 10, 12, 13, 41, 42, 43] [4, 5, 6, 12, 32, 8441] [slLattice false list, .ref 4 0, .ref 5 0, .ref 6 0, .arr 32, I k, .ref 12 0, I (tcF (at_ list k.toNat) ((at_ lx.Entries t43.toNat).Word)), slEntry false lx.Entries, I (lx.Entries.length : Int), I t43] [some (.box [slEntry false lx.Entries]), some (bxModel m), some (.box [nilA, I 0]), some (bxEntry (at_ lx.Entries t43.toNat)), some (.oar [8441] 1 st'.length (oLwordAt 8441 st')), some (.fam st'.length 2 (mLwordAt st') (gLwordAt st'))] [(0 : Int) ≤ k ∧ k < (list.length : Int), Con Try.prog 26 [agLattice (at_ list k.toNat), Sv ((at_ lx.Entries t43.toNat).Word)] true (I (tcF (at_ list k.toNat) ((at_ lx.Entries t43.toNat).Word))) ∧ True] ⟨⟨(by omega), (by omega)⟩, ⟨(textCost_ok (at_ list k.toNat) ((at_ lx.Entries t43.toNat).Word) hlt (by omega)), trivial⟩, trivial⟩ ?_
      refine x_seq ?_
      obtain ⟨v_1, found_1, hx1_0, hc1⟩ := bestWord_ok m ((at_ lx.Entries t43.toNat).Word) (at_ st' ((k + 1).toNat)) hmd hwc2 (by omega)
      have hbw := hx1_0
      rw [← hbw] at hbb
      dsimp only at hbb
      rw [show (k + 1).toNat = k.toNat + 1 from by omega] at hbw
      refine x_r [(8, .call [(true, .any), (true, .any), (false, slwordAt false (at_ st' ((k + 1).toNat)))] true (.tup [agwordAt v_1, Bv found_1])), (12, .new 14)] [0, 4, 5, 6, 9, 10, 12, 13, 14, 15, 41, 42, 43] [4, 5, 6, 12, 14, 32, 8441] [slLattice false list, .ref 4 0, .ref 5 0, .ref 6 0, .arr 32, I k, .ref 12 0, I (tcF (at_ list k.toNat) ((at_ lx.Entries t43.toNat).Word)), .ref 14 0, Bv found_1, slEntry false lx.Entries, I (lx.Entries.length : Int), I t43] [some (.box [slEntry false lx.Entries]), some (bxModel m), some (.box [nilA, I 0]), some (bxEntry (at_ lx.Entries t43.toNat)), some (bxwordAt v_1), some (.oar [8441] 1 st'.length (oLwordAt 8441 st')), some (.fam st'.length 2 (mLwordAt st') (gLwordAt st'))] [inR .i64 (k + 1), (0 : Int) ≤ (k + 1) ∧ (k + 1) < (st'.length : Int), (k + 1).toNat < st'.length, Con Try.prog 27 [agModel m, Sv ((at_ lx.Entries t43.toNat).Word), slwordAt false (at_ st' ((k + 1).toNat))] true (.tup [agwordAt v_1, Bv found_1]) ∧ ((false = true → true = true) ∧ ((k + 1).toNat) < st'.length ∧ 2 = 2 ∧ mLwordAt st' ((k + 1).toNat) = ((at_ st' ((k + 1).toNat)).length) ∧ ∀ i_, i_ < ((at_ st' ((k + 1).toNat)).length) → gLwordAt st' ((k + 1).toNat) i_ = (fwordAt (at_ st' ((k + 1).toNat))) i_ ∨ (AV.idsL ((fwordAt (at_ st' ((k + 1).toNat))) i_) = [] ∧ leL (fun _ => none) false (gLwordAt st' ((k + 1).toNat) i_) ((fwordAt (at_ st' ((k + 1).toNat))) i_))) ∧ True] ⟨(inR_i64 (by omega) (by omega)), ⟨(by omega), (by omega)⟩, (by omega), ⟨hc1, ⟨(fun h => by cases h), (by omega), rfl, rfl, fun i _ => .inl rfl⟩, trivial⟩, trivial⟩ ?_
      refine xe_then ?_
      refine x_seq ?_
      by_cases h3 : (tcF (at_ list k.toNat) ((at_ lx.Entries t43.toNat).Word)) < 1099511627776
      ·rcases Bool.eq_false_or_eq_true found_1 with h4 | h4
       ·subst h4
        refine x_r [(1, .dec true)] [0, 4, 5, 6, 9, 10, 12, 13, 14, 41, 42, 43, 77] [4, 5, 6, 12, 14, 32, 8441] [slLattice false list, .ref 4 0, .ref 5 0, .ref 6 0, .arr 32, I k, .ref 12 0, I (tcF (at_ list k.toNat) ((at_ lx.Entries t43.toNat).Word)), .ref 14 0, slEntry false lx.Entries, I (lx.Entries.length : Int), I t43, Bv true] [some (.box [slEntry false lx.Entries]), some (bxModel m), some (.box [nilA, I 0]), some (bxEntry (at_ lx.Entries t43.toNat)), some (bxwordAt v_1), some (.oar [8441] 1 st'.length (oLwordAt 8441 st')), some (.fam st'.length 2 (mLwordAt st') (gLwordAt st'))] [(tcF (at_ list k.toNat) ((at_ lx.Entries t43.toNat).Word)) < 1099511627776] ⟨h3, trivial⟩ ?_
        refine xe_then ?_
        refine x_true rfl ?_
        refine x_takerow 32 8501 8441 k.toNat rfl rfl ((by omega)) (fun q _ => rfl) (by kernel_rfl) ?_
        refine x_weak [] (T := [(0, slLattice false list), (4, .ref 4 0), (5, .ref 5 0), (6, .ref 6 0), (9, .arr 32), (10, I k), (12, .ref 12 0), (13, I (tcF (at_ list k.toNat) ((at_ lx.Entries t43.toNat).Word))), (14, .ref 14 0), (41, slEntry false lx.Entries), (42, I (lx.Entries.length : Int)), (43, I t43), (77, Bv true)]) (O := [(4, .box [slEntry false lx.Entries]), (5, bxModel m), (6, .box [nilA, I 0]), (12, bxEntry (at_ lx.Entries t43.toNat)), (14, bxwordAt v_1), (32, .oar [8501, 8441] 1 ((st'.set k.toNat ([] : List wordAt)).length) (fun q => bif Nat.beq q k.toNat then [.arr 8501] else (oLwordAt 8441 (st'.set k.toNat ([] : List wordAt))) q)), (8441, .fam (st'.set k.toNat ([] : List wordAt)).length 2 (mLwordAt (st'.set k.toNat ([] : List wordAt))) (gLwordAt (st'.set k.toNat ([] : List wordAt)))), (8501, .arr 2 ((at_ st' k.toNat).length) (fwordAt (at_ st' k.toNat)))]) rfl (⟨.inl rfl, .inl rfl, .inl rfl, .inl rfl, .inl rfl, .inl rfl, .inl rfl, .inl rfl, .inl rfl, .inl rfl, .inl rfl, .inl rfl, .inl rfl, trivial⟩) (⟨.inl rfl, .inl rfl, .inl rfl, .inl rfl, .inl rfl, .inr ⟨rfl, rfl, (by first | rfl | (simp; done)), fun i hi => .inl (by dsimp only; cases Nat.beq i k.toNat <;> rfl)⟩, .inr (fputLwordAt ((by omega)) (by first | rfl | (simp; done) | (simp; omega)) (fun i_ h_ => absurd h_ (Nat.not_lt_zero _))), .inl rfl, trivial⟩) ?_
        refine x_r [(5, .as (.arr 8501)), (16, .new 94), (17, .new 95)] [0, 4, 5, 6, 9, 10, 41, 42, 43] [4, 5, 6, 32, 95, 8441] [slLattice false list, .ref 4 0, .ref 5 0, .ref 6 0, .arr 32, I k, slEntry false lx.Entries, I (lx.Entries.length : Int), I t43] [some (.box [slEntry false lx.Entries]), some (bxModel m), some (.box [nilA, I 0]), some (.oar [8501, 8441, 95] 1 ((st'.set k.toNat ([] : List wordAt)).length) (fun q => bif Nat.beq q k.toNat then spl ((fun q => bif Nat.beq q k.toNat then [.arr 8501] else (oLwordAt 8441 (st'.set k.toNat ([] : List wordAt))) q) k.toNat) 0 [.arr 95] else (fun q => bif Nat.beq q k.toNat then [.arr 8501] else (oLwordAt 8441 (st'.set k.toNat ([] : List wordAt))) q) q)), some (.arr 2 (((at_ st' k.toNat).length) + 1) (catF ((at_ st' k.toNat).length) (fwordAt (at_ st' k.toNat)) (litF [Sv ((at_ lx.Entries t43.toNat).Word), I (((tcF (at_ list k.toNat) ((at_ lx.Entries t43.toNat).Word)) + ((at_ lx.Entries t43.toNat).Cost)) + v_1.cost)] 2))), some (.fam (st'.set k.toNat ([] : List wordAt)).length 2 (mLwordAt (st'.set k.toNat ([] : List wordAt))) (gLwordAt (st'.set k.toNat ([] : List wordAt))))] [(0 : Int) ≤ k ∧ k < (((st'.set k.toNat ([] : List wordAt)).length) : Int), k.toNat < (st'.set k.toNat ([] : List wordAt)).length ∧ List.drop 0 ((fun q => bif Nat.beq q k.toNat then [.arr 8501] else (oLwordAt 8441 (st'.set k.toNat ([] : List wordAt))) q) k.toNat) = [.arr 8501], inR .i64 ((tcF (at_ list k.toNat) ((at_ lx.Entries t43.toNat).Word)) + ((at_ lx.Entries t43.toNat).Cost)), inR .i64 (((tcF (at_ list k.toNat) ((at_ lx.Entries t43.toNat).Word)) + ((at_ lx.Entries t43.toNat).Cost)) + v_1.cost), (((at_ st' k.toNat).length) + 1) * 24 ≤ 140737488355328, (0 : Int) ≤ k ∧ k < (((st'.set k.toNat ([] : List wordAt)).length) : Int), k.toNat < (st'.set k.toNat ([] : List wordAt)).length] ⟨⟨(by first | omega | (simp only [List.length_set]; omega)), (by first | omega | (simp only [List.length_set]; omega))⟩, ⟨(by first | omega | (simp only [List.length_set]; omega)), (by simp only [Nat.beq_refl, cond_true]; rfl)⟩, (inR_i64 (by omega) (by omega)), (inR_i64 (by omega) (by omega)), (by omega), ⟨(by first | omega | (simp only [List.length_set]; omega)), (by first | omega | (simp only [List.length_set]; omega))⟩, (by first | omega | (simp only [List.length_set]; omega)), trivial⟩ ?_
        refine xe_block 3 ?_
        refine xe_then ?_
        refine x_putrow 32 95 8441 k.toNat rfl rfl rfl ((by first | omega | (simp only [List.length_set]; omega))) (by first | exact Nat.le_refl _ | omega) (fun q _ => ⟨fun e => by subst e; simp only [Nat.beq_refl, cond_true]; rfl, fun e => by simp only [beq_ne e, cond_false]; rfl⟩) (by kernel_rfl) ?_
        refine x_weak [] (T := [(0, slLattice false list), (4, .ref 4 0), (5, .ref 5 0), (6, .ref 6 0), (9, .arr 32), (10, I k), (41, slEntry false lx.Entries), (42, I (lx.Entries.length : Int)), (43, I t43)]) (O := [(4, .box [slEntry false lx.Entries]), (5, bxModel m), (6, .box [nilA, I 0]), (32, .oar [8441] 1 (((st'.set k.toNat ([] : List wordAt)).set k.toNat ((at_ st' k.toNat) ++ [(wordAt.mk ((at_ lx.Entries t43.toNat).Word) (((tcF (at_ list k.toNat) ((at_ lx.Entries t43.toNat).Word)) + ((at_ lx.Entries t43.toNat).Cost)) + v_1.cost))])).length) (oLwordAt 8441 ((st'.set k.toNat ([] : List wordAt)).set k.toNat ((at_ st' k.toNat) ++ [(wordAt.mk ((at_ lx.Entries t43.toNat).Word) (((tcF (at_ list k.toNat) ((at_ lx.Entries t43.toNat).Word)) + ((at_ lx.Entries t43.toNat).Cost)) + v_1.cost))])))), (8441, .fam ((st'.set k.toNat ([] : List wordAt)).set k.toNat ((at_ st' k.toNat) ++ [(wordAt.mk ((at_ lx.Entries t43.toNat).Word) (((tcF (at_ list k.toNat) ((at_ lx.Entries t43.toNat).Word)) + ((at_ lx.Entries t43.toNat).Cost)) + v_1.cost))])).length 2 (mLwordAt ((st'.set k.toNat ([] : List wordAt)).set k.toNat ((at_ st' k.toNat) ++ [(wordAt.mk ((at_ lx.Entries t43.toNat).Word) (((tcF (at_ list k.toNat) ((at_ lx.Entries t43.toNat).Word)) + ((at_ lx.Entries t43.toNat).Cost)) + v_1.cost))]))) (gLwordAt ((st'.set k.toNat ([] : List wordAt)).set k.toNat ((at_ st' k.toNat) ++ [(wordAt.mk ((at_ lx.Entries t43.toNat).Word) (((tcF (at_ list k.toNat) ((at_ lx.Entries t43.toNat).Word)) + ((at_ lx.Entries t43.toNat).Cost)) + v_1.cost))]))))]) rfl (⟨.inl rfl, .inl rfl, .inl rfl, .inl rfl, .inl rfl, .inl rfl, .inl rfl, .inl rfl, .inl rfl, trivial⟩) (⟨.inl rfl, .inl rfl, .inl rfl, .inr ⟨rfl, rfl, (by simp), fun i hi => .inl rfl⟩, .inr (fputLwordAt ((by first | omega | (simp only [List.length_set]; omega))) (by first | rfl | (simp; done) | (simp; omega)) (fun i_ h_ => (show ∀ i_ : Nat, i_ < (((at_ st' k.toNat) ++ [(wordAt.mk ((at_ lx.Entries t43.toNat).Word) (((tcF (at_ list k.toNat) ((at_ lx.Entries t43.toNat).Word)) + ((at_ lx.Entries t43.toNat).Cost)) + v_1.cost))]) : List wordAt).length → (catF ((at_ st' k.toNat).length) (fwordAt (at_ st' k.toNat)) (litF [Sv ((at_ lx.Entries t43.toNat).Word), I (((tcF (at_ list k.toNat) ((at_ lx.Entries t43.toNat).Word)) + ((at_ lx.Entries t43.toNat).Cost)) + v_1.cost)] 2)) i_ = (fwordAt ((at_ st' k.toNat) ++ [(wordAt.mk ((at_ lx.Entries t43.toNat).Word) (((tcF (at_ list k.toNat) ((at_ lx.Entries t43.toNat).Word)) + ((at_ lx.Entries t43.toNat).Cost)) + v_1.cost))])) i_ from fun i_ hi_ => (cat_snoc (enc := cwordAt) (xs := (at_ st' k.toNat)) rfl i_ hi_)) i_ (by first | exact h_ | (simpa using h_)))), trivial⟩) ?_
        refine x_r [] [0, 4, 5, 6, 9, 10, 41, 42, 43] [4, 5, 6, 32, 8441] [slLattice false list, .ref 4 0, .ref 5 0, .ref 6 0, .arr 32, I k, slEntry false lx.Entries, I (lx.Entries.length : Int), I (t43 + 1)] [some (.box [slEntry false lx.Entries]), some (bxModel m), some (.box [nilA, I 0]), some (.oar [8441] 1 (((st'.set k.toNat ([] : List wordAt)).set k.toNat ((at_ st' k.toNat) ++ [(wordAt.mk ((at_ lx.Entries t43.toNat).Word) (((tcF (at_ list k.toNat) ((at_ lx.Entries t43.toNat).Word)) + ((at_ lx.Entries t43.toNat).Cost)) + v_1.cost))])).length) (oLwordAt 8441 ((st'.set k.toNat ([] : List wordAt)).set k.toNat ((at_ st' k.toNat) ++ [(wordAt.mk ((at_ lx.Entries t43.toNat).Word) (((tcF (at_ list k.toNat) ((at_ lx.Entries t43.toNat).Word)) + ((at_ lx.Entries t43.toNat).Cost)) + v_1.cost))])))), some (.fam ((st'.set k.toNat ([] : List wordAt)).set k.toNat ((at_ st' k.toNat) ++ [(wordAt.mk ((at_ lx.Entries t43.toNat).Word) (((tcF (at_ list k.toNat) ((at_ lx.Entries t43.toNat).Word)) + ((at_ lx.Entries t43.toNat).Cost)) + v_1.cost))])).length 2 (mLwordAt ((st'.set k.toNat ([] : List wordAt)).set k.toNat ((at_ st' k.toNat) ++ [(wordAt.mk ((at_ lx.Entries t43.toNat).Word) (((tcF (at_ list k.toNat) ((at_ lx.Entries t43.toNat).Word)) + ((at_ lx.Entries t43.toNat).Cost)) + v_1.cost))]))) (gLwordAt ((st'.set k.toNat ([] : List wordAt)).set k.toNat ((at_ st' k.toNat) ++ [(wordAt.mk ((at_ lx.Entries t43.toNat).Word) (((tcF (at_ list k.toNat) ((at_ lx.Entries t43.toNat).Word)) + ((at_ lx.Entries t43.toNat).Cost)) + v_1.cost))]))))] [inR .i64 (t43 + 1)] ⟨(inR_i64 (by omega) (by omega)), trivial⟩ ?_
        exact xe_again ((t43 + 1), ((st'.set k.toNat ([] : List wordAt)).set k.toNat ((at_ st' k.toNat) ++ [(wordAt.mk ((at_ lx.Entries t43.toNat).Word) (((tcF (at_ list k.toNat) ((at_ lx.Entries t43.toNat).Word)) + ((at_ lx.Entries t43.toNat).Cost)) + v_1.cost))]))) rfl (show (0 ≤ (t43 + 1) ∧ (t43 + 1) ≤ (lx.Entries.length : Int)) ∧ (stIn list lx m ((st'.set k.toNat ([] : List wordAt)).set k.toNat ((at_ st' k.toNat) ++ [(wordAt.mk ((at_ lx.Entries t43.toNat).Word) (((tcF (at_ list k.toNat) ((at_ lx.Entries t43.toNat).Word)) + ((at_ lx.Entries t43.toNat).Cost)) + v_1.cost))])) k.toNat (t43 + 1).toNat) ∧ True from ⟨(by omega), (by (try rw [List.set_set]); rw [show (t43 + 1).toNat = t43.toNat + 1 from by omega]; first | exact st_y hin (by omega) rfl hbw ⟨by assumption, .inl rfl⟩ | exact st_y hin (by omega) rfl hbw ⟨by assumption, .inr (by omega)⟩ | exact st_n hin (by omega) rfl hbw (fun q => absurd q.1 (by assumption)) | exact st_n hin (by omega) rfl hbw (fun q => q.2.elim (fun z => by cases z) (fun z => by omega))), trivial⟩) (by first | (show (((lx.Entries.length : Int) - (t43 + 1)).toNat : Nat) < ((lx.Entries.length : Int) - t43).toNat; omega) | (dsimp only; omega))
       subst h4
       by_cases h5 : k = ((list.length : Int) - 1)
       ·refine x_r [(1, .dec true), (9, .dec true)] [0, 4, 5, 6, 9, 10, 12, 13, 14, 41, 42, 43, 77] [4, 5, 6, 12, 14, 32, 8441] [slLattice false list, .ref 4 0, .ref 5 0, .ref 6 0, .arr 32, I k, .ref 12 0, I (tcF (at_ list k.toNat) ((at_ lx.Entries t43.toNat).Word)), .ref 14 0, slEntry false lx.Entries, I (lx.Entries.length : Int), I t43, Bv true] [some (.box [slEntry false lx.Entries]), some (bxModel m), some (.box [nilA, I 0]), some (bxEntry (at_ lx.Entries t43.toNat)), some (bxwordAt v_1), some (.oar [8441] 1 st'.length (oLwordAt 8441 st')), some (.fam st'.length 2 (mLwordAt st') (gLwordAt st'))] [(tcF (at_ list k.toNat) ((at_ lx.Entries t43.toNat).Word)) < 1099511627776, inR .i64 ((list.length : Int) - 1), k = ((list.length : Int) - 1)] ⟨h3, (inR_i64 (by omega) (by omega)), h5, trivial⟩ ?_
        refine xe_then ?_
        refine x_true rfl ?_
        refine x_takerow 32 8502 8441 k.toNat rfl rfl ((by omega)) (fun q _ => rfl) (by kernel_rfl) ?_
        refine x_weak [] (T := [(0, slLattice false list), (4, .ref 4 0), (5, .ref 5 0), (6, .ref 6 0), (9, .arr 32), (10, I k), (12, .ref 12 0), (13, I (tcF (at_ list k.toNat) ((at_ lx.Entries t43.toNat).Word))), (14, .ref 14 0), (41, slEntry false lx.Entries), (42, I (lx.Entries.length : Int)), (43, I t43), (77, Bv true)]) (O := [(4, .box [slEntry false lx.Entries]), (5, bxModel m), (6, .box [nilA, I 0]), (12, bxEntry (at_ lx.Entries t43.toNat)), (14, bxwordAt v_1), (32, .oar [8502, 8441] 1 ((st'.set k.toNat ([] : List wordAt)).length) (fun q => bif Nat.beq q k.toNat then [.arr 8502] else (oLwordAt 8441 (st'.set k.toNat ([] : List wordAt))) q)), (8441, .fam (st'.set k.toNat ([] : List wordAt)).length 2 (mLwordAt (st'.set k.toNat ([] : List wordAt))) (gLwordAt (st'.set k.toNat ([] : List wordAt)))), (8502, .arr 2 ((at_ st' k.toNat).length) (fwordAt (at_ st' k.toNat)))]) rfl (⟨.inl rfl, .inl rfl, .inl rfl, .inl rfl, .inl rfl, .inl rfl, .inl rfl, .inl rfl, .inl rfl, .inl rfl, .inl rfl, .inl rfl, .inl rfl, trivial⟩) (⟨.inl rfl, .inl rfl, .inl rfl, .inl rfl, .inl rfl, .inr ⟨rfl, rfl, (by first | rfl | (simp; done)), fun i hi => .inl (by dsimp only; cases Nat.beq i k.toNat <;> rfl)⟩, .inr (fputLwordAt ((by omega)) (by first | rfl | (simp; done) | (simp; omega)) (fun i_ h_ => absurd h_ (Nat.not_lt_zero _))), .inl rfl, trivial⟩) ?_
        refine x_r [(5, .as (.arr 8502)), (16, .new 94), (17, .new 95)] [0, 4, 5, 6, 9, 10, 41, 42, 43] [4, 5, 6, 32, 95, 8441] [slLattice false list, .ref 4 0, .ref 5 0, .ref 6 0, .arr 32, I k, slEntry false lx.Entries, I (lx.Entries.length : Int), I t43] [some (.box [slEntry false lx.Entries]), some (bxModel m), some (.box [nilA, I 0]), some (.oar [8502, 8441, 95] 1 ((st'.set k.toNat ([] : List wordAt)).length) (fun q => bif Nat.beq q k.toNat then spl ((fun q => bif Nat.beq q k.toNat then [.arr 8502] else (oLwordAt 8441 (st'.set k.toNat ([] : List wordAt))) q) k.toNat) 0 [.arr 95] else (fun q => bif Nat.beq q k.toNat then [.arr 8502] else (oLwordAt 8441 (st'.set k.toNat ([] : List wordAt))) q) q)), some (.arr 2 (((at_ st' k.toNat).length) + 1) (catF ((at_ st' k.toNat).length) (fwordAt (at_ st' k.toNat)) (litF [Sv ((at_ lx.Entries t43.toNat).Word), I (((tcF (at_ list k.toNat) ((at_ lx.Entries t43.toNat).Word)) + ((at_ lx.Entries t43.toNat).Cost)) + v_1.cost)] 2))), some (.fam (st'.set k.toNat ([] : List wordAt)).length 2 (mLwordAt (st'.set k.toNat ([] : List wordAt))) (gLwordAt (st'.set k.toNat ([] : List wordAt))))] [(0 : Int) ≤ k ∧ k < (((st'.set k.toNat ([] : List wordAt)).length) : Int), k.toNat < (st'.set k.toNat ([] : List wordAt)).length ∧ List.drop 0 ((fun q => bif Nat.beq q k.toNat then [.arr 8502] else (oLwordAt 8441 (st'.set k.toNat ([] : List wordAt))) q) k.toNat) = [.arr 8502], inR .i64 ((tcF (at_ list k.toNat) ((at_ lx.Entries t43.toNat).Word)) + ((at_ lx.Entries t43.toNat).Cost)), inR .i64 (((tcF (at_ list k.toNat) ((at_ lx.Entries t43.toNat).Word)) + ((at_ lx.Entries t43.toNat).Cost)) + v_1.cost), (((at_ st' k.toNat).length) + 1) * 24 ≤ 140737488355328, (0 : Int) ≤ k ∧ k < (((st'.set k.toNat ([] : List wordAt)).length) : Int), k.toNat < (st'.set k.toNat ([] : List wordAt)).length] ⟨⟨(by first | omega | (simp only [List.length_set]; omega)), (by first | omega | (simp only [List.length_set]; omega))⟩, ⟨(by first | omega | (simp only [List.length_set]; omega)), (by simp only [Nat.beq_refl, cond_true]; rfl)⟩, (inR_i64 (by omega) (by omega)), (inR_i64 (by omega) (by omega)), (by omega), ⟨(by first | omega | (simp only [List.length_set]; omega)), (by first | omega | (simp only [List.length_set]; omega))⟩, (by first | omega | (simp only [List.length_set]; omega)), trivial⟩ ?_
        refine xe_block 3 ?_
        refine xe_then ?_
        refine x_putrow 32 95 8441 k.toNat rfl rfl rfl ((by first | omega | (simp only [List.length_set]; omega))) (by first | exact Nat.le_refl _ | omega) (fun q _ => ⟨fun e => by subst e; simp only [Nat.beq_refl, cond_true]; rfl, fun e => by simp only [beq_ne e, cond_false]; rfl⟩) (by kernel_rfl) ?_
        refine x_weak [] (T := [(0, slLattice false list), (4, .ref 4 0), (5, .ref 5 0), (6, .ref 6 0), (9, .arr 32), (10, I k), (41, slEntry false lx.Entries), (42, I (lx.Entries.length : Int)), (43, I t43)]) (O := [(4, .box [slEntry false lx.Entries]), (5, bxModel m), (6, .box [nilA, I 0]), (32, .oar [8441] 1 (((st'.set k.toNat ([] : List wordAt)).set k.toNat ((at_ st' k.toNat) ++ [(wordAt.mk ((at_ lx.Entries t43.toNat).Word) (((tcF (at_ list k.toNat) ((at_ lx.Entries t43.toNat).Word)) + ((at_ lx.Entries t43.toNat).Cost)) + v_1.cost))])).length) (oLwordAt 8441 ((st'.set k.toNat ([] : List wordAt)).set k.toNat ((at_ st' k.toNat) ++ [(wordAt.mk ((at_ lx.Entries t43.toNat).Word) (((tcF (at_ list k.toNat) ((at_ lx.Entries t43.toNat).Word)) + ((at_ lx.Entries t43.toNat).Cost)) + v_1.cost))])))), (8441, .fam ((st'.set k.toNat ([] : List wordAt)).set k.toNat ((at_ st' k.toNat) ++ [(wordAt.mk ((at_ lx.Entries t43.toNat).Word) (((tcF (at_ list k.toNat) ((at_ lx.Entries t43.toNat).Word)) + ((at_ lx.Entries t43.toNat).Cost)) + v_1.cost))])).length 2 (mLwordAt ((st'.set k.toNat ([] : List wordAt)).set k.toNat ((at_ st' k.toNat) ++ [(wordAt.mk ((at_ lx.Entries t43.toNat).Word) (((tcF (at_ list k.toNat) ((at_ lx.Entries t43.toNat).Word)) + ((at_ lx.Entries t43.toNat).Cost)) + v_1.cost))]))) (gLwordAt ((st'.set k.toNat ([] : List wordAt)).set k.toNat ((at_ st' k.toNat) ++ [(wordAt.mk ((at_ lx.Entries t43.toNat).Word) (((tcF (at_ list k.toNat) ((at_ lx.Entries t43.toNat).Word)) + ((at_ lx.Entries t43.toNat).Cost)) + v_1.cost))]))))]) rfl (⟨.inl rfl, .inl rfl, .inl rfl, .inl rfl, .inl rfl, .inl rfl, .inl rfl, .inl rfl, .inl rfl, trivial⟩) (⟨.inl rfl, .inl rfl, .inl rfl, .inr ⟨rfl, rfl, (by simp), fun i hi => .inl rfl⟩, .inr (fputLwordAt ((by first | omega | (simp only [List.length_set]; omega))) (by first | rfl | (simp; done) | (simp; omega)) (fun i_ h_ => (show ∀ i_ : Nat, i_ < (((at_ st' k.toNat) ++ [(wordAt.mk ((at_ lx.Entries t43.toNat).Word) (((tcF (at_ list k.toNat) ((at_ lx.Entries t43.toNat).Word)) + ((at_ lx.Entries t43.toNat).Cost)) + v_1.cost))]) : List wordAt).length → (catF ((at_ st' k.toNat).length) (fwordAt (at_ st' k.toNat)) (litF [Sv ((at_ lx.Entries t43.toNat).Word), I (((tcF (at_ list k.toNat) ((at_ lx.Entries t43.toNat).Word)) + ((at_ lx.Entries t43.toNat).Cost)) + v_1.cost)] 2)) i_ = (fwordAt ((at_ st' k.toNat) ++ [(wordAt.mk ((at_ lx.Entries t43.toNat).Word) (((tcF (at_ list k.toNat) ((at_ lx.Entries t43.toNat).Word)) + ((at_ lx.Entries t43.toNat).Cost)) + v_1.cost))])) i_ from fun i_ hi_ => (cat_snoc (enc := cwordAt) (xs := (at_ st' k.toNat)) rfl i_ hi_)) i_ (by first | exact h_ | (simpa using h_)))), trivial⟩) ?_
        refine x_r [] [0, 4, 5, 6, 9, 10, 41, 42, 43] [4, 5, 6, 32, 8441] [slLattice false list, .ref 4 0, .ref 5 0, .ref 6 0, .arr 32, I k, slEntry false lx.Entries, I (lx.Entries.length : Int), I (t43 + 1)] [some (.box [slEntry false lx.Entries]), some (bxModel m), some (.box [nilA, I 0]), some (.oar [8441] 1 (((st'.set k.toNat ([] : List wordAt)).set k.toNat ((at_ st' k.toNat) ++ [(wordAt.mk ((at_ lx.Entries t43.toNat).Word) (((tcF (at_ list k.toNat) ((at_ lx.Entries t43.toNat).Word)) + ((at_ lx.Entries t43.toNat).Cost)) + v_1.cost))])).length) (oLwordAt 8441 ((st'.set k.toNat ([] : List wordAt)).set k.toNat ((at_ st' k.toNat) ++ [(wordAt.mk ((at_ lx.Entries t43.toNat).Word) (((tcF (at_ list k.toNat) ((at_ lx.Entries t43.toNat).Word)) + ((at_ lx.Entries t43.toNat).Cost)) + v_1.cost))])))), some (.fam ((st'.set k.toNat ([] : List wordAt)).set k.toNat ((at_ st' k.toNat) ++ [(wordAt.mk ((at_ lx.Entries t43.toNat).Word) (((tcF (at_ list k.toNat) ((at_ lx.Entries t43.toNat).Word)) + ((at_ lx.Entries t43.toNat).Cost)) + v_1.cost))])).length 2 (mLwordAt ((st'.set k.toNat ([] : List wordAt)).set k.toNat ((at_ st' k.toNat) ++ [(wordAt.mk ((at_ lx.Entries t43.toNat).Word) (((tcF (at_ list k.toNat) ((at_ lx.Entries t43.toNat).Word)) + ((at_ lx.Entries t43.toNat).Cost)) + v_1.cost))]))) (gLwordAt ((st'.set k.toNat ([] : List wordAt)).set k.toNat ((at_ st' k.toNat) ++ [(wordAt.mk ((at_ lx.Entries t43.toNat).Word) (((tcF (at_ list k.toNat) ((at_ lx.Entries t43.toNat).Word)) + ((at_ lx.Entries t43.toNat).Cost)) + v_1.cost))]))))] [inR .i64 (t43 + 1)] ⟨(inR_i64 (by omega) (by omega)), trivial⟩ ?_
        exact xe_again ((t43 + 1), ((st'.set k.toNat ([] : List wordAt)).set k.toNat ((at_ st' k.toNat) ++ [(wordAt.mk ((at_ lx.Entries t43.toNat).Word) (((tcF (at_ list k.toNat) ((at_ lx.Entries t43.toNat).Word)) + ((at_ lx.Entries t43.toNat).Cost)) + v_1.cost))]))) rfl (show (0 ≤ (t43 + 1) ∧ (t43 + 1) ≤ (lx.Entries.length : Int)) ∧ (stIn list lx m ((st'.set k.toNat ([] : List wordAt)).set k.toNat ((at_ st' k.toNat) ++ [(wordAt.mk ((at_ lx.Entries t43.toNat).Word) (((tcF (at_ list k.toNat) ((at_ lx.Entries t43.toNat).Word)) + ((at_ lx.Entries t43.toNat).Cost)) + v_1.cost))])) k.toNat (t43 + 1).toNat) ∧ True from ⟨(by omega), (by (try rw [List.set_set]); rw [show (t43 + 1).toNat = t43.toNat + 1 from by omega]; first | exact st_y hin (by omega) rfl hbw ⟨by assumption, .inl rfl⟩ | exact st_y hin (by omega) rfl hbw ⟨by assumption, .inr (by omega)⟩ | exact st_n hin (by omega) rfl hbw (fun q => absurd q.1 (by assumption)) | exact st_n hin (by omega) rfl hbw (fun q => q.2.elim (fun z => by cases z) (fun z => by omega))), trivial⟩) (by first | (show (((lx.Entries.length : Int) - (t43 + 1)).toNat : Nat) < ((lx.Entries.length : Int) - t43).toNat; omega) | (dsimp only; omega))
       refine x_r [(1, .dec true), (9, .dec false)] [0, 4, 5, 6, 9, 10, 12, 13, 14, 41, 42, 43, 77] [4, 5, 6, 12, 14, 32, 8441] [slLattice false list, .ref 4 0, .ref 5 0, .ref 6 0, .arr 32, I k, .ref 12 0, I (tcF (at_ list k.toNat) ((at_ lx.Entries t43.toNat).Word)), .ref 14 0, slEntry false lx.Entries, I (lx.Entries.length : Int), I t43, Bv false] [some (.box [slEntry false lx.Entries]), some (bxModel m), some (.box [nilA, I 0]), some (bxEntry (at_ lx.Entries t43.toNat)), some (bxwordAt v_1), some (.oar [8441] 1 st'.length (oLwordAt 8441 st')), some (.fam st'.length 2 (mLwordAt st') (gLwordAt st'))] [(tcF (at_ list k.toNat) ((at_ lx.Entries t43.toNat).Word)) < 1099511627776, inR .i64 ((list.length : Int) - 1), ¬ (k = ((list.length : Int) - 1))] ⟨h3, (inR_i64 (by omega) (by omega)), h5, trivial⟩ ?_
       refine xe_then ?_
       refine x_false rfl ?_
       refine x_skip ?_
       refine xe_block 3 ?_
       refine xe_then ?_
       refine x_r [] [0, 4, 5, 6, 9, 10, 41, 42, 43] [4, 5, 6, 32, 8441] [slLattice false list, .ref 4 0, .ref 5 0, .ref 6 0, .arr 32, I k, slEntry false lx.Entries, I (lx.Entries.length : Int), I (t43 + 1)] [some (.box [slEntry false lx.Entries]), some (bxModel m), some (.box [nilA, I 0]), some (.oar [8441] 1 st'.length (oLwordAt 8441 st')), some (.fam st'.length 2 (mLwordAt st') (gLwordAt st'))] [inR .i64 (t43 + 1)] ⟨(inR_i64 (by omega) (by omega)), trivial⟩ ?_
       exact xe_again ((t43 + 1), st') rfl (show (0 ≤ (t43 + 1) ∧ (t43 + 1) ≤ (lx.Entries.length : Int)) ∧ (stIn list lx m st' k.toNat (t43 + 1).toNat) ∧ True from ⟨(by omega), (by (try rw [List.set_set]); rw [show (t43 + 1).toNat = t43.toNat + 1 from by omega]; first | exact st_y hin (by omega) rfl hbw ⟨by assumption, .inl rfl⟩ | exact st_y hin (by omega) rfl hbw ⟨by assumption, .inr (by omega)⟩ | exact st_n hin (by omega) rfl hbw (fun q => absurd q.1 (by assumption)) | exact st_n hin (by omega) rfl hbw (fun q => q.2.elim (fun z => by cases z) (fun z => by omega))), trivial⟩) (by first | (show (((lx.Entries.length : Int) - (t43 + 1)).toNat : Nat) < ((lx.Entries.length : Int) - t43).toNat; omega) | (dsimp only; omega))
      refine x_r [(1, .dec false)] [0, 4, 5, 6, 9, 10, 12, 13, 14, 41, 42, 43, 77] [4, 5, 6, 12, 14, 32, 8441] [slLattice false list, .ref 4 0, .ref 5 0, .ref 6 0, .arr 32, I k, .ref 12 0, I (tcF (at_ list k.toNat) ((at_ lx.Entries t43.toNat).Word)), .ref 14 0, slEntry false lx.Entries, I (lx.Entries.length : Int), I t43, Bv false] [some (.box [slEntry false lx.Entries]), some (bxModel m), some (.box [nilA, I 0]), some (bxEntry (at_ lx.Entries t43.toNat)), some (bxwordAt v_1), some (.oar [8441] 1 st'.length (oLwordAt 8441 st')), some (.fam st'.length 2 (mLwordAt st') (gLwordAt st'))] [¬ ((tcF (at_ list k.toNat) ((at_ lx.Entries t43.toNat).Word)) < 1099511627776)] ⟨h3, trivial⟩ ?_
      refine xe_then ?_
      refine x_false rfl ?_
      refine x_skip ?_
      refine xe_block 3 ?_
      refine xe_then ?_
      refine x_r [] [0, 4, 5, 6, 9, 10, 41, 42, 43] [4, 5, 6, 32, 8441] [slLattice false list, .ref 4 0, .ref 5 0, .ref 6 0, .arr 32, I k, slEntry false lx.Entries, I (lx.Entries.length : Int), I (t43 + 1)] [some (.box [slEntry false lx.Entries]), some (bxModel m), some (.box [nilA, I 0]), some (.oar [8441] 1 st'.length (oLwordAt 8441 st')), some (.fam st'.length 2 (mLwordAt st') (gLwordAt st'))] [inR .i64 (t43 + 1)] ⟨(inR_i64 (by omega) (by omega)), trivial⟩ ?_
      exact xe_again ((t43 + 1), st') rfl (show (0 ≤ (t43 + 1) ∧ (t43 + 1) ≤ (lx.Entries.length : Int)) ∧ (stIn list lx m st' k.toNat (t43 + 1).toNat) ∧ True from ⟨(by omega), (by (try rw [List.set_set]); rw [show (t43 + 1).toNat = t43.toNat + 1 from by omega]; first | exact st_y hin (by omega) rfl hbw ⟨by assumption, .inl rfl⟩ | exact st_y hin (by omega) rfl hbw ⟨by assumption, .inr (by omega)⟩ | exact st_n hin (by omega) rfl hbw (fun q => absurd q.1 (by assumption)) | exact st_n hin (by omega) rfl hbw (fun q => q.2.elim (fun z => by cases z) (fun z => by omega))), trivial⟩) (by first | (show (((lx.Entries.length : Int) - (t43 + 1)).toNat : Nat) < ((lx.Entries.length : Int) - t43).toNat; omega) | (dsimp only; omega))
     have hie : t43.toNat = lx.Entries.length := by omega
     refine x_r [(0, .dec false)] [0, 4, 5, 6, 9, 10, 41, 42, 43, 44] [4, 5, 6, 32, 8441] [slLattice false list, .ref 4 0, .ref 5 0, .ref 6 0, .arr 32, I k, slEntry false lx.Entries, I (lx.Entries.length : Int), I t43, Bv false] [some (.box [slEntry false lx.Entries]), some (bxModel m), some (.box [nilA, I 0]), some (.oar [8441] 1 st'.length (oLwordAt 8441 st')), some (.fam st'.length 2 (mLwordAt st') (gLwordAt st'))] [¬ (t43 < (lx.Entries.length : Int))] ⟨h2, trivial⟩ ?_
     refine xe_then ?_
     refine x_seq ?_
     refine x_false rfl ?_
     refine x_exit ?_
     refine xe_exit_then ?_
     refine xe_loop_exit ?_
     refine xe_exit_same ?_
     refine xe_block 1 ?_
     refine xe_then ?_
     refine x_r [] [0, 4, 5, 6, 9, 10] [4, 5, 6, 32, 8441] [slLattice false list, .ref 4 0, .ref 5 0, .ref 6 0, .arr 32, I (k - 1)] [some (.box [slEntry false lx.Entries]), some (bxModel m), some (.box [nilA, I 0]), some (.oar [8441] 1 st'.length (oLwordAt 8441 st')), some (.fam st'.length 2 (mLwordAt st') (gLwordAt st'))] [inR .i64 (k - 1)] ⟨(inR_i64 (by omega) (by omega)), trivial⟩ ?_
     exact xe_again ((k - 1), st') rfl (show (0 ≤ (k - 1) + 1 ∧ (k - 1) < (list.length : Int)) ∧ (∃ q : Nat, (q : Int) = (k - 1) + 1 ∧ stOk list lx m st' q) ∧ True from ⟨(by omega), (by exact ⟨k.toNat, by omega, st_out (by rw [← hie]; exact hin) (by omega)⟩), trivial⟩) (by first | (show (((k - 1) + 1).toNat : Nat) < (k + 1).toNat; omega) | (dsimp only; omega))
    have hs0 : stOk list lx m st 0 := by rw [show (k + 1).toNat = 0 from by omega] at hst; exact hst
    have hsl0 := hst.1
    refine x_r [(1, .dec false)] [0, 4, 5, 6, 9, 10, 37] [4, 5, 6, 32, 8441] [slLattice false list, .ref 4 0, .ref 5 0, .ref 6 0, .arr 32, I k, Bv false] [some (.box [slEntry false lx.Entries]), some (bxModel m), some (.box [nilA, I 0]), some (.oar [8441] 1 st.length (oLwordAt 8441 st)), some (.fam st.length 2 (mLwordAt st) (gLwordAt st))] [¬ (0 ≤ k)] ⟨h1, trivial⟩ ?_
    refine xe_then ?_
    refine x_false rfl ?_
    refine x_exit ?_
    refine xe_exit_then ?_
    refine xe_loop_exit ?_
    refine xe_exit_same ?_
    refine xe_then ?_
    refine xR [(0, .new 16)] [0, 5, 6, 9, 16] [5, 6, 16, 32, 8441] [slLattice false list, .ref 5 0, .ref 6 0, .arr 32, .ref 16 0] [some (bxModel m), some (.box [nilA, I 0]), some (.box [nilA, I 0]), some (.oar [8441] 1 st.length (oLwordAt 8441 st)), some (.fam st.length 2 (mLwordAt st) (gLwordAt st))] [] trivial ?_
    refine xR [] [0, 5, 6, 9, 16, 17] [5, 6, 16, 32, 8441] [slLattice false list, .ref 5 0, .ref 6 0, .arr 32, .ref 16 0, Sv (⟨#[]⟩ : ByteArray)] [some (bxModel m), some (.box [nilA, I 0]), some (.box [nilA, I 0]), some (.oar [8441] 1 st.length (oLwordAt 8441 st)), some (.fam st.length 2 (mLwordAt st) (gLwordAt st))] [] trivial ?_
    refine x_seq ?_
    refine xR [] [5, 6, 9, 16, 17, 99, 100] [5, 6, 16, 32, 8441] [.ref 5 0, .ref 6 0, .arr 32, .ref 16 0, Sv (⟨#[]⟩ : ByteArray), I (list.length : Int), I 0] [some (bxModel m), some (.box [nilA, I 0]), some (.box [nilA, I 0]), some (.oar [8441] 1 st.length (oLwordAt 8441 st)), some (.fam st.length 2 (mLwordAt st) (gLwordAt st))] [] trivial ?_
    refine x_block ?_
    refine x_nilC 16 0 860 1 (fun _ => []) rfl (by kernel_rfl) ?_
    refine x_weak [] (T := [(5, .ref 5 0), (6, .ref 6 0), (9, .arr 32), (16, .ref 16 0), (17, Sv (⟨#[]⟩ : ByteArray)), (99, I (list.length : Int)), (100, I 0)]) (O := [(5, bxModel m), (6, .box [nilA, I 0]), (16, .box [.arr 860, I 0]), (32, .oar [8441] 1 st.length (oLwordAt 8441 st)), (860, .arr 1 (([] : List ByteArray).length) (fS ([] : List ByteArray))), (8441, .fam st.length 2 (mLwordAt st) (gLwordAt st))]) rfl (⟨.inl rfl, .inl rfl, .inl rfl, .inl rfl, .inl rfl, .inl rfl, .inl rfl, trivial⟩) (⟨.inl rfl, .inl rfl, .inl rfl, .inl rfl, .inr ⟨rfl, (by first | rfl | (simp; done) | (simp; omega) | omega), fun i_ hi_ => absurd hi_ (Nat.not_lt_zero _)⟩, .inl rfl, trivial⟩) ?_
    refine x_loop (X := ByteArray × Int × (List ByteArray) × Int) (fun x => mkS [(5, .ref 5 0), (6, .ref 6 0), (9, .arr 32), (16, .ref 16 0), (17, Sv x.1), (99, I (list.length : Int)), (100, I x.2.1)] [(5, bxModel m), (6, .box [nilA, I 0]), (16, .box [.arr 860, I x.2.2.2]), (32, .oar [8441] 1 st.length (oLwordAt 8441 st)), (860, .arr 1 x.2.2.1.length (fS x.2.2.1)), (8441, .fam st.length 2 (mLwordAt st) (gLwordAt st))]) (fun x => (0 ≤ x.2.1 ∧ x.2.1 ≤ (list.length : Int)) ∧ (x.2.2.1 = fsW list lx m x.2.1.toNat) ∧ (x.1 = lastW ⟨#[]⟩ x.2.2.1 x.2.1.toNat) ∧ (x.2.2.2 = if x.2.1 = 0 then 0 else (fsB list lx m 0).1.cost) ∧ (∀ j : Nat, (j : Int) < x.2.1 → (fsB list lx m j).2 = true) ∧ ((x.2.2.1.length : Int) = x.2.1) ∧ True) (fun x => ((list.length : Int) - x.2.1).toNat) ((⟨#[]⟩ : ByteArray), 0, ([] : List ByteArray), 0) rfl (show (0 ≤ (0 : Int) ∧ (0 : Int) ≤ (list.length : Int)) ∧ (([] : List ByteArray) = fsW list lx m (0 : Int).toNat) ∧ ((⟨#[]⟩ : ByteArray) = lastW ⟨#[]⟩ ([] : List ByteArray) (0 : Int).toNat) ∧ ((0 : Int) = if (0 : Int) = 0 then 0 else (fsB list lx m 0).1.cost) ∧ (∀ j : Nat, (j : Int) < (0 : Int) → (fsB list lx m j).2 = true) ∧ ((([] : List ByteArray).length : Int) = (0 : Int)) ∧ True from ⟨(by omega), (by rfl), (by rfl), (by rfl), (by intro j hj; omega), (by simp), trivial⟩) (fun x hI => ?_)
    obtain ⟨last, t100, ws, cost⟩ := x
    obtain ⟨hi3, hws, hla, hco, hfd, hwn, _⟩ : (0 ≤ t100 ∧ t100 ≤ (list.length : Int)) ∧ (ws = fsW list lx m t100.toNat) ∧ (last = lastW ⟨#[]⟩ ws t100.toNat) ∧ (cost = if t100 = 0 then 0 else (fsB list lx m 0).1.cost) ∧ (∀ j : Nat, (j : Int) < t100 → (fsB list lx m j).2 = true) ∧ ((ws.length : Int) = t100) ∧ True := hI
    show XW _ _ _ _ (mkS [(5, .ref 5 0), (6, .ref 6 0), (9, .arr 32), (16, .ref 16 0), (17, Sv last), (99, I (list.length : Int)), (100, I t100)] [(5, bxModel m), (6, .box [nilA, I 0]), (16, .box [.arr 860, I cost]), (32, .oar [8441] 1 st.length (oLwordAt 8441 st)), (860, .arr 1 ws.length (fS ws)), (8441, .fam st.length 2 (mLwordAt st) (gLwordAt st))]) _ _
    refine x_seq ?_
    by_cases h6 : t100 < (list.length : Int)
    ·have hi2 : t100.toNat < list.length := by omega
     have hat : at_ st t100.toNat = stg list lx m t100.toNat := hs0.2.2 _ (by omega) (by omega)
     have hbd := stR_bd hls.2 hlx hmd (list.length - t100.toNat) (by omega)
     have hwl2 : (at_ st t100.toNat).length ≤ 60 := by rw [hat]; exact hbd.2
     have hwc2 : ∀ w ∈ at_ st t100.toNat, 0 ≤ w.cost ∧ w.cost ≤ 1000000000000 := fun w hw => by rw [hat] at hw; have := hbd.1 w hw; omega
     refine x_r [(0, .dec true)] [5, 6, 9, 16, 17, 99, 100, 101] [5, 6, 16, 32, 860, 8441] [.ref 5 0, .ref 6 0, .arr 32, .ref 16 0, Sv last, I (list.length : Int), I t100, Bv true] [some (bxModel m), some (.box [nilA, I 0]), some (.box [.arr 860, I cost]), some (.oar [8441] 1 st.length (oLwordAt 8441 st)), some (.arr 1 ws.length (fS ws)), some (.fam st.length 2 (mLwordAt st) (gLwordAt st))] [t100 < (list.length : Int)] ⟨h6, trivial⟩ ?_
     refine xe_then ?_
     refine x_seq ?_
     refine x_true rfl ?_
     refine x_skip ?_
     refine xe_then ?_
     refine x_seq ?_
     refine x_block ?_
     refine xR [] [5, 6, 9, 16, 17, 18, 99, 100] [5, 6, 16, 32, 860, 8441] [.ref 5 0, .ref 6 0, .arr 32, .ref 16 0, Sv last, I t100, I (list.length : Int), I t100] [some (bxModel m), some (.box [nilA, I 0]), some (.box [.arr 860, I cost]), some (.oar [8441] 1 st.length (oLwordAt 8441 st)), some (.arr 1 ws.length (fS ws)), some (.fam st.length 2 (mLwordAt st) (gLwordAt st))] [] trivial ?_
     refine x_seq ?_
     obtain ⟨v_2, found_2, hx2_0, hc2⟩ := bestWord_ok m last (at_ st t100.toNat) hmd hwc2 (by omega)
     have hbf : (v_2, found_2) = fsB list lx m t100.toNat := by rw [hx2_0, hat, hla, hws]; rfl
     refine x_r [(6, .call [(true, .any), (true, .any), (false, slwordAt false (at_ st t100.toNat))] true (.tup [agwordAt v_2, Bv found_2])), (10, .new 19)] [5, 6, 9, 16, 18, 19, 20, 99, 100] [5, 6, 16, 19, 32, 860, 8441] [.ref 5 0, .ref 6 0, .arr 32, .ref 16 0, I t100, .ref 19 0, Bv found_2, I (list.length : Int), I t100] [some (bxModel m), some (.box [nilA, I 0]), some (.box [.arr 860, I cost]), some (bxwordAt v_2), some (.oar [8441] 1 st.length (oLwordAt 8441 st)), some (.arr 1 ws.length (fS ws)), some (.fam st.length 2 (mLwordAt st) (gLwordAt st))] [(0 : Int) ≤ t100 ∧ t100 < (st.length : Int), t100.toNat < st.length, Con Try.prog 27 [agModel m, Sv last, slwordAt false (at_ st t100.toNat)] true (.tup [agwordAt v_2, Bv found_2]) ∧ ((false = true → true = true) ∧ t100.toNat < st.length ∧ 2 = 2 ∧ mLwordAt st t100.toNat = ((at_ st t100.toNat).length) ∧ ∀ i_, i_ < ((at_ st t100.toNat).length) → gLwordAt st t100.toNat i_ = (fwordAt (at_ st t100.toNat)) i_ ∨ (AV.idsL ((fwordAt (at_ st t100.toNat)) i_) = [] ∧ leL (fun _ => none) false (gLwordAt st t100.toNat i_) ((fwordAt (at_ st t100.toNat)) i_))) ∧ True] ⟨⟨(by omega), (by omega)⟩, (by omega), ⟨hc2, ⟨(fun h => by cases h), (by omega), rfl, rfl, fun i _ => .inl rfl⟩, trivial⟩, trivial⟩ ?_
     refine xe_then ?_
     refine x_seq ?_
     refine x_seq ?_
     rcases Bool.eq_false_or_eq_true found_2 with h7 | h7
     ·subst h7
      refine x_r [] [5, 6, 9, 16, 18, 19, 99, 100, 114] [5, 6, 16, 19, 32, 860, 8441] [.ref 5 0, .ref 6 0, .arr 32, .ref 16 0, I t100, .ref 19 0, I (list.length : Int), I t100, Bv false] [some (bxModel m), some (.box [nilA, I 0]), some (.box [.arr 860, I cost]), some (bxwordAt v_2), some (.oar [8441] 1 st.length (oLwordAt 8441 st)), some (.arr 1 ws.length (fS ws)), some (.fam st.length 2 (mLwordAt st) (gLwordAt st))] [] trivial ?_
      refine xe_then ?_
      refine x_false rfl ?_
      refine x_skip ?_
      refine xe_then ?_
      refine x_seq ?_
      refine x_seq ?_
      by_cases h8 : t100 = 0
      ·refine x_r [(1, .dec true)] [5, 6, 9, 16, 19, 99, 100, 117] [5, 6, 16, 19, 32, 860, 8441] [.ref 5 0, .ref 6 0, .arr 32, .ref 16 0, .ref 19 0, I (list.length : Int), I t100, Bv true] [some (bxModel m), some (.box [nilA, I 0]), some (.box [.arr 860, I cost]), some (bxwordAt v_2), some (.oar [8441] 1 st.length (oLwordAt 8441 st)), some (.arr 1 ws.length (fS ws)), some (.fam st.length 2 (mLwordAt st) (gLwordAt st))] [t100 = 0] ⟨h8, trivial⟩ ?_
       refine xe_then ?_
       refine x_true rfl ?_
       refine x_r [] [5, 6, 9, 16, 19, 99, 100] [5, 6, 16, 19, 32, 860, 8441] [.ref 5 0, .ref 6 0, .arr 32, .ref 16 0, .ref 19 0, I (list.length : Int), I t100] [some (bxModel m), some (.box [nilA, I 0]), some (.box [.arr 860, I v_2.cost]), some (bxwordAt v_2), some (.oar [8441] 1 st.length (oLwordAt 8441 st)), some (.arr 1 ws.length (fS ws)), some (.fam st.length 2 (mLwordAt st) (gLwordAt st))] [] trivial ?_
       refine xe_then ?_
       refine xR [(4, .new 125), (5, .new 126)] [5, 6, 9, 16, 19, 99, 100] [5, 6, 16, 19, 32, 126, 8441] [.ref 5 0, .ref 6 0, .arr 32, .ref 16 0, .ref 19 0, I (list.length : Int), I t100] [some (bxModel m), some (.box [nilA, I 0]), some (.box [.arr 126, I v_2.cost]), some (bxwordAt v_2), some (.oar [8441] 1 st.length (oLwordAt 8441 st)), some (.arr 1 (ws.length + 1) (catF ws.length (fS ws) (litF [Sv v_2.word] 1))), some (.fam st.length 2 (mLwordAt st) (gLwordAt st))] [(ws.length + 1) * 16 ≤ 140737488355328] ⟨(by omega), trivial⟩ ?_
       refine x_r [] [5, 6, 9, 16, 17, 99, 100] [5, 6, 16, 32, 126, 8441] [.ref 5 0, .ref 6 0, .arr 32, .ref 16 0, Sv v_2.word, I (list.length : Int), I t100] [some (bxModel m), some (.box [nilA, I 0]), some (.box [.arr 126, I v_2.cost]), some (.oar [8441] 1 st.length (oLwordAt 8441 st)), some (.arr 1 (ws.length + 1) (catF ws.length (fS ws) (litF [Sv v_2.word] 1))), some (.fam st.length 2 (mLwordAt st) (gLwordAt st))] [] trivial ?_
       refine xe_block 5 ?_
       refine xe_then ?_
       refine x_r [] [5, 6, 9, 16, 17, 99, 100] [5, 6, 16, 32, 126, 8441] [.ref 5 0, .ref 6 0, .arr 32, .ref 16 0, Sv v_2.word, I (list.length : Int), I (t100 + 1)] [some (bxModel m), some (.box [nilA, I 0]), some (.box [.arr 126, I v_2.cost]), some (.oar [8441] 1 st.length (oLwordAt 8441 st)), some (.arr 1 (ws.length + 1) (catF ws.length (fS ws) (litF [Sv v_2.word] 1))), some (.fam st.length 2 (mLwordAt st) (gLwordAt st))] [inR .i64 (t100 + 1)] ⟨(inR_i64 (by omega) (by omega)), trivial⟩ ?_
       refine xe_weak [(860, 126)] (T := [(5, .ref 5 0), (6, .ref 6 0), (9, .arr 32), (16, .ref 16 0), (17, Sv v_2.word), (99, I (list.length : Int)), (100, I (t100 + 1))]) (O := [(5, bxModel m), (6, .box [nilA, I 0]), (16, .box [.arr 860, I v_2.cost]), (32, .oar [8441] 1 st.length (oLwordAt 8441 st)), (860, .arr 1 ((ws ++ [v_2.word]).length) (fS (ws ++ [v_2.word]))), (8441, .fam st.length 2 (mLwordAt st) (gLwordAt st))]) rfl (⟨.inl rfl, .inl rfl, .inl rfl, .inl rfl, .inl rfl, .inl rfl, .inl rfl, trivial⟩) (⟨.inl rfl, .inl rfl, .inl rfl, .inl rfl, .inr ⟨rfl, (by first | rfl | (simp; done) | (simp; omega) | omega), fun i_ hi_ => .inl (cat_snoc (enc := cS) (xs := ws) rfl i_ hi_)⟩, .inl rfl, trivial⟩) (xe_again (v_2.word, (t100 + 1), (ws ++ [v_2.word]), v_2.cost) rfl (show (0 ≤ (t100 + 1) ∧ (t100 + 1) ≤ (list.length : Int)) ∧ ((ws ++ [v_2.word]) = fsW list lx m (t100 + 1).toNat) ∧ (v_2.word = lastW ⟨#[]⟩ (ws ++ [v_2.word]) (t100 + 1).toNat) ∧ (v_2.cost = if (t100 + 1) = 0 then 0 else (fsB list lx m 0).1.cost) ∧ (∀ j : Nat, (j : Int) < (t100 + 1) → (fsB list lx m j).2 = true) ∧ (((ws ++ [v_2.word]).length : Int) = (t100 + 1)) ∧ True from ⟨(by omega), (by rw [show (t100 + 1).toNat = t100.toNat + 1 from by omega, hws]; show _ = _ ++ [(fsB list lx m t100.toNat).1.word]; rw [← hbf]), (by rw [show (t100 + 1).toNat = t100.toNat + 1 from by omega]; unfold lastW; rw [if_neg (by omega)]; simp [at_, show t100.toNat + 1 - 1 = ws.length from by omega]), (by rw [if_neg (by omega)]; first | (rw [show t100.toNat = 0 from by omega] at hbf; rw [← hbf]; done) | (rw [hco, if_neg (by omega)]; done)), (by intro j hj; by_cases ej : j = t100.toNat; (subst ej; rw [← hbf]); exact hfd j (by omega)), (by rw [List.length_append]; simp; omega), trivial⟩) (by first | (show (((list.length : Int) - (t100 + 1)).toNat : Nat) < ((list.length : Int) - t100).toNat; omega) | (dsimp only; omega)))
      refine x_r [(1, .dec false)] [5, 6, 9, 16, 19, 99, 100, 117] [5, 6, 16, 19, 32, 860, 8441] [.ref 5 0, .ref 6 0, .arr 32, .ref 16 0, .ref 19 0, I (list.length : Int), I t100, Bv false] [some (bxModel m), some (.box [nilA, I 0]), some (.box [.arr 860, I cost]), some (bxwordAt v_2), some (.oar [8441] 1 st.length (oLwordAt 8441 st)), some (.arr 1 ws.length (fS ws)), some (.fam st.length 2 (mLwordAt st) (gLwordAt st))] [¬ (t100 = 0)] ⟨h8, trivial⟩ ?_
      refine xe_then ?_
      refine x_false rfl ?_
      refine x_skip ?_
      refine xe_then ?_
      refine xR [(4, .new 125), (5, .new 126)] [5, 6, 9, 16, 19, 99, 100] [5, 6, 16, 19, 32, 126, 8441] [.ref 5 0, .ref 6 0, .arr 32, .ref 16 0, .ref 19 0, I (list.length : Int), I t100] [some (bxModel m), some (.box [nilA, I 0]), some (.box [.arr 126, I cost]), some (bxwordAt v_2), some (.oar [8441] 1 st.length (oLwordAt 8441 st)), some (.arr 1 (ws.length + 1) (catF ws.length (fS ws) (litF [Sv v_2.word] 1))), some (.fam st.length 2 (mLwordAt st) (gLwordAt st))] [(ws.length + 1) * 16 ≤ 140737488355328] ⟨(by omega), trivial⟩ ?_
      refine x_r [] [5, 6, 9, 16, 17, 99, 100] [5, 6, 16, 32, 126, 8441] [.ref 5 0, .ref 6 0, .arr 32, .ref 16 0, Sv v_2.word, I (list.length : Int), I t100] [some (bxModel m), some (.box [nilA, I 0]), some (.box [.arr 126, I cost]), some (.oar [8441] 1 st.length (oLwordAt 8441 st)), some (.arr 1 (ws.length + 1) (catF ws.length (fS ws) (litF [Sv v_2.word] 1))), some (.fam st.length 2 (mLwordAt st) (gLwordAt st))] [] trivial ?_
      refine xe_block 5 ?_
      refine xe_then ?_
      refine x_r [] [5, 6, 9, 16, 17, 99, 100] [5, 6, 16, 32, 126, 8441] [.ref 5 0, .ref 6 0, .arr 32, .ref 16 0, Sv v_2.word, I (list.length : Int), I (t100 + 1)] [some (bxModel m), some (.box [nilA, I 0]), some (.box [.arr 126, I cost]), some (.oar [8441] 1 st.length (oLwordAt 8441 st)), some (.arr 1 (ws.length + 1) (catF ws.length (fS ws) (litF [Sv v_2.word] 1))), some (.fam st.length 2 (mLwordAt st) (gLwordAt st))] [inR .i64 (t100 + 1)] ⟨(inR_i64 (by omega) (by omega)), trivial⟩ ?_
      refine xe_weak [(860, 126)] (T := [(5, .ref 5 0), (6, .ref 6 0), (9, .arr 32), (16, .ref 16 0), (17, Sv v_2.word), (99, I (list.length : Int)), (100, I (t100 + 1))]) (O := [(5, bxModel m), (6, .box [nilA, I 0]), (16, .box [.arr 860, I cost]), (32, .oar [8441] 1 st.length (oLwordAt 8441 st)), (860, .arr 1 ((ws ++ [v_2.word]).length) (fS (ws ++ [v_2.word]))), (8441, .fam st.length 2 (mLwordAt st) (gLwordAt st))]) rfl (⟨.inl rfl, .inl rfl, .inl rfl, .inl rfl, .inl rfl, .inl rfl, .inl rfl, trivial⟩) (⟨.inl rfl, .inl rfl, .inl rfl, .inl rfl, .inr ⟨rfl, (by first | rfl | (simp; done) | (simp; omega) | omega), fun i_ hi_ => .inl (cat_snoc (enc := cS) (xs := ws) rfl i_ hi_)⟩, .inl rfl, trivial⟩) (xe_again (v_2.word, (t100 + 1), (ws ++ [v_2.word]), cost) rfl (show (0 ≤ (t100 + 1) ∧ (t100 + 1) ≤ (list.length : Int)) ∧ ((ws ++ [v_2.word]) = fsW list lx m (t100 + 1).toNat) ∧ (v_2.word = lastW ⟨#[]⟩ (ws ++ [v_2.word]) (t100 + 1).toNat) ∧ (cost = if (t100 + 1) = 0 then 0 else (fsB list lx m 0).1.cost) ∧ (∀ j : Nat, (j : Int) < (t100 + 1) → (fsB list lx m j).2 = true) ∧ (((ws ++ [v_2.word]).length : Int) = (t100 + 1)) ∧ True from ⟨(by omega), (by rw [show (t100 + 1).toNat = t100.toNat + 1 from by omega, hws]; show _ = _ ++ [(fsB list lx m t100.toNat).1.word]; rw [← hbf]), (by rw [show (t100 + 1).toNat = t100.toNat + 1 from by omega]; unfold lastW; rw [if_neg (by omega)]; simp [at_, show t100.toNat + 1 - 1 = ws.length from by omega]), (by rw [if_neg (by omega)]; first | (rw [show t100.toNat = 0 from by omega] at hbf; rw [← hbf]; done) | (rw [hco, if_neg (by omega)]; done)), (by intro j hj; by_cases ej : j = t100.toNat; (subst ej; rw [← hbf]); exact hfd j (by omega)), (by rw [List.length_append]; simp; omega), trivial⟩) (by first | (show (((list.length : Int) - (t100 + 1)).toNat : Nat) < ((list.length : Int) - t100).toNat; omega) | (dsimp only; omega)))
     subst h7
     refine x_r [] [5, 6, 9, 16, 18, 19, 99, 100, 114] [5, 6, 16, 19, 32, 860, 8441] [.ref 5 0, .ref 6 0, .arr 32, .ref 16 0, I t100, .ref 19 0, I (list.length : Int), I t100, Bv true] [some (bxModel m), some (.box [nilA, I 0]), some (.box [.arr 860, I cost]), some (bxwordAt v_2), some (.oar [8441] 1 st.length (oLwordAt 8441 st)), some (.arr 1 ws.length (fS ws)), some (.fam st.length 2 (mLwordAt st) (gLwordAt st))] [] trivial ?_
     refine xe_then ?_
     refine x_true rfl ?_
     refine xR [] [6, 7] [6] [.ref 6 0, I 3] [some (.box [nilA, I 0])] [] trivial ?_
     refine x_ret ?_
     refine xe_ret_then (xe_ret_block (xe_ret_then (xe_loop_ret (xe_ret_block (xe_ret_then ?_)))))
     refine xe_end ((Sentence.mk ([] : List ByteArray) 0), 3) (show (fsOK list lx m (Sentence.mk ([] : List ByteArray) 0) 3) ∧ (True) from ⟨(by first | exact .inl ⟨rfl, t100.toNat, hi2, by rw [← hbf]⟩ | exact .inr ⟨rfl, fun k hk => hfd k (by omega), by rw [← hie2]; exact hws, by rw [hco]; by_cases q : list.length = 0; (rw [if_pos q, if_pos (by omega)]); (rw [if_neg q, if_neg (by omega)])⟩), trivial⟩) (trivial) (.tup [.agg [nilA, I 0], I 3]) (by kernel_rfl) (.inr ⟨⟨⟨rfl, rfl⟩, ⟨rfl, rfl⟩⟩, ⟨rfl, rfl⟩⟩) (fun _ => rfl) (fun _ => (by simp [tagged, taggedL, tagS]))
    have hie2 : t100.toNat = list.length := by omega
    refine x_r [(0, .dec false)] [5, 6, 9, 16, 17, 99, 100, 101] [5, 6, 16, 32, 860, 8441] [.ref 5 0, .ref 6 0, .arr 32, .ref 16 0, Sv last, I (list.length : Int), I t100, Bv false] [some (bxModel m), some (.box [nilA, I 0]), some (.box [.arr 860, I cost]), some (.oar [8441] 1 st.length (oLwordAt 8441 st)), some (.arr 1 ws.length (fS ws)), some (.fam st.length 2 (mLwordAt st) (gLwordAt st))] [¬ (t100 < (list.length : Int))] ⟨h6, trivial⟩ ?_
    refine xe_then ?_
    refine x_seq ?_
    refine x_false rfl ?_
    refine x_exit ?_
    refine xe_exit_then ?_
    refine xe_loop_exit ?_
    refine xe_exit_same ?_
    refine xe_then ?_
    refine xR [] [6, 7] [6, 860] [.ref 6 0, I 0] [some (.box [.arr 860, I cost]), some (.arr 1 ws.length (fS ws))] [] trivial ?_
    refine x_ret ?_
    refine xe_end ((Sentence.mk ws cost), 0) (show (fsOK list lx m (Sentence.mk ws cost) 0) ∧ (True) from ⟨(by first | exact .inl ⟨rfl, t100.toNat, hi2, by rw [← hbf]⟩ | exact .inr ⟨rfl, fun k hk => hfd k (by omega), by rw [← hie2]; exact hws, by rw [hco]; by_cases q : list.length = 0; (rw [if_pos q, if_pos (by omega)]); (rw [if_neg q, if_neg (by omega)])⟩), trivial⟩) (trivial) (.tup [.agg [.arr 860, I cost], I 0]) (by kernel_rfl) (.inr ⟨⟨⟨(fun _ => rfl), rfl, rfl, fun i _ => .inl rfl⟩, ⟨rfl, rfl⟩⟩, ⟨rfl, rfl⟩⟩) (fun _ => rfl) (fun _ => (by simp [tagged, taggedL, tagS]))
  obtain ⟨⟨v, c⟩, ⟨hh0, _⟩, hc⟩ := hh
  exact ⟨v, c, hh0, hc⟩


-- impl.wordsCost
theorem wordsCost_ok (m : Model) (words : List ByteArray) (hmd : okMod m) (hwl : words.length ≤ 1000) : ∃ (v : Int), (v = wcM m ⟨#[]⟩ words) ∧ (0 ≤ v ∧ v ≤ 1000000 * (words.length : Int)) ∧ Con Try.prog 28 [agModel m, slS false words] true (I v) := by
  have hh : ∃ r : Int, ((r = wcM m ⟨#[]⟩ words) ∧ (0 ≤ r ∧ r ≤ 1000000 * (words.length : Int)) ∧ (True)) ∧ CallOK Try.prog 28 [agModel m, slS false words] (lookO []) true (I r) (lookO []) := by
    refine fn_okX (Φ := fun r : Int => (r = wcM m ⟨#[]⟩ words) ∧ (0 ≤ r ∧ r ≤ 1000000 * (words.length : Int)) ∧ (True)) [] (fun r => []) (fn := Try.f28) (nt := 24) Try.func28 rfl rfl (args := [agModel m, slS false words]) rfl (allcons (.inl ⟨rfl, by simp [tagged, taggedL, tagBigram]⟩) (allcons (.inl ⟨rfl, tagS false _⟩) allnil)) (res := fun r => I r) ?_
    refine xR [(0, .new 2)] [1, 2] [2] [slS false words, .ref 2 0] [some (bxModel m)] [] trivial ?_
    refine xR [] [1, 2, 5] [2] [slS false words, .ref 2 0, I 0] [some (bxModel m)] [] trivial ?_
    refine xR [] [1, 2, 5, 6] [2] [slS false words, .ref 2 0, I 0, Sv (⟨#[]⟩ : ByteArray)] [some (bxModel m)] [] trivial ?_
    refine x_seq ?_
    refine xR [] [2, 5, 6, 9, 10, 11] [2] [.ref 2 0, I 0, Sv (⟨#[]⟩ : ByteArray), slS false words, I (words.length : Int), I 0] [some (bxModel m)] [] trivial ?_
    refine x_block ?_
    refine x_loop (X := Int × ByteArray × Int) (fun x => mkS [(2, .ref 2 0), (5, I x.1), (6, Sv x.2.1), (9, slS false words), (10, I (words.length : Int)), (11, I x.2.2)] [(2, bxModel m)]) (fun x => (0 ≤ x.2.2 ∧ x.2.2 ≤ (words.length : Int)) ∧ (x.1 = wcK m ⟨#[]⟩ words x.2.2.toNat) ∧ (x.2.1 = lastW ⟨#[]⟩ words x.2.2.toNat) ∧ (0 ≤ x.1 ∧ x.1 ≤ 1000000 * x.2.2) ∧ True) (fun x => ((words.length : Int) - x.2.2).toNat) (0, (⟨#[]⟩ : ByteArray), 0) rfl (show (0 ≤ (0 : Int) ∧ (0 : Int) ≤ (words.length : Int)) ∧ ((0 : Int) = wcK m ⟨#[]⟩ words (0 : Int).toNat) ∧ ((⟨#[]⟩ : ByteArray) = lastW ⟨#[]⟩ words (0 : Int).toNat) ∧ (0 ≤ (0 : Int) ∧ (0 : Int) ≤ 1000000 * (0 : Int)) ∧ True from ⟨(by omega), (by rfl), (by rfl), (by omega), trivial⟩) (fun x hI => ?_)
    obtain ⟨sum, last, t11⟩ := x
    obtain ⟨hi0, hsu, hla, hsb, _⟩ : (0 ≤ t11 ∧ t11 ≤ (words.length : Int)) ∧ (sum = wcK m ⟨#[]⟩ words t11.toNat) ∧ (last = lastW ⟨#[]⟩ words t11.toNat) ∧ (0 ≤ sum ∧ sum ≤ 1000000 * t11) ∧ True := hI
    show XW _ _ _ _ (mkS [(2, .ref 2 0), (5, I sum), (6, Sv last), (9, slS false words), (10, I (words.length : Int)), (11, I t11)] [(2, bxModel m)]) _ _
    refine x_seq ?_
    by_cases h1 : t11 < (words.length : Int)
    ·have hi : t11.toNat < words.length := by omega
     have hpb := pc_bd hmd last (at_ words t11.toNat)
     refine x_r [(0, .dec true)] [2, 5, 6, 9, 10, 11, 12] [2] [.ref 2 0, I sum, Sv last, slS false words, I (words.length : Int), I t11, Bv true] [some (bxModel m)] [t11 < (words.length : Int)] ⟨h1, trivial⟩ ?_
     refine xe_then ?_
     refine x_seq ?_
     refine x_true rfl ?_
     refine x_skip ?_
     refine xe_then ?_
     refine x_seq ?_
     refine x_block ?_
     refine xR [] [2, 5, 6, 8, 9, 10, 11] [2] [.ref 2 0, I sum, Sv last, Sv (at_ words t11.toNat), slS false words, I (words.length : Int), I t11] [some (bxModel m)] [(0 : Int) ≤ t11 ∧ t11 < (words.length : Int)] ⟨⟨(by omega), (by omega)⟩, trivial⟩ ?_
     refine x_seq ?_
     obtain ⟨v_1, hx1_0, hc1⟩ := pairCost_ok m last (at_ words t11.toNat) hmd
     have hpv := hx1_0
     refine x_r [(4, .call [(true, .any), (true, .any), (true, .any)] true (I v_1))] [2, 5, 8, 9, 10, 11] [2] [.ref 2 0, I (sum + v_1), Sv (at_ words t11.toNat), slS false words, I (words.length : Int), I t11] [some (bxModel m)] [Con Try.prog 50 [agModel m, Sv last, Sv (at_ words t11.toNat)] true (I v_1) ∧ True, inR .i64 (sum + v_1)] ⟨⟨hc1, trivial⟩, (inR_i64 (by omega) (by omega)), trivial⟩ ?_
     refine xe_then ?_
     refine x_r [] [2, 5, 6, 9, 10, 11] [2] [.ref 2 0, I (sum + v_1), Sv (at_ words t11.toNat), slS false words, I (words.length : Int), I t11] [some (bxModel m)] [] trivial ?_
     refine xe_block 1 ?_
     refine xe_then ?_
     refine x_r [] [2, 5, 6, 9, 10, 11] [2] [.ref 2 0, I (sum + v_1), Sv (at_ words t11.toNat), slS false words, I (words.length : Int), I (t11 + 1)] [some (bxModel m)] [inR .i64 (t11 + 1)] ⟨(inR_i64 (by omega) (by omega)), trivial⟩ ?_
     exact xe_again ((sum + v_1), (at_ words t11.toNat), (t11 + 1)) rfl (show (0 ≤ (t11 + 1) ∧ (t11 + 1) ≤ (words.length : Int)) ∧ ((sum + v_1) = wcK m ⟨#[]⟩ words (t11 + 1).toNat) ∧ ((at_ words t11.toNat) = lastW ⟨#[]⟩ words (t11 + 1).toNat) ∧ (0 ≤ (sum + v_1) ∧ (sum + v_1) ≤ 1000000 * (t11 + 1)) ∧ True from ⟨(by omega), (by rw [show (t11 + 1).toNat = t11.toNat + 1 from by omega]; unfold wcK; rw [hpv, hsu, hla]), (by unfold lastW; rw [if_neg (by omega), show (t11 + 1).toNat - 1 = t11.toNat from by omega]), (by omega), trivial⟩) (by first | (show (((words.length : Int) - (t11 + 1)).toNat : Nat) < ((words.length : Int) - t11).toNat; omega) | (dsimp only; omega))
    have hwa := wcK_all m words ⟨#[]⟩
    have hie : t11.toNat = words.length := by omega
    have hbd := wcK_bd hmd ⟨#[]⟩ words words.length
    refine x_r [(0, .dec false)] [2, 5, 6, 9, 10, 11, 12] [2] [.ref 2 0, I sum, Sv last, slS false words, I (words.length : Int), I t11, Bv false] [some (bxModel m)] [¬ (t11 < (words.length : Int))] ⟨h1, trivial⟩ ?_
    refine xe_then ?_
    refine x_seq ?_
    refine x_false rfl ?_
    refine x_exit ?_
    refine xe_exit_then ?_
    refine xe_loop_exit ?_
    refine xe_exit_same ?_
    refine xe_then ?_
    refine xR [] [4] [] [I sum] [] [] trivial ?_
    refine x_ret ?_
    refine xe_end sum (show (sum = wcM m ⟨#[]⟩ words) ∧ (0 ≤ sum ∧ sum ≤ 1000000 * (words.length : Int)) ∧ (True) from ⟨(by first | omega | (rw [hsu, hie, hwa])), (by first | omega | (rw [hsu, hie, hwa])), trivial⟩) (trivial) (I sum) (by kernel_rfl) (.inl rfl) (fun _ => rfl) (fun _ => trivial)
  obtain ⟨v, ⟨hh0, hh1, _⟩, hc⟩ := hh
  exact ⟨v, hh0, hh1, hc⟩


-- impl.placeOf$1
theorem placeOf1_ok (e : Entry) (w : ByteArray) : Con Try.prog 52 [agEntry e, Sv w] true (I (cmpS e.Word w)) := by
  refine fn_ok (fn := Try.f52) (nt := 9) Try.func52 rfl rfl rfl rfl (by simp [taggedL, tagged]) fun B hB => ?_
  refine aR [(0, .new 2)] [1, 2] [2] [Sv w, .ref 2 0] [some (bxEntry e)] [] hB trivial ?_
  refine aR [(3, .call [(true, .any), (true, .any)] true (I (cmpS e.Word w)))] [4] [] [I (cmpS e.Word w)] [] [Con Try.prog 53 [Sv e.Word, Sv w] true (I (cmpS e.Word w)) ∧ True] hB ⟨⟨(CompareS_ok e.Word w), trivial⟩, trivial⟩ ?_
  refine aw_ret ?_
  refine ae_ret hB (I (cmpS e.Word w)) (by kernel_rfl) (.inl rfl) rfl (fun _ => trivial)


-- impl.placeOf
theorem bsEnt_ok (xs : List Entry) (target : ByteArray) (hp : xs.Pairwise fun x_ y_ => cmpN x_ y_ < 0) (hll : xs.length ≤ 1000) : ∃ (pl : Int) (found : Bool), (0 ≤ pl ∧ pl ≤ (xs.length : Int)) ∧ (found = true → pl < (xs.length : Int) ∧ cmpN (at_ xs pl.toNat) (Entry.mk target 0) = 0) ∧ (found = false → ∀ j : Nat, j < xs.length → cmpN (at_ xs j) (Entry.mk target 0) ≠ 0) ∧ Con Try.prog 51 [slEntry false xs, Sv target, .fn 52 []] true (.tup [I pl, Bv found]) := by
  have hh : ∃ r : Int × Bool, ((0 ≤ r.1 ∧ r.1 ≤ (xs.length : Int)) ∧ (r.2 = true → r.1 < (xs.length : Int) ∧ cmpN (at_ xs r.1.toNat) (Entry.mk target 0) = 0) ∧ (r.2 = false → ∀ j : Nat, j < xs.length → cmpN (at_ xs j) (Entry.mk target 0) ≠ 0) ∧ (True)) ∧ CallOK Try.prog 51 [slEntry false xs, Sv target, .fn 52 []] (lookO []) true (.tup [I r.1, Bv r.2]) (lookO []) := by
    refine fn_okX (Φ := fun r : Int × Bool => (0 ≤ r.1 ∧ r.1 ≤ (xs.length : Int)) ∧ (r.2 = true → r.1 < (xs.length : Int) ∧ cmpN (at_ xs r.1.toNat) (Entry.mk target 0) = 0) ∧ (r.2 = false → ∀ j : Nat, j < xs.length → cmpN (at_ xs j) (Entry.mk target 0) ≠ 0) ∧ (True)) [] (fun r => []) (fn := Try.f51) (nt := 49) Try.func51 rfl rfl (args := [slEntry false xs, Sv target, .fn 52 []]) rfl (allcons (.inl ⟨rfl, tagEntry false _⟩) (allcons (.inl ⟨rfl, trivial⟩) (allcons (.inl ⟨rfl, trivial⟩) allnil))) (res := fun r => .tup [I r.1, Bv r.2]) ?_
    refine xR [] [0, 1, 2] [] [slEntry false xs, Sv target, .fn 52 []] [] [] trivial ?_
    refine xR [] [0, 1, 2, 8] [] [slEntry false xs, Sv target, .fn 52 [], I (xs.length : Int)] [] [] trivial ?_
    refine xR [] [0, 1, 2, 8, 9, 10] [] [slEntry false xs, Sv target, .fn 52 [], I (xs.length : Int), I 0, I (xs.length : Int)] [] [] trivial ?_
    refine x_seq ?_
    refine x_block ?_
    refine x_loop (X := Int × Int) (fun x => mkS [(0, slEntry false xs), (1, Sv target), (2, .fn 52 []), (8, I (xs.length : Int)), (9, I x.1), (10, I x.2)] []) (fun x => (0 ≤ x.1 ∧ x.1 ≤ x.2 ∧ x.2 ≤ (xs.length : Int)) ∧ (∀ k : Nat, (k : Int) < x.1 → cmpN (at_ xs k) (Entry.mk target 0) < 0) ∧ (∀ k : Nat, x.2 ≤ (k : Int) → k < xs.length → ¬ cmpN (at_ xs k) (Entry.mk target 0) < 0) ∧ True) (fun x => (x.2 - x.1).toNat) (0, (xs.length : Int)) rfl (show (0 ≤ (0 : Int) ∧ (0 : Int) ≤ (xs.length : Int) ∧ (xs.length : Int) ≤ (xs.length : Int)) ∧ (∀ k : Nat, (k : Int) < (0 : Int) → cmpN (at_ xs k) (Entry.mk target 0) < 0) ∧ (∀ k : Nat, (xs.length : Int) ≤ (k : Int) → k < xs.length → ¬ cmpN (at_ xs k) (Entry.mk target 0) < 0) ∧ True from ⟨(by omega), (by intro k hk; omega), (by intro k h1 h2; omega), trivial⟩) (fun x hI => ?_)
    obtain ⟨i, j⟩ := x
    obtain ⟨hi0, hlo, hhi, _⟩ : (0 ≤ i ∧ i ≤ j ∧ j ≤ (xs.length : Int)) ∧ (∀ k : Nat, (k : Int) < i → cmpN (at_ xs k) (Entry.mk target 0) < 0) ∧ (∀ k : Nat, j ≤ (k : Int) → k < xs.length → ¬ cmpN (at_ xs k) (Entry.mk target 0) < 0) ∧ True := hI
    show XW _ _ _ _ (mkS [(0, slEntry false xs), (1, Sv target), (2, .fn 52 []), (8, I (xs.length : Int)), (9, I i), (10, I j)] []) _ _
    refine x_seq ?_
    refine x_seq ?_
    by_cases h1 : i < j
    ·have hij : i < j := h1
     refine x_r [(2, .dec true)] [0, 1, 2, 8, 9, 10, 17] [] [slEntry false xs, Sv target, .fn 52 [], I (xs.length : Int), I i, I j, Bv true] [] [i < j] ⟨h1, trivial⟩ ?_
     refine xe_then ?_
     refine x_true rfl ?_
     refine x_skip ?_
     refine xe_then ?_
     refine x_block ?_
     refine xR [] [0, 1, 2, 8, 9, 10, 11] [] [slEntry false xs, Sv target, .fn 52 [], I (xs.length : Int), I i, I j, I ((i + j) / 2)] [] [inR .i64 (i + j), inR .u64 (i + j), (0 : Int) ≤ 1 ∧ (1 : Int) ≤ ((IntKind.bits .u64 : Nat) : Int), inR .i64 ((i + j) / 2)] ⟨(inR_i64 (by omega) (by omega)), (inR_u64 (by omega) (by omega)), ⟨(by decide), (by decide)⟩, (inR_i64 (by omega) (by omega)), trivial⟩ ?_
     refine x_seq ?_
     by_cases h2 : (cmpS (at_ xs (((i + j) / 2).toNat)).Word target) < 0
     ·refine x_r [(6, .call [(true, .any), (true, .any)] true (I (cmpS (at_ xs (((i + j) / 2).toNat)).Word target))), (7, .dec true)] [0, 1, 2, 8, 9, 10, 11, 31] [] [slEntry false xs, Sv target, .fn 52 [], I (xs.length : Int), I i, I j, I ((i + j) / 2), Bv true] [] [(0 : Int) ≤ ((i + j) / 2) ∧ ((i + j) / 2) < (xs.length : Int), Con Try.prog 52 [agEntry (at_ xs (((i + j) / 2).toNat)), Sv target] true (I (cmpS (at_ xs (((i + j) / 2).toNat)).Word target)) ∧ True, (cmpS (at_ xs (((i + j) / 2).toNat)).Word target) < 0] ⟨⟨(by omega), (by omega)⟩, ⟨(placeOf1_ok (at_ xs (((i + j) / 2).toNat)) target), trivial⟩, h2, trivial⟩ ?_
      refine xe_then ?_
      refine x_true rfl ?_
      refine x_r [] [0, 1, 2, 8, 9, 10] [] [slEntry false xs, Sv target, .fn 52 [], I (xs.length : Int), I (((i + j) / 2) + 1), I j] [] [inR .i64 (((i + j) / 2) + 1)] ⟨(inR_i64 (by omega) (by omega)), trivial⟩ ?_
      refine xe_block 1 ?_
      exact xe_again ((((i + j) / 2) + 1), j) rfl (show (0 ≤ (((i + j) / 2) + 1) ∧ (((i + j) / 2) + 1) ≤ j ∧ j ≤ (xs.length : Int)) ∧ (∀ k : Nat, (k : Int) < (((i + j) / 2) + 1) → cmpN (at_ xs k) (Entry.mk target 0) < 0) ∧ (∀ k : Nat, j ≤ (k : Int) → k < xs.length → ¬ cmpN (at_ xs k) (Entry.mk target 0) < 0) ∧ True from ⟨(by omega), (by first | exact hlo | (intro k hk; by_cases ek : (k : Int) = (i + j) / 2; (rw [show k = ((i + j) / 2).toNat from by omega]; assumption); exact bs_lo cmpN_w hp (k := k) (h := ((i + j) / 2).toNat) (by omega) (by omega) (by assumption))), (by first | exact hhi | (intro k hk1 hk2; by_cases ek : (k : Int) = (i + j) / 2; (rw [show k = ((i + j) / 2).toNat from by omega]; assumption); exact bs_hi cmpN_w hp (k := ((i + j) / 2).toNat) (h := k) (by omega) hk2 (by assumption))), trivial⟩) (by first | (show ((j - (((i + j) / 2) + 1)).toNat : Nat) < (j - i).toNat; omega) | (dsimp only; omega))
     refine x_r [(6, .call [(true, .any), (true, .any)] true (I (cmpS (at_ xs (((i + j) / 2).toNat)).Word target))), (7, .dec false)] [0, 1, 2, 8, 9, 10, 11, 31] [] [slEntry false xs, Sv target, .fn 52 [], I (xs.length : Int), I i, I j, I ((i + j) / 2), Bv false] [] [(0 : Int) ≤ ((i + j) / 2) ∧ ((i + j) / 2) < (xs.length : Int), Con Try.prog 52 [agEntry (at_ xs (((i + j) / 2).toNat)), Sv target] true (I (cmpS (at_ xs (((i + j) / 2).toNat)).Word target)) ∧ True, ¬ ((cmpS (at_ xs (((i + j) / 2).toNat)).Word target) < 0)] ⟨⟨(by omega), (by omega)⟩, ⟨(placeOf1_ok (at_ xs (((i + j) / 2).toNat)) target), trivial⟩, h2, trivial⟩ ?_
     refine xe_then ?_
     refine x_false rfl ?_
     refine x_r [] [0, 1, 2, 8, 9, 10] [] [slEntry false xs, Sv target, .fn 52 [], I (xs.length : Int), I i, I ((i + j) / 2)] [] [] trivial ?_
     refine xe_block 1 ?_
     exact xe_again (i, ((i + j) / 2)) rfl (show (0 ≤ i ∧ i ≤ ((i + j) / 2) ∧ ((i + j) / 2) ≤ (xs.length : Int)) ∧ (∀ k : Nat, (k : Int) < i → cmpN (at_ xs k) (Entry.mk target 0) < 0) ∧ (∀ k : Nat, ((i + j) / 2) ≤ (k : Int) → k < xs.length → ¬ cmpN (at_ xs k) (Entry.mk target 0) < 0) ∧ True from ⟨(by omega), (by first | exact hlo | (intro k hk; by_cases ek : (k : Int) = (i + j) / 2; (rw [show k = ((i + j) / 2).toNat from by omega]; assumption); exact bs_lo cmpN_w hp (k := k) (h := ((i + j) / 2).toNat) (by omega) (by omega) (by assumption))), (by first | exact hhi | (intro k hk1 hk2; by_cases ek : (k : Int) = (i + j) / 2; (rw [show k = ((i + j) / 2).toNat from by omega]; assumption); exact bs_hi cmpN_w hp (k := ((i + j) / 2).toNat) (h := k) (by omega) hk2 (by assumption))), trivial⟩) (by first | (show ((((i + j) / 2) - i).toNat : Nat) < (j - i).toNat; omega) | (dsimp only; omega))
    refine x_r [(2, .dec false)] [0, 1, 2, 8, 9, 10, 17] [] [slEntry false xs, Sv target, .fn 52 [], I (xs.length : Int), I i, I j, Bv false] [] [¬ (i < j)] ⟨h1, trivial⟩ ?_
    refine xe_then ?_
    refine x_false rfl ?_
    refine x_exit ?_
    refine xe_exit_then ?_
    refine xe_loop_exit ?_
    refine xe_exit_same ?_
    refine xe_then ?_
    refine x_seq ?_
    by_cases h3 : i < (xs.length : Int)
    ·refine x_r [(3, .dec true), (11, .call [(true, .any), (true, .any)] true (I (cmpS (at_ xs i.toNat).Word target)))] [6, 7] [] [I i, Bv (decide ((cmpS (at_ xs i.toNat).Word target) = 0))] [] [i < (xs.length : Int), (0 : Int) ≤ i ∧ i < (xs.length : Int), Con Try.prog 52 [agEntry (at_ xs i.toNat), Sv target] true (I (cmpS (at_ xs i.toNat).Word target)) ∧ True] ⟨h3, ⟨(by omega), (by omega)⟩, ⟨(placeOf1_ok (at_ xs i.toNat) target), trivial⟩, trivial⟩ ?_
     refine xe_then ?_
     refine x_ret ?_
     refine xe_end (i, decide ((cmpS (at_ xs i.toNat).Word target) = 0)) (show (0 ≤ i ∧ i ≤ (xs.length : Int)) ∧ ((decide ((cmpS (at_ xs i.toNat).Word target) = 0)) = true → i < (xs.length : Int) ∧ cmpN (at_ xs i.toNat) (Entry.mk target 0) = 0) ∧ ((decide ((cmpS (at_ xs i.toNat).Word target) = 0)) = false → ∀ j : Nat, j < xs.length → cmpN (at_ xs j) (Entry.mk target 0) ≠ 0) ∧ (True) from ⟨(by first | omega | exact fun q => ⟨by omega, of_decide_eq_true q⟩ | exact fun q => absurd q (by decide) | exact fun q => bs_no cmpN_w hp (a := i.toNat) (fun k hk => hlo k (by omega)) (fun k h1 h2 => hhi k (by omega) h2) (fun z => absurd z.2 (of_decide_eq_false q)) | exact fun _ => bs_no cmpN_w hp (a := i.toNat) (fun k hk => hlo k (by omega)) (fun k h1 h2 => hhi k (by omega) h2) (fun z => absurd z.1 (by omega))), (by first | omega | exact fun q => ⟨by omega, of_decide_eq_true q⟩ | exact fun q => absurd q (by decide) | exact fun q => bs_no cmpN_w hp (a := i.toNat) (fun k hk => hlo k (by omega)) (fun k h1 h2 => hhi k (by omega) h2) (fun z => absurd z.2 (of_decide_eq_false q)) | exact fun _ => bs_no cmpN_w hp (a := i.toNat) (fun k hk => hlo k (by omega)) (fun k h1 h2 => hhi k (by omega) h2) (fun z => absurd z.1 (by omega))), (by first | omega | exact fun q => ⟨by omega, of_decide_eq_true q⟩ | exact fun q => absurd q (by decide) | exact fun q => bs_no cmpN_w hp (a := i.toNat) (fun k hk => hlo k (by omega)) (fun k h1 h2 => hhi k (by omega) h2) (fun z => absurd z.2 (of_decide_eq_false q)) | exact fun _ => bs_no cmpN_w hp (a := i.toNat) (fun k hk => hlo k (by omega)) (fun k h1 h2 => hhi k (by omega) h2) (fun z => absurd z.1 (by omega))), trivial⟩) (trivial) (.tup [I i, Bv (decide ((cmpS (at_ xs i.toNat).Word target) = 0))]) (by kernel_rfl) (.inl rfl) (fun _ => rfl) (fun _ => (by simp [tagged, taggedL]))
    refine x_r [(3, .dec false)] [6, 7] [] [I i, Bv false] [] [¬ (i < (xs.length : Int))] ⟨h3, trivial⟩ ?_
    refine xe_then ?_
    refine x_ret ?_
    refine xe_end (i, false) (show (0 ≤ i ∧ i ≤ (xs.length : Int)) ∧ (false = true → i < (xs.length : Int) ∧ cmpN (at_ xs i.toNat) (Entry.mk target 0) = 0) ∧ (false = false → ∀ j : Nat, j < xs.length → cmpN (at_ xs j) (Entry.mk target 0) ≠ 0) ∧ (True) from ⟨(by first | omega | exact fun q => ⟨by omega, of_decide_eq_true q⟩ | exact fun q => absurd q (by decide) | exact fun q => bs_no cmpN_w hp (a := i.toNat) (fun k hk => hlo k (by omega)) (fun k h1 h2 => hhi k (by omega) h2) (fun z => absurd z.2 (of_decide_eq_false q)) | exact fun _ => bs_no cmpN_w hp (a := i.toNat) (fun k hk => hlo k (by omega)) (fun k h1 h2 => hhi k (by omega) h2) (fun z => absurd z.1 (by omega))), (by first | omega | exact fun q => ⟨by omega, of_decide_eq_true q⟩ | exact fun q => absurd q (by decide) | exact fun q => bs_no cmpN_w hp (a := i.toNat) (fun k hk => hlo k (by omega)) (fun k h1 h2 => hhi k (by omega) h2) (fun z => absurd z.2 (of_decide_eq_false q)) | exact fun _ => bs_no cmpN_w hp (a := i.toNat) (fun k hk => hlo k (by omega)) (fun k h1 h2 => hhi k (by omega) h2) (fun z => absurd z.1 (by omega))), (by first | omega | exact fun q => ⟨by omega, of_decide_eq_true q⟩ | exact fun q => absurd q (by decide) | exact fun q => bs_no cmpN_w hp (a := i.toNat) (fun k hk => hlo k (by omega)) (fun k h1 h2 => hhi k (by omega) h2) (fun z => absurd z.2 (of_decide_eq_false q)) | exact fun _ => bs_no cmpN_w hp (a := i.toNat) (fun k hk => hlo k (by omega)) (fun k h1 h2 => hhi k (by omega) h2) (fun z => absurd z.1 (by omega))), trivial⟩) (trivial) (.tup [I i, Bv false]) (by kernel_rfl) (.inl rfl) (fun _ => rfl) (fun _ => (by simp [tagged, taggedL]))
  obtain ⟨⟨pl, found⟩, ⟨hh0, hh1, hh2, _⟩, hc⟩ := hh
  exact ⟨pl, found, hh0, hh1, hh2, hc⟩

theorem placeOf_ok (lx : Lexicon) (w : ByteArray) (hlx : okLex lx) : ∃ (pl : Int) (found : Bool), (0 ≤ pl ∧ pl ≤ (lx.Entries.length : Int)) ∧ (found = true → pl < (lx.Entries.length : Int) ∧ (at_ lx.Entries pl.toNat).Word = w) ∧ (found = false → ∀ j : Nat, j < lx.Entries.length → (at_ lx.Entries j).Word ≠ w) ∧ Con Try.prog 29 [.agg [slEntry false lx.Entries], Sv w] true (.tup [I pl, Bv found]) := by
  have hc := hlx.1
  have hh : ∃ r : Int × Bool, ((0 ≤ r.1 ∧ r.1 ≤ (lx.Entries.length : Int)) ∧ (r.2 = true → r.1 < (lx.Entries.length : Int) ∧ (at_ lx.Entries r.1.toNat).Word = w) ∧ (r.2 = false → ∀ j : Nat, j < lx.Entries.length → (at_ lx.Entries j).Word ≠ w) ∧ (True)) ∧ CallOK Try.prog 29 [.agg [slEntry false lx.Entries], Sv w] (lookO []) true (.tup [I r.1, Bv r.2]) (lookO []) := by
    refine fn_okX (Φ := fun r : Int × Bool => (0 ≤ r.1 ∧ r.1 ≤ (lx.Entries.length : Int)) ∧ (r.2 = true → r.1 < (lx.Entries.length : Int) ∧ (at_ lx.Entries r.1.toNat).Word = w) ∧ (r.2 = false → ∀ j : Nat, j < lx.Entries.length → (at_ lx.Entries j).Word ≠ w) ∧ (True)) [] (fun r => []) (fn := Try.f29) (nt := 12) Try.func29 rfl rfl (args := [.agg [slEntry false lx.Entries], Sv w]) rfl (allcons (.inl ⟨rfl, by simp [tagged, taggedL, tagEntry]⟩) (allcons (.inl ⟨rfl, trivial⟩) allnil)) (res := fun r => .tup [I r.1, Bv r.2]) ?_
    refine xR [(0, .new 2)] [1, 2] [2] [Sv w, .ref 2 0] [some (.box [slEntry false lx.Entries])] [] trivial ?_
    refine x_seq ?_
    obtain ⟨pl_1, found_1, hx1_0, hx1_1, hx1_2, hc1⟩ := bsEnt_ok lx.Entries w hlx.2.2 (by omega)
    have hb1 := hx1_1
    have hb2 := hx1_2
    refine x_r [(3, .call [(true, .any), (true, .any), (true, .any)] true (.tup [I pl_1, Bv found_1]))] [4, 5] [] [I pl_1, Bv found_1] [] [Con Try.prog 51 [slEntry false lx.Entries, Sv w, .fn 52 []] true (.tup [I pl_1, Bv found_1]) ∧ True] ⟨⟨hc1, trivial⟩, trivial⟩ ?_
    refine xe_then ?_
    refine x_ret ?_
    refine xe_end (pl_1, found_1) (show (0 ≤ pl_1 ∧ pl_1 ≤ (lx.Entries.length : Int)) ∧ (found_1 = true → pl_1 < (lx.Entries.length : Int) ∧ (at_ lx.Entries pl_1.toNat).Word = w) ∧ (found_1 = false → ∀ j : Nat, j < lx.Entries.length → (at_ lx.Entries j).Word ≠ w) ∧ (True) from ⟨(by first | omega | exact fun q => ⟨(hb1 q).1, cmpS_zero.1 (hb1 q).2⟩ | exact fun q j hj z => hb2 q j hj (cmpS_zero.2 z)), (by first | omega | exact fun q => ⟨(hb1 q).1, cmpS_zero.1 (hb1 q).2⟩ | exact fun q j hj z => hb2 q j hj (cmpS_zero.2 z)), (by first | omega | exact fun q => ⟨(hb1 q).1, cmpS_zero.1 (hb1 q).2⟩ | exact fun q j hj z => hb2 q j hj (cmpS_zero.2 z)), trivial⟩) (trivial) (.tup [I pl_1, Bv found_1]) (by kernel_rfl) (.inl rfl) (fun _ => rfl) (fun _ => (by simp [tagged, taggedL]))
  obtain ⟨⟨pl, found⟩, ⟨hh0, hh1, hh2, _⟩, hc⟩ := hh
  exact ⟨pl, found, hh0, hh1, hh2, hc⟩


-- impl.SentenceCost
theorem SentenceCost_ok (list : List Lattice) (lx : Lexicon) (m : Model) (words : List ByteArray) (hls : (list.length : Int) ≤ 8 ∧ ∀ l ∈ list, okLat l) (hlx : okLex lx) (hmd : okMod m) (hww : ∀ z ∈ words, okWord z = true) (hwl : words.length ≤ 1000) : ∃ (v : Int) (c : Int), (scOK list lx m words v c) ∧ Con Try.prog 8 [slLattice false list, .agg [slEntry false lx.Entries], agModel m, slS false words] true (.tup [I v, I c]) := by
  have hll := hls.1
  have hh : ∃ r : Int × Int, ((scOK list lx m words r.1 r.2) ∧ (True)) ∧ CallOK Try.prog 8 [slLattice false list, .agg [slEntry false lx.Entries], agModel m, slS false words] (lookO []) true (.tup [I r.1, I r.2]) (lookO []) := by
    refine fn_okX (Φ := fun r : Int × Int => (scOK list lx m words r.1 r.2) ∧ (True)) [] (fun r => []) (fn := Try.f8) (nt := 69) Try.func8 rfl rfl (args := [slLattice false list, .agg [slEntry false lx.Entries], agModel m, slS false words]) rfl (allcons (.inl ⟨rfl, tagLattice false _⟩) (allcons (.inl ⟨rfl, by simp [tagged, taggedL, tagEntry]⟩) (allcons (.inl ⟨rfl, by simp [tagged, taggedL, tagBigram]⟩) (allcons (.inl ⟨rfl, tagS false _⟩) allnil)))) (res := fun r => .tup [I r.1, I r.2]) ?_
    refine xR [(0, .new 5), (1, .new 6)] [0, 3, 5, 6] [5, 6] [slLattice false list, slS false words, .ref 5 0, .ref 6 0] [some (.box [slEntry false lx.Entries]), some (bxModel m)] [] trivial ?_
    refine x_seq ?_
    refine xR [(3, .call [(true, .any), (true, .any), (true, .any)] true (I 0))] [0, 3, 5, 6, 10] [5, 6] [slLattice false list, slS false words, .ref 5 0, .ref 6 0, I 0] [some (.box [slEntry false lx.Entries]), some (bxModel m)] [Con Try.prog 25 [slLattice false list, .agg [slEntry false lx.Entries], agModel m] true (I 0) ∧ True] ⟨⟨(sentenced_ok list lx m hls hlx hmd), trivial⟩, trivial⟩ ?_
    refine xR [(1, .dec false)] [0, 3, 5, 6, 10, 22] [5, 6] [slLattice false list, slS false words, .ref 5 0, .ref 6 0, I 0, Bv false] [some (.box [slEntry false lx.Entries]), some (bxModel m)] [¬ ((0 : Int) ≠ 0)] ⟨(fun hq => hq (by decide)), trivial⟩ ?_
    refine x_false rfl ?_
    refine x_skip ?_
    refine xe_then ?_
    refine x_seq ?_
    refine x_seq ?_
    by_cases h1 : (words.length : Int) = (list.length : Int)
    ·refine x_r [(4, .dec false)] [0, 3, 5, 6, 28] [5, 6] [slLattice false list, slS false words, .ref 5 0, .ref 6 0, Bv false] [some (.box [slEntry false lx.Entries]), some (bxModel m)] [¬ ((words.length : Int) ≠ (list.length : Int))] ⟨(fun hq => hq h1), trivial⟩ ?_
     refine xe_then ?_
     refine x_false rfl ?_
     refine x_skip ?_
     refine xe_then ?_
     refine x_seq ?_
     obtain ⟨v_1, hx1_0, hx1_1, hc1⟩ := wordsCost_ok m words hmd (by omega)
     have hwv := hx1_0
     have hwb := hx1_1
     refine x_r [(2, .call [(true, .any), (true, .any)] true (I v_1))] [0, 3, 5, 11] [5] [slLattice false list, slS false words, .ref 5 0, I v_1] [some (.box [slEntry false lx.Entries])] [Con Try.prog 28 [agModel m, slS false words] true (I v_1) ∧ True] ⟨⟨hc1, trivial⟩, trivial⟩ ?_
     refine xe_then ?_
     refine x_seq ?_
     refine xR [] [0, 5, 11, 32, 33, 34] [5] [slLattice false list, .ref 5 0, I v_1, slS false words, I (words.length : Int), I 0] [some (.box [slEntry false lx.Entries])] [] trivial ?_
     refine x_block ?_
     refine x_loop (X := Int × Int) (fun x => mkS [(0, slLattice false list), (5, .ref 5 0), (11, I x.1), (32, slS false words), (33, I (words.length : Int)), (34, I x.2)] [(5, .box [slEntry false lx.Entries])]) (fun x => (0 ≤ x.2 ∧ x.2 ≤ (words.length : Int)) ∧ (x.1 = wcM m ⟨#[]⟩ words + scK list lx words x.2.toNat) ∧ (∀ k : Nat, (k : Int) < x.2 → canW lx (at_ list k) (at_ words k)) ∧ (0 ≤ x.1 ∧ x.1 ≤ 1000000000 + 1099600000000 * x.2) ∧ True) (fun x => ((words.length : Int) - x.2).toNat) (v_1, 0) rfl (show (0 ≤ (0 : Int) ∧ (0 : Int) ≤ (words.length : Int)) ∧ (v_1 = wcM m ⟨#[]⟩ words + scK list lx words (0 : Int).toNat) ∧ (∀ k : Nat, (k : Int) < (0 : Int) → canW lx (at_ list k) (at_ words k)) ∧ (0 ≤ v_1 ∧ v_1 ≤ 1000000000 + 1099600000000 * (0 : Int)) ∧ True from ⟨(by omega), (by rw [hwv]; simp [scK]), (by intro k hk; omega), (by omega), trivial⟩) (fun x hI => ?_)
     obtain ⟨sum, t34⟩ := x
     obtain ⟨hi0, hsu, hcan, hsb, _⟩ : (0 ≤ t34 ∧ t34 ≤ (words.length : Int)) ∧ (sum = wcM m ⟨#[]⟩ words + scK list lx words t34.toNat) ∧ (∀ k : Nat, (k : Int) < t34 → canW lx (at_ list k) (at_ words k)) ∧ (0 ≤ sum ∧ sum ≤ 1000000000 + 1099600000000 * t34) ∧ True := hI
     show XW _ _ _ _ (mkS [(0, slLattice false list), (5, .ref 5 0), (11, I sum), (32, slS false words), (33, I (words.length : Int)), (34, I t34)] [(5, .box [slEntry false lx.Entries])]) _ _
     refine x_seq ?_
     by_cases h2 : t34 < (words.length : Int)
     ·have hi : t34.toNat < words.length := by omega
      have hlt := hls.2 _ (at_mem (xs := list) (i := t34.toNat) (by omega))
      have hwz := hww _ (at_mem hi)
      have hwz2 := (okWord_iff.1 hwz).1
      have htb := tcF_bd hlt (at_ words t34.toNat)
      refine x_r [(0, .dec true)] [0, 5, 11, 32, 33, 34, 35] [5] [slLattice false list, .ref 5 0, I sum, slS false words, I (words.length : Int), I t34, Bv true] [some (.box [slEntry false lx.Entries])] [t34 < (words.length : Int)] ⟨h2, trivial⟩ ?_
      refine xe_then ?_
      refine x_seq ?_
      refine x_true rfl ?_
      refine x_skip ?_
      refine xe_then ?_
      refine x_seq ?_
      refine x_block ?_
      refine xR [] [0, 5, 11, 12, 13, 32, 33, 34] [5] [slLattice false list, .ref 5 0, I sum, I t34, Sv (at_ words t34.toNat), slS false words, I (words.length : Int), I t34] [some (.box [slEntry false lx.Entries])] [(0 : Int) ≤ t34 ∧ t34 < (words.length : Int)] ⟨⟨(by omega), (by omega)⟩, trivial⟩ ?_
      refine x_seq ?_
      obtain ⟨pl_2, found_2, hx2_0, hx2_1, hx2_2, hc2⟩ := placeOf_ok lx (at_ words t34.toNat) hlx
      have hb1 := hx2_1
      have hb2 := hx2_2
      refine x_r [(2, .call [(true, .any), (true, .any)] true (.tup [I pl_2, Bv found_2]))] [0, 5, 11, 12, 13, 14, 15, 32, 33, 34] [5] [slLattice false list, .ref 5 0, I sum, I t34, Sv (at_ words t34.toNat), I pl_2, Bv found_2, slS false words, I (words.length : Int), I t34] [some (.box [slEntry false lx.Entries])] [Con Try.prog 29 [.agg [slEntry false lx.Entries], Sv (at_ words t34.toNat)] true (.tup [I pl_2, Bv found_2]) ∧ True] ⟨⟨hc2, trivial⟩, trivial⟩ ?_
      refine xe_then ?_
      refine xR [(5, .call [(true, .any), (true, .any)] true (I (tcF (at_ list t34.toNat) (at_ words t34.toNat))))] [0, 5, 11, 14, 15, 16, 32, 33, 34] [5] [slLattice false list, .ref 5 0, I sum, I pl_2, Bv found_2, I (tcF (at_ list t34.toNat) (at_ words t34.toNat)), slS false words, I (words.length : Int), I t34] [some (.box [slEntry false lx.Entries])] [(0 : Int) ≤ t34 ∧ t34 < (list.length : Int), Con Try.prog 26 [agLattice (at_ list t34.toNat), Sv (at_ words t34.toNat)] true (I (tcF (at_ list t34.toNat) (at_ words t34.toNat))) ∧ True] ⟨⟨(by omega), (by omega)⟩, ⟨(textCost_ok (at_ list t34.toNat) (at_ words t34.toNat) hlt (by omega)), trivial⟩, trivial⟩ ?_
      refine x_seq ?_
      refine x_seq ?_
      rcases Bool.eq_false_or_eq_true found_2 with h3 | h3
      ·subst h3
       have hb3 := hb1 rfl
       have hb4 := hb3.1
       have hb5 := ent_hit hlx (by omega) hb3.2
       have hb6 := ent_bd hlx (at_ words t34.toNat)
       rw [hb5] at hb6
       by_cases h4 : (tcF (at_ list t34.toNat) (at_ words t34.toNat)) = 1099511627776
       ·refine x_r [(4, .dec true)] [0, 5, 11, 14, 16, 32, 33, 34, 56] [5] [slLattice false list, .ref 5 0, I sum, I pl_2, I (tcF (at_ list t34.toNat) (at_ words t34.toNat)), slS false words, I (words.length : Int), I t34, Bv true] [some (.box [slEntry false lx.Entries])] [(tcF (at_ list t34.toNat) (at_ words t34.toNat)) = 1099511627776] ⟨h4, trivial⟩ ?_
        refine xe_then ?_
        refine x_true rfl ?_
        refine xR [] [8, 9] [] [I 0, I 3] [] [] trivial ?_
        refine x_ret ?_
        refine xe_ret_then (xe_ret_block (xe_ret_then (xe_loop_ret (xe_ret_block (xe_ret_then ?_)))))
        refine xe_end (0, 3) (show (scOK list lx m words 0 3) ∧ (True) from ⟨(by first | exact .inl ⟨by omega, rfl, rfl⟩ | exact .inr (.inl ⟨by omega, ⟨t34.toNat, hi, fun q => (by obtain ⟨j, q1, q2⟩ := q.1; exact hb2 rfl j q1 q2)⟩, rfl, rfl⟩) | exact .inr (.inl ⟨by omega, ⟨t34.toNat, hi, fun q => q.2 (by assumption)⟩, rfl, rfl⟩) | exact .inr (.inr ⟨by omega, fun k hk => hcan k (by omega), by rw [hsu, hie], rfl⟩)), trivial⟩) (trivial) (.tup [I 0, I 3]) (by kernel_rfl) (.inl rfl) (fun _ => rfl) (fun _ => (by simp [tagged, taggedL]))
       refine x_r [(4, .dec false)] [0, 5, 11, 14, 16, 32, 33, 34, 56] [5] [slLattice false list, .ref 5 0, I sum, I pl_2, I (tcF (at_ list t34.toNat) (at_ words t34.toNat)), slS false words, I (words.length : Int), I t34, Bv false] [some (.box [slEntry false lx.Entries])] [¬ ((tcF (at_ list t34.toNat) (at_ words t34.toNat)) = 1099511627776)] ⟨h4, trivial⟩ ?_
       refine xe_then ?_
       refine x_false rfl ?_
       refine x_skip ?_
       refine xe_then ?_
       refine x_r [] [0, 5, 11, 32, 33, 34] [5] [slLattice false list, .ref 5 0, I (sum + ((tcF (at_ list t34.toNat) (at_ words t34.toNat)) + ((at_ lx.Entries pl_2.toNat).Cost))), slS false words, I (words.length : Int), I t34] [some (.box [slEntry false lx.Entries])] [(0 : Int) ≤ pl_2 ∧ pl_2 < (lx.Entries.length : Int), inR .i64 ((tcF (at_ list t34.toNat) (at_ words t34.toNat)) + ((at_ lx.Entries pl_2.toNat).Cost)), inR .i64 (sum + ((tcF (at_ list t34.toNat) (at_ words t34.toNat)) + ((at_ lx.Entries pl_2.toNat).Cost)))] ⟨⟨(by omega), (by omega)⟩, (inR_i64 (by omega) (by omega)), (inR_i64 (by omega) (by omega)), trivial⟩ ?_
       refine xe_block 1 ?_
       refine xe_then ?_
       refine x_r [] [0, 5, 11, 32, 33, 34] [5] [slLattice false list, .ref 5 0, I (sum + ((tcF (at_ list t34.toNat) (at_ words t34.toNat)) + ((at_ lx.Entries pl_2.toNat).Cost))), slS false words, I (words.length : Int), I (t34 + 1)] [some (.box [slEntry false lx.Entries])] [inR .i64 (t34 + 1)] ⟨(inR_i64 (by omega) (by omega)), trivial⟩ ?_
       exact xe_again ((sum + ((tcF (at_ list t34.toNat) (at_ words t34.toNat)) + ((at_ lx.Entries pl_2.toNat).Cost))), (t34 + 1)) rfl (show (0 ≤ (t34 + 1) ∧ (t34 + 1) ≤ (words.length : Int)) ∧ ((sum + ((tcF (at_ list t34.toNat) (at_ words t34.toNat)) + ((at_ lx.Entries pl_2.toNat).Cost))) = wcM m ⟨#[]⟩ words + scK list lx words (t34 + 1).toNat) ∧ (∀ k : Nat, (k : Int) < (t34 + 1) → canW lx (at_ list k) (at_ words k)) ∧ (0 ≤ (sum + ((tcF (at_ list t34.toNat) (at_ words t34.toNat)) + ((at_ lx.Entries pl_2.toNat).Cost))) ∧ (sum + ((tcF (at_ list t34.toNat) (at_ words t34.toNat)) + ((at_ lx.Entries pl_2.toNat).Cost))) ≤ 1000000000 + 1099600000000 * (t34 + 1)) ∧ True from ⟨(by omega), (by rw [show (t34 + 1).toNat = t34.toNat + 1 from by omega, hsu]; show _ = _ + (_ + (_ + entC lx (at_ words t34.toNat))); rw [hb5]; omega), (by intro k hk; by_cases ek : k = t34.toNat; (subst ek; exact ⟨⟨_, by omega, hb3.2⟩, by assumption⟩); exact hcan k (by omega)), (by omega), trivial⟩) (by first | (show (((words.length : Int) - (t34 + 1)).toNat : Nat) < ((words.length : Int) - t34).toNat; omega) | (dsimp only; omega))
      subst h3
      refine x_r [] [0, 5, 11, 14, 16, 32, 33, 34, 56] [5] [slLattice false list, .ref 5 0, I sum, I pl_2, I (tcF (at_ list t34.toNat) (at_ words t34.toNat)), slS false words, I (words.length : Int), I t34, Bv true] [some (.box [slEntry false lx.Entries])] [] trivial ?_
      refine xe_then ?_
      refine x_true rfl ?_
      refine xR [] [8, 9] [] [I 0, I 3] [] [] trivial ?_
      refine x_ret ?_
      refine xe_ret_then (xe_ret_block (xe_ret_then (xe_loop_ret (xe_ret_block (xe_ret_then ?_)))))
      refine xe_end (0, 3) (show (scOK list lx m words 0 3) ∧ (True) from ⟨(by first | exact .inl ⟨by omega, rfl, rfl⟩ | exact .inr (.inl ⟨by omega, ⟨t34.toNat, hi, fun q => (by obtain ⟨j, q1, q2⟩ := q.1; exact hb2 rfl j q1 q2)⟩, rfl, rfl⟩) | exact .inr (.inl ⟨by omega, ⟨t34.toNat, hi, fun q => q.2 (by assumption)⟩, rfl, rfl⟩) | exact .inr (.inr ⟨by omega, fun k hk => hcan k (by omega), by rw [hsu, hie], rfl⟩)), trivial⟩) (trivial) (.tup [I 0, I 3]) (by kernel_rfl) (.inl rfl) (fun _ => rfl) (fun _ => (by simp [tagged, taggedL]))
     have hie : t34.toNat = words.length := by omega
     refine x_r [(0, .dec false)] [0, 5, 11, 32, 33, 34, 35] [5] [slLattice false list, .ref 5 0, I sum, slS false words, I (words.length : Int), I t34, Bv false] [some (.box [slEntry false lx.Entries])] [¬ (t34 < (words.length : Int))] ⟨h2, trivial⟩ ?_
     refine xe_then ?_
     refine x_seq ?_
     refine x_false rfl ?_
     refine x_exit ?_
     refine xe_exit_then ?_
     refine xe_loop_exit ?_
     refine xe_exit_same ?_
     refine xe_then ?_
     refine xR [] [8, 9] [] [I sum, I 0] [] [] trivial ?_
     refine x_ret ?_
     refine xe_end (sum, 0) (show (scOK list lx m words sum 0) ∧ (True) from ⟨(by first | exact .inl ⟨by omega, rfl, rfl⟩ | exact .inr (.inl ⟨by omega, ⟨t34.toNat, hi, fun q => (by obtain ⟨j, q1, q2⟩ := q.1; exact hb2 rfl j q1 q2)⟩, rfl, rfl⟩) | exact .inr (.inl ⟨by omega, ⟨t34.toNat, hi, fun q => q.2 (by assumption)⟩, rfl, rfl⟩) | exact .inr (.inr ⟨by omega, fun k hk => hcan k (by omega), by rw [hsu, hie], rfl⟩)), trivial⟩) (trivial) (.tup [I sum, I 0]) (by kernel_rfl) (.inl rfl) (fun _ => rfl) (fun _ => (by simp [tagged, taggedL]))
    refine x_r [(4, .dec true)] [0, 3, 5, 6, 28] [5, 6] [slLattice false list, slS false words, .ref 5 0, .ref 6 0, Bv true] [some (.box [slEntry false lx.Entries]), some (bxModel m)] [(words.length : Int) ≠ (list.length : Int)] ⟨h1, trivial⟩ ?_
    refine xe_then ?_
    refine x_true rfl ?_
    refine xR [] [8, 9] [] [I 0, I 2] [] [] trivial ?_
    refine x_ret ?_
    refine xe_ret_then ?_
    refine xe_end (0, 2) (show (scOK list lx m words 0 2) ∧ (True) from ⟨(by first | exact .inl ⟨by omega, rfl, rfl⟩ | exact .inr (.inl ⟨by omega, ⟨t34.toNat, hi, fun q => (by obtain ⟨j, q1, q2⟩ := q.1; exact hb2 rfl j q1 q2)⟩, rfl, rfl⟩) | exact .inr (.inl ⟨by omega, ⟨t34.toNat, hi, fun q => q.2 (by assumption)⟩, rfl, rfl⟩) | exact .inr (.inr ⟨by omega, fun k hk => hcan k (by omega), by rw [hsu, hie], rfl⟩)), trivial⟩) (trivial) (.tup [I 0, I 2]) (by kernel_rfl) (.inl rfl) (fun _ => rfl) (fun _ => (by simp [tagged, taggedL]))
  obtain ⟨⟨v, c⟩, ⟨hh0, _⟩, hc⟩ := hh
  exact ⟨v, c, hh0, hc⟩


def a2AtI (code : List Int) (i n : Int) : Int := if (code.length : Int) ≤ i ∨ n < 1 then 0 else at_ code i.toNat % n
theorem a2At_bd (code : List Int) (i : Int) {n : Int} (hn : 1 ≤ n) : 0 ≤ a2AtI code i n ∧ a2AtI code i n < n := by
  unfold a2AtI
  split
  · omega
  · exact ⟨Int.emod_nonneg _ (by omega), Int.emod_lt_of_pos _ (by omega)⟩

theorem bw_le {m : Model} {l : ByteArray} {ws : List wordAt} {j : Nat} : ∀ {k : Nat}, j < k → (bwI m l ws k).2 = true ∧ (bwI m l ws k).1.cost ≤ pcM m l (at_ ws j).word + (at_ ws j).cost
  | 0, h => absurd h (Nat.not_lt_zero _)
  | k + 1, h => by
    unfold bwI
    by_cases e : j = k
    · subst e
      split
      · exact ⟨rfl, Int.le_refl _⟩
      · rename_i q
        refine ⟨?_, ?_⟩
        · cases z : (bwI m l ws j).2 with
          | true => rfl
          | false => exact absurd (.inl z) q
        · have : ¬ pcM m l (at_ ws j).word + (at_ ws j).cost < (bwI m l ws j).1.cost := fun z => q (.inr z)
          omega
    · have ih := bw_le (m := m) (l := l) (ws := ws) (show j < k by omega)
      split
      · rename_i q
        refine ⟨rfl, ?_⟩
        rcases q with q | q
        · rw [ih.1] at q; cases q
        · dsimp only; omega
      · exact ih
theorem bw_from {m : Model} {l : ByteArray} {ws : List wordAt} : ∀ {k : Nat}, (bwI m l ws k).2 = true → ∃ j, j < k ∧ (bwI m l ws k).1 = ⟨(at_ ws j).word, pcM m l (at_ ws j).word + (at_ ws j).cost⟩
  | 0, h => by simp [bwI] at h
  | k + 1, h => by
    unfold bwI at h ⊢
    split
    · exact ⟨k, by omega, rfl⟩
    · rename_i q
      rw [if_neg q] at h
      obtain ⟨j, h1, h2⟩ := bw_from h
      exact ⟨j, by omega, h2⟩
def enW (l : Lattice) (lx : Lexicon) (m : Model) (nx : List wordAt) (e : Nat) : wordAt := ⟨(at_ lx.Entries e).Word, tcF l (at_ lx.Entries e).Word + (at_ lx.Entries e).Cost + (bwI m (at_ lx.Entries e).Word nx nx.length).1.cost⟩
def enC (l : Lattice) (lx : Lexicon) (m : Model) (nx : List wordAt) (lst : Bool) (e : Nat) : Prop := tcF l (at_ lx.Entries e).Word < 1099511627776 ∧ ((bwI m (at_ lx.Entries e).Word nx nx.length).2 = true ∨ lst = true)
theorem stE_mem {l : Lattice} {lx : Lexicon} {m : Model} {nx : List wordAt} {lst : Bool} {x : wordAt} : ∀ {n : Nat}, x ∈ stE l lx m nx lst n ↔ ∃ e, e < n ∧ enC l lx m nx lst e ∧ x = enW l lx m nx e
  | 0 => ⟨fun h => (by cases h), fun ⟨_, h, _⟩ => absurd h (Nat.not_lt_zero _)⟩
  | n + 1 => by
    have ih := stE_mem (l := l) (lx := lx) (m := m) (nx := nx) (lst := lst) (x := x) (n := n)
    unfold stE
    constructor
    · intro h
      split at h
      · rename_i q
        rcases mem_app.1 h with z | z
        · obtain ⟨e, h1, h2⟩ := ih.1 z; exact ⟨e, by omega, h2⟩
        · exact ⟨n, by omega, q, z⟩
      · obtain ⟨e, h1, h2⟩ := ih.1 h; exact ⟨e, by omega, h2⟩
    · rintro ⟨e, h1, h2, h3⟩
      by_cases c : e = n
      · subst c
        unfold enC at h2; rw [if_pos h2]; exact mem_app.2 (.inr h3)
      · have := ih.2 ⟨e, by omega, h2, h3⟩
        split
        · exact mem_app.2 (.inl this)
        · exact this
theorem stg_eq {list : List Lattice} {lx : Lexicon} {m : Model} {k : Nat} (hk : k < list.length) : stg list lx m k = stE (at_ list k) lx m (stg list lx m (k + 1)) (decide (k + 1 = list.length)) lx.Entries.length := by
  show stR list lx m (list.length - k) = _
  rw [show list.length - k = (list.length - (k + 1)) + 1 from by omega]
  show stE (at_ list (list.length - 1 - (list.length - (k + 1)))) lx m _ (decide (list.length - (k + 1) = 0)) _ = _
  rw [show list.length - 1 - (list.length - (k + 1)) = k from by omega]
  have : decide (list.length - (k + 1) = 0) = decide (k + 1 = list.length) := decide_eq_decide.2 ⟨fun _ => by omega, fun _ => by omega⟩
  rw [this]; rfl
theorem stg_end (list : List Lattice) (lx : Lexicon) (m : Model) : stg list lx m list.length = [] := by unfold stg; rw [Nat.sub_self]; rfl
def bwS (list : List Lattice) (lx : Lexicon) (m : Model) (l : ByteArray) (k : Nat) : wordAt × Bool := bwI m l (stg list lx m k) (stg list lx m k).length
theorem bwS_end (list : List Lattice) (lx : Lexicon) (m : Model) (l : ByteArray) : bwS list lx m l list.length = (⟨⟨#[]⟩, 0⟩, false) := by unfold bwS; rw [stg_end]; rfl
/-- The costs of words in the lattices from k on. -/
def scR (list : List Lattice) (lx : Lexicon) : Nat → List ByteArray → Int
  | _, [] => 0
  | k, w :: r => tcF (at_ list k) w + entC lx w + scR list lx (k + 1) r
theorem complete {list : List Lattice} {lx : Lexicon} {m : Model} (hls : ∀ l ∈ list, okLat l) (hx : okLex lx) : ∀ (ws : List ByteArray) (l : ByteArray) (k : Nat), k + ws.length = list.length → 0 < ws.length → (∀ j : Nat, j < ws.length → canW lx (at_ list (k + j)) (at_ ws j)) → (bwS list lx m l k).2 = true ∧ (bwS list lx m l k).1.cost ≤ wcM m l ws + scR list lx k ws
  | [], _, _, _, h, _ => absurd h (Nat.lt_irrefl _)
  | w :: r, l, k, hk, _, hc => by
    rw [List.length_cons] at hk
    have hc0 := hc 0 (by simp)
    have e0 : at_ (w :: r) 0 = w := by simp [at_]
    rw [e0, Nat.add_zero] at hc0
    obtain ⟨⟨j, hj, hw⟩, hn⟩ := hc0
    have hen := hx.2.1 _ (at_mem hj)
    have hsz := (okWord_iff.1 hen.1).1
    have hok := hls _ (at_mem (show k < list.length by omega))
    have htb := tcF_bd hok w
    rw [hw] at hsz
    have rest : ((bwS list lx m w (k + 1)).2 = true ∨ decide (k + 1 = list.length) = true) ∧ (bwS list lx m w (k + 1)).1.cost ≤ wcM m w r + scR list lx (k + 1) r := by
      by_cases z : r.length = 0
      · have : r = [] := List.length_eq_zero_iff.1 z
        subst this
        rw [show k + 1 = list.length from by simpa using hk, bwS_end]
        exact ⟨.inr (by simp), Int.le_refl _⟩
      · have ih := complete (m := m) hls hx r w (k + 1) (by omega) (by omega) (fun j hj => by
          have := hc (j + 1) (by simp; omega)
          rw [show k + (j + 1) = k + 1 + j from by omega] at this
          have e : at_ (w :: r) (j + 1) = at_ r j := by simp [at_]
          rwa [e] at this)
        exact ⟨.inl ih.1, ih.2⟩
    have hmem : enW (at_ list k) lx m (stg list lx m (k + 1)) j ∈ stg list lx m k := by
      rw [stg_eq (show k < list.length by omega)]
      refine stE_mem.2 ⟨j, hj, ⟨by rw [hw]; omega, ?_⟩, rfl⟩
      rw [hw]; exact rest.1
    obtain ⟨p, hp, e⟩ := List.getElem_of_mem hmem
    have q := bw_le (m := m) (l := l) (ws := stg list lx m k) hp
    rw [at_eq hp, e] at q
    refine ⟨q.1, Int.le_trans q.2 ?_⟩
    unfold enW
    dsimp only
    rw [hw]
    have hec := ent_hit hx hj hw
    have hr : (bwI m w (stg list lx m (k + 1)) (stg list lx m (k + 1)).length).1.cost ≤ wcM m w r + scR list lx (k + 1) r := rest.2
    show _ ≤ (pcM m l w + wcM m w r) + (tcF (at_ list k) w + entC lx w + scR list lx (k + 1) r)
    rw [hec]; omega
theorem sound {list : List Lattice} {lx : Lexicon} {m : Model} (hls : ∀ l ∈ list, okLat l) (hx : okLex lx) (hm : okMod m) {l : ByteArray} {k : Nat} (hk : k < list.length) (h : (bwS list lx m l k).2 = true) : okWord (bwS list lx m l k).1.word = true ∧ canW lx (at_ list k) (bwS list lx m l k).1.word ∧ ((bwS list lx m (bwS list lx m l k).1.word (k + 1)).2 = true ∨ k + 1 = list.length) ∧ (bwS list lx m l k).1.cost = pcM m l (bwS list lx m l k).1.word + (tcF (at_ list k) (bwS list lx m l k).1.word + entC lx (bwS list lx m l k).1.word) + (bwS list lx m (bwS list lx m l k).1.word (k + 1)).1.cost := by
  obtain ⟨j, hj, e⟩ := bw_from h
  have hmem := at_mem hj
  rw [stg_eq hk] at hmem
  obtain ⟨q, hq, hc, hw⟩ := stE_mem.1 hmem
  rw [← stg_eq hk] at hw
  have e2 : (bwS list lx m l k).1 = ⟨(at_ lx.Entries q).Word, pcM m l (at_ lx.Entries q).Word + (enW (at_ list k) lx m (stg list lx m (k + 1)) q).cost⟩ := by
    show (bwI m l (stg list lx m k) (stg list lx m k).length).1 = _
    rw [e, hw]; rfl
  rw [e2]
  have hen := hx.2.1 _ (at_mem hq)
  refine ⟨hen.1, ⟨⟨q, hq, rfl⟩, by have := hc.1; dsimp only; omega⟩, hc.2.imp id (fun z => of_decide_eq_true z), ?_⟩
  show pcM m l (at_ lx.Entries q).Word + (tcF (at_ list k) (at_ lx.Entries q).Word + (at_ lx.Entries q).Cost + (bwI m (at_ lx.Entries q).Word (stg list lx m (k + 1)) (stg list lx m (k + 1)).length).1.cost) = pcM m l (at_ lx.Entries q).Word + (tcF (at_ list k) (at_ lx.Entries q).Word + entC lx (at_ lx.Entries q).Word) + (bwI m (at_ lx.Entries q).Word (stg list lx m (k + 1)) (stg list lx m (k + 1)).length).1.cost
  rw [ent_hit hx hq rfl]; omega

theorem scK_cons (list : List Lattice) (lx : Lexicon) : ∀ (ws : List ByteArray) (k0 : Nat) (f : Nat → Int), (∀ j, f (j + 1) = f j + (tcF (at_ list (k0 + j)) (at_ ws j) + entC lx (at_ ws j))) → f ws.length = f 0 + scR list lx k0 ws
  | [], k0, f, h => by show f 0 = f 0 + 0; omega
  | w :: r, k0, f, h => by
    have ih := scK_cons list lx r (k0 + 1) (fun j => f (j + 1)) (fun j => by
      show f (j + 1 + 1) = f (j + 1) + _
      rw [h (j + 1), show k0 + (j + 1) = k0 + 1 + j from by omega]
      have e : at_ (w :: r) (j + 1) = at_ r j := by simp [at_]
      rw [e])
    have h0 := h 0
    have e0 : at_ (w :: r) 0 = w := by simp [at_]
    rw [e0, show k0 + 0 = k0 from rfl] at h0
    show f (r.length + 1) = f 0 + (tcF (at_ list k0) w + entC lx w + scR list lx (k0 + 1) r)
    replace ih : f (r.length + 1) = f (0 + 1) + scR list lx (k0 + 1) r := ih
    rw [ih, h0]; omega
theorem scK_all (list : List Lattice) (lx : Lexicon) (ws : List ByteArray) : scK list lx ws ws.length = scR list lx 0 ws := by
  have := scK_cons list lx ws 0 (scK list lx ws) (fun j => by rw [Nat.zero_add]; rfl)
  rw [this]; show 0 + _ = _; omega
theorem fsW_pre (list : List Lattice) (lx : Lexicon) (m : Model) {j : Nat} : ∀ {n : Nat}, j < n → at_ (fsW list lx m n) j = (fsB list lx m j).1.word
  | 0, h => absurd h (Nat.not_lt_zero _)
  | n + 1, h => by
    have hl := fsW_len list lx m n
    show at_ (fsW list lx m n ++ [(fsB list lx m n).1.word]) j = _
    by_cases e : j = n
    · subst e; rw [at_eq (by rw [List.length_append, hl]; simp), List.getElem_append_right (by omega)]; simp [hl]
    · have ih := fsW_pre list lx m (show j < n by omega)
      rw [at_eq (by rw [List.length_append, hl]; simp; omega), List.getElem_append_left (by omega), ← at_eq (by omega)]; exact ih
theorem fsB_next (list : List Lattice) (lx : Lexicon) (m : Model) (k : Nat) : fsB list lx m (k + 1) = bwS list lx m (fsB list lx m k).1.word (k + 1) := by
  have h : lastW ⟨#[]⟩ (fsW list lx m (k + 1)) (k + 1) = (fsB list lx m k).1.word := by
    unfold lastW; rw [if_neg (by omega), show k + 1 - 1 = k from by omega, fsW_pre list lx m (by omega)]
  show bwI m (lastW ⟨#[]⟩ (fsW list lx m (k + 1)) (k + 1)) _ _ = _
  rw [h]; rfl
theorem fsB_as (list : List Lattice) (lx : Lexicon) (m : Model) (k : Nat) : fsB list lx m k = bwS list lx m (lastW ⟨#[]⟩ (fsW list lx m k) k) k := rfl
theorem fsB_all {list : List Lattice} {lx : Lexicon} {m : Model} (hls : ∀ l ∈ list, okLat l) (hx : okLex lx) (hm : okMod m) (h : 0 < list.length → (fsB list lx m 0).2 = true) : ∀ k : Nat, k < list.length → (fsB list lx m k).2 = true
  | 0, hk => h hk
  | k + 1, hk => by
    have ih := fsB_all hls hx hm h k (by omega)
    rw [fsB_as] at ih
    have s := (sound hls hx hm (show k < list.length by omega) ih).2.2.1
    rw [← fsB_as] at s
    rw [fsB_next]
    exact s.elim id (fun z => by omega)
theorem lastW_eq {list : List Lattice} {lx : Lexicon} {m : Model} {k : Nat} (hk : k ≤ list.length) : lastW ⟨#[]⟩ (fsW list lx m k) k = lastW ⟨#[]⟩ (fsW list lx m list.length) k := by
  unfold lastW
  by_cases e : k = 0
  · rw [if_pos e, if_pos e]
  · rw [if_neg e, if_neg e, fsW_pre list lx m (by omega), fsW_pre list lx m (by omega)]
theorem fs_sum {list : List Lattice} {lx : Lexicon} {m : Model} (hls : ∀ l ∈ list, okLat l) (hx : okLex lx) (hm : okMod m) (h : ∀ k : Nat, k < list.length → (fsB list lx m k).2 = true) : ∀ k : Nat, k ≤ list.length → (fsB list lx m 0).1.cost = wcK m ⟨#[]⟩ (fsW list lx m list.length) k + scK list lx (fsW list lx m list.length) k + (fsB list lx m k).1.cost
  | 0, _ => by show _ = 0 + 0 + _; omega
  | k + 1, hk => by
    have ih := fs_sum hls hx hm h k (by omega)
    have f := h k (by omega)
    rw [fsB_as] at f
    have s := (sound hls hx hm (show k < list.length by omega) f).2.2.2
    rw [← fsB_as, ← fsB_next] at s
    show _ = (wcK m ⟨#[]⟩ (fsW list lx m list.length) k + pcM m (lastW ⟨#[]⟩ (fsW list lx m list.length) k) (at_ (fsW list lx m list.length) k)) + (scK list lx (fsW list lx m list.length) k + (tcF (at_ list k) (at_ (fsW list lx m list.length) k) + entC lx (at_ (fsW list lx m list.length) k))) + _
    rw [fsW_pre list lx m (show k < list.length by omega), ← lastW_eq (show k ≤ list.length by omega), ih, s]; omega
theorem fsB_end (list : List Lattice) (lx : Lexicon) (m : Model) : (fsB list lx m list.length).1.cost = 0 := by rw [fsB_as, bwS_end]
/-- The words that are found are words, can be read, and have the cost that is told. -/
theorem fs_own {list : List Lattice} {lx : Lexicon} {m : Model} (hls : ∀ l ∈ list, okLat l) (hx : okLex lx) (hm : okMod m) (h : ∀ k : Nat, k < list.length → (fsB list lx m k).2 = true) : (∀ z ∈ fsW list lx m list.length, okWord z = true) ∧ (∀ k : Nat, k < list.length → canW lx (at_ list k) (at_ (fsW list lx m list.length) k)) ∧ wcM m ⟨#[]⟩ (fsW list lx m list.length) + scK list lx (fsW list lx m list.length) list.length = if list.length = 0 then 0 else (fsB list lx m 0).1.cost := by
  have hl := fsW_len list lx m list.length
  have s : ∀ k : Nat, k < list.length → okWord (fsB list lx m k).1.word = true ∧ canW lx (at_ list k) (fsB list lx m k).1.word := fun k hk => by
    have f := h k hk
    rw [fsB_as] at f ⊢
    have := sound hls hx hm hk f
    exact ⟨this.1, this.2.1⟩
  refine ⟨fun z hz => ?_, fun k hk => ?_, ?_⟩
  · obtain ⟨j, hj, e⟩ := List.getElem_of_mem hz
    rw [← e, ← at_eq hj, fsW_pre list lx m (by omega)]; exact (s j (by omega)).1
  · rw [fsW_pre list lx m hk]; exact (s k hk).2
  · have q := fs_sum hls hx hm h list.length (Nat.le_refl _)
    rw [fsB_end] at q
    have w := wcK_all m (fsW list lx m list.length) ⟨#[]⟩
    rw [hl] at w
    by_cases z : list.length = 0
    · rw [if_pos z, ← w, z]; rfl
    · rw [if_neg z, q, ← w]; omega
/-- What is found costs least. -/
theorem fs_least {list : List Lattice} {lx : Lexicon} {m : Model} (hls : ∀ l ∈ list, okLat l) (hx : okLex lx) {ws : List ByteArray} (hl : ws.length = list.length) (hc : ∀ k : Nat, k < ws.length → canW lx (at_ list k) (at_ ws k)) : (0 < list.length → (fsB list lx m 0).2 = true) ∧ (if list.length = 0 then 0 else (fsB list lx m 0).1.cost) ≤ wcM m ⟨#[]⟩ ws + scK list lx ws ws.length := by
  rw [scK_all]
  by_cases z : list.length = 0
  · have : ws = [] := List.length_eq_zero_iff.1 (by omega)
    subst this
    rw [if_pos z]; exact ⟨fun q => by omega, Int.le_refl _⟩
  · have q := complete (m := m) hls hx ws ⟨#[]⟩ 0 (by omega) (by omega) (fun j hj => by rw [Nat.zero_add]; exact hc j hj)
    rw [if_neg z]
    exact ⟨fun _ => q.1, q.2⟩
theorem sc_code {list : List Lattice} {lx : Lexicon} {m : Model} {ws : List ByteArray} {v c : Int} (h : scOK list lx m ws v c) (hl : ws.length = list.length) : (c = 3 ∧ ¬ ∀ k : Nat, k < ws.length → canW lx (at_ list k) (at_ ws k)) ∨ (c = 0 ∧ (∀ k : Nat, k < ws.length → canW lx (at_ list k) (at_ ws k)) ∧ v = wcM m ⟨#[]⟩ ws + scK list lx ws ws.length) := by
  rcases h with h | h | h
  · exact absurd hl h.1
  · obtain ⟨_, ⟨k, h1, h2⟩, _, h3⟩ := h
    exact .inl ⟨h3, fun q => h2 (q k h1)⟩
  · exact .inr ⟨h.2.2.2, h.2.1, h.2.2.1⟩

-- laws.FnSentences
theorem fnSentences_con (code : List Int) (ok_code : ∀ y ∈ code, inR .u8 y) : Con Try.prog 3 [slU8 false code] true (Bv true) := by
  refine fn_ok (fn := Try.f3) (nt := 84) Try.func3 rfl rfl rfl rfl (by simp [taggedL, tagged, tagU8]) fun B hB => ?_
  refine aw_lens (x := slU8 false code) 0 rfl (fun len_code => ?_)
  simp [LenOK, LenL, cU8, fU8, slU8] at len_code
  refine aR [] [0] [] [slU8 false code] [] [] hB trivial ?_
  refine aw_seq ?_
  refine aw_seq ?_
  rcases Bool.eq_false_or_eq_true (decide (3000 < (code.length : Int) ∨ 3000 < (([] : List Int).length : Int))) with h1 | h1
  ·refine aw_r [(1, .call [(true, .any), (false, slU8 false ([] : List Int))] true (Bv true))] [0, 14] [] [slU8 false code, Bv true] [] [Con Try.prog 5 [slU8 false code, slU8 false ([] : List Int)] true (Bv true) ∧ ((([] : List Int).length) = 0 ∧ valOf nilA = Value.slice none 0 0) ∧ True] hB ⟨⟨(con_bool h1 (a2Long_ok code ([] : List Int))), ⟨rfl, rfl⟩, trivial⟩, trivial⟩ ?_
   refine ae_then ?_
   refine aw_true rfl ?_
   refine aR [] [2] [] [Bv true] [] [] hB trivial ?_
   refine aw_ret ?_
   refine ae_ret_then ?_
   refine ae_ret hB (Bv true) (by kernel_rfl) (.inl rfl) rfl (fun _ => trivial)
  have hc : (∀ j, j < code.length → 0 ≤ at_ code j ∧ at_ code j ≤ 255) ∧ code.length ≤ 4611686018427387904 := ⟨fun j hj => ok_code _ (at_mem hj), by first | omega | (simp at h1; omega)⟩
  refine aw_r [(1, .call [(true, .any), (false, slU8 false ([] : List Int))] true (Bv false))] [0, 14] [] [slU8 false code, Bv false] [] [Con Try.prog 5 [slU8 false code, slU8 false ([] : List Int)] true (Bv false) ∧ ((([] : List Int).length) = 0 ∧ valOf nilA = Value.slice none 0 0) ∧ True] hB ⟨⟨(con_bool h1 (a2Long_ok code ([] : List Int))), ⟨rfl, rfl⟩, trivial⟩, trivial⟩ ?_
  refine ae_then ?_
  refine aw_false rfl ?_
  refine aw_skip ?_
  refine ae_then ?_
  refine aw_seq ?_
  obtain ⟨list_1, x_1, m_1, words_1, hx1_0, hx1_1, hx1_2, hx1_3, hx1_4, hc1⟩ := A2Sentence_ok code (by assumption)
  have hls := hx1_0
  have hlx := hx1_1
  have hmd := hx1_2
  have hwl := hx1_3
  have hww := hx1_4
  refine aw_r [(1, .call [(true, .any)] true (.tup [slLattice true list_1, .agg [slEntry true x_1.Entries], agModelT m_1, slS true words_1])), (7, .new 4), (8, .new 5)] [3, 4, 5, 6] [4, 5] [slLattice true list_1, .ref 4 0, .ref 5 0, slS true words_1] [some (.box [slEntry true x_1.Entries]), some (bxModelT m_1)] [Con Try.prog 6 [slU8 false code] true (.tup [slLattice true list_1, .agg [slEntry true x_1.Entries], agModelT m_1, slS true words_1]) ∧ True] hB ⟨⟨hc1, trivial⟩, trivial⟩ ?_
  refine ae_then ?_
  refine aw_seq ?_
  obtain ⟨v_2, c_2, hx2_0, hc2⟩ := FindSentence_ok list_1 x_1 m_1 hls hlx hmd
  have hfs := hx2_0
  refine aw_r [(3, .call [(false, slLattice false list_1), (false, .agg [slEntry false x_1.Entries]), (false, agModel m_1)] true (.tup [agSentenceT v_2, I c_2])), (7, .new 7)] [3, 4, 5, 6, 7, 8] [4, 5, 7] [slLattice true list_1, .ref 4 0, .ref 5 0, slS true words_1, .ref 7 0, I c_2] [some (.box [slEntry true x_1.Entries]), some (bxModelT m_1), some (bxSentenceT v_2)] [Con Try.prog 7 [slLattice false list_1, .agg [slEntry false x_1.Entries], agModel m_1] true (.tup [agSentenceT v_2, I c_2]) ∧ ((false = true → true = true) ∧ 2 = 2 ∧ list_1.length = list_1.length ∧ ∀ i_, i_ < list_1.length → (fLattice true list_1) i_ = (fLattice false list_1) i_ ∨ (AV.idsL ((fLattice false list_1) i_) = [] ∧ leL (fun _ => none) false ((fLattice true list_1) i_) ((fLattice false list_1) i_))) ∧ (((false = true → true = true) ∧ 2 = 2 ∧ x_1.Entries.length = x_1.Entries.length ∧ ∀ i_, i_ < x_1.Entries.length → (fEntry x_1.Entries) i_ = (fEntry x_1.Entries) i_ ∨ (AV.idsL ((fEntry x_1.Entries) i_) = [] ∧ leL (fun _ => none) false ((fEntry x_1.Entries) i_) ((fEntry x_1.Entries) i_))) ∧ ([] : List AV) = []) ∧ ((valOf (I m_1.Default) = valOf (I m_1.Default)) ∧ ((false = true → true = true) ∧ 3 = 3 ∧ m_1.Bigrams.length = m_1.Bigrams.length ∧ ∀ i_, i_ < m_1.Bigrams.length → (fBigram m_1.Bigrams) i_ = (fBigram m_1.Bigrams) i_ ∨ (AV.idsL ((fBigram m_1.Bigrams) i_) = [] ∧ leL (fun _ => none) false ((fBigram m_1.Bigrams) i_) ((fBigram m_1.Bigrams) i_))) ∧ ([] : List AV) = []) ∧ True] hB ⟨⟨hc2, ⟨(fun h => by cases h), rfl, rfl, fun i _ => .inr ⟨idsLattice _ _, leLattice _ _ _⟩⟩, ⟨⟨(fun h => by cases h), rfl, rfl, fun i _ => .inl rfl⟩, rfl⟩, ⟨rfl, ⟨⟨(fun h => by cases h), rfl, rfl, fun i _ => .inl rfl⟩, rfl⟩⟩, trivial⟩, trivial⟩ ?_
  refine ae_then ?_
  refine aw_seq ?_
  obtain ⟨v_3, c_3, hx3_0, hc3⟩ := SentenceCost_ok list_1 x_1 m_1 words_1 hls hlx hmd hww (by omega)
  have hsc := sc_code hx3_0 hwl.1
  refine aw_r [(4, .call [(false, slLattice false list_1), (false, .agg [slEntry false x_1.Entries]), (false, agModel m_1), (false, slS false words_1)] true (.tup [I v_3, I c_3]))] [3, 4, 5, 7, 8, 9, 10] [4, 5, 7] [slLattice true list_1, .ref 4 0, .ref 5 0, .ref 7 0, I c_2, I v_3, I c_3] [some (.box [slEntry true x_1.Entries]), some (bxModelT m_1), some (bxSentenceT v_2)] [Con Try.prog 8 [slLattice false list_1, .agg [slEntry false x_1.Entries], agModel m_1, slS false words_1] true (.tup [I v_3, I c_3]) ∧ ((false = true → true = true) ∧ 2 = 2 ∧ list_1.length = list_1.length ∧ ∀ i_, i_ < list_1.length → (fLattice true list_1) i_ = (fLattice false list_1) i_ ∨ (AV.idsL ((fLattice false list_1) i_) = [] ∧ leL (fun _ => none) false ((fLattice true list_1) i_) ((fLattice false list_1) i_))) ∧ (((false = true → true = true) ∧ 2 = 2 ∧ x_1.Entries.length = x_1.Entries.length ∧ ∀ i_, i_ < x_1.Entries.length → (fEntry x_1.Entries) i_ = (fEntry x_1.Entries) i_ ∨ (AV.idsL ((fEntry x_1.Entries) i_) = [] ∧ leL (fun _ => none) false ((fEntry x_1.Entries) i_) ((fEntry x_1.Entries) i_))) ∧ ([] : List AV) = []) ∧ ((valOf (I m_1.Default) = valOf (I m_1.Default)) ∧ ((false = true → true = true) ∧ 3 = 3 ∧ m_1.Bigrams.length = m_1.Bigrams.length ∧ ∀ i_, i_ < m_1.Bigrams.length → (fBigram m_1.Bigrams) i_ = (fBigram m_1.Bigrams) i_ ∨ (AV.idsL ((fBigram m_1.Bigrams) i_) = [] ∧ leL (fun _ => none) false ((fBigram m_1.Bigrams) i_) ((fBigram m_1.Bigrams) i_))) ∧ ([] : List AV) = []) ∧ ((false = true → true = true) ∧ 1 = 1 ∧ words_1.length = words_1.length ∧ ∀ i_, i_ < words_1.length → (fS words_1) i_ = (fS words_1) i_ ∨ (AV.idsL ((fS words_1) i_) = [] ∧ leL (fun _ => none) false ((fS words_1) i_) ((fS words_1) i_))) ∧ True] hB ⟨⟨hc3, ⟨(fun h => by cases h), rfl, rfl, fun i _ => .inr ⟨idsLattice _ _, leLattice _ _ _⟩⟩, ⟨⟨(fun h => by cases h), rfl, rfl, fun i _ => .inl rfl⟩, rfl⟩, ⟨rfl, ⟨⟨(fun h => by cases h), rfl, rfl, fun i _ => .inl rfl⟩, rfl⟩⟩, ⟨(fun h => by cases h), rfl, rfl, fun i _ => .inl rfl⟩, trivial⟩, trivial⟩ ?_
  refine ae_then ?_
  refine aw_seq ?_
  refine aw_seq ?_
  by_cases h2 : c_2 = 0
  ·have hfa : (∀ k : Nat, k < list_1.length → (fsB list_1 x_1 m_1 k).2 = true) ∧ v_2.Words = fsW list_1 x_1 m_1 list_1.length ∧ v_2.Cost = (if list_1.length = 0 then 0 else (fsB list_1 x_1 m_1 0).1.cost) := by rcases hfs with q | q; (have := q.1; omega); (exact q.2)
   have hfv := hfa.2
   have hfo := fs_own hls.2 hlx hmd hfa.1
   have hvl : v_2.Words.length = list_1.length := by rw [hfv.1, fsW_len]
   refine aw_r [(1, .dec false)] [3, 4, 5, 7, 8, 9, 10, 38] [4, 5, 7] [slLattice true list_1, .ref 4 0, .ref 5 0, .ref 7 0, I c_2, I v_3, I c_3, Bv false] [some (.box [slEntry true x_1.Entries]), some (bxModelT m_1), some (bxSentenceT v_2)] [¬ (c_2 ≠ 0)] hB ⟨(fun hq => hq h2), trivial⟩ ?_
   refine ae_then ?_
   refine aw_false rfl ?_
   refine aw_skip ?_
   refine ae_then ?_
   refine aw_seq ?_
   obtain ⟨v_4, c_4, hx4_0, hc4⟩ := SentenceCost_ok list_1 x_1 m_1 v_2.Words hls hlx hmd (by rw [hfv.1]; exact hfo.1) (by omega)
   have hso := sc_code hx4_0 (by rw [hfv.1]; exact fsW_len _ _ _ _)
   have hown : c_4 = 0 ∧ v_4 = v_2.Cost := by rcases hso with q | q; (exact absurd (fun k hk => by rw [hfv.1]; exact hfo.2.1 k (by rw [hfv.1, fsW_len] at hk; exact hk)) q.2); (refine ⟨q.1, ?_⟩; rw [q.2.2, hfv.1, fsW_len, hfv.2]; exact hfo.2.2)
   have hlen : (v_2.Words.length : Int) = (list_1.length : Int) := by rw [hfv.1, fsW_len]
   have hlst : c_3 = 0 → v_2.Cost ≤ v_3 := fun z => by rcases hsc with q | q; (omega); (rw [hfv.2, q.2.2]; exact (fs_least hls.2 hlx (m := m_1) hwl.1 q.2.1).2)
   have htw : c_3 = 3 ∨ c_3 = 0 := hsc.imp (fun q => q.1) (fun q => q.1)
   refine aw_r [(5, .call [(false, slLattice false list_1), (false, .agg [slEntry false x_1.Entries]), (false, agModel m_1), (false, slS false v_2.Words)] true (.tup [I v_4, I c_4]))] [3, 7, 9, 10, 11, 12] [7] [slLattice true list_1, .ref 7 0, I v_3, I c_3, I v_4, I c_4] [some (bxSentenceT v_2)] [Con Try.prog 8 [slLattice false list_1, .agg [slEntry false x_1.Entries], agModel m_1, slS false v_2.Words] true (.tup [I v_4, I c_4]) ∧ ((false = true → true = true) ∧ 2 = 2 ∧ list_1.length = list_1.length ∧ ∀ i_, i_ < list_1.length → (fLattice true list_1) i_ = (fLattice false list_1) i_ ∨ (AV.idsL ((fLattice false list_1) i_) = [] ∧ leL (fun _ => none) false ((fLattice true list_1) i_) ((fLattice false list_1) i_))) ∧ (((false = true → true = true) ∧ 2 = 2 ∧ x_1.Entries.length = x_1.Entries.length ∧ ∀ i_, i_ < x_1.Entries.length → (fEntry x_1.Entries) i_ = (fEntry x_1.Entries) i_ ∨ (AV.idsL ((fEntry x_1.Entries) i_) = [] ∧ leL (fun _ => none) false ((fEntry x_1.Entries) i_) ((fEntry x_1.Entries) i_))) ∧ ([] : List AV) = []) ∧ ((valOf (I m_1.Default) = valOf (I m_1.Default)) ∧ ((false = true → true = true) ∧ 3 = 3 ∧ m_1.Bigrams.length = m_1.Bigrams.length ∧ ∀ i_, i_ < m_1.Bigrams.length → (fBigram m_1.Bigrams) i_ = (fBigram m_1.Bigrams) i_ ∨ (AV.idsL ((fBigram m_1.Bigrams) i_) = [] ∧ leL (fun _ => none) false ((fBigram m_1.Bigrams) i_) ((fBigram m_1.Bigrams) i_))) ∧ ([] : List AV) = []) ∧ ((false = true → true = true) ∧ 1 = 1 ∧ v_2.Words.length = v_2.Words.length ∧ ∀ i_, i_ < v_2.Words.length → (fS v_2.Words) i_ = (fS v_2.Words) i_ ∨ (AV.idsL ((fS v_2.Words) i_) = [] ∧ leL (fun _ => none) false ((fS v_2.Words) i_) ((fS v_2.Words) i_))) ∧ True] hB ⟨⟨hc4, ⟨(fun h => by cases h), rfl, rfl, fun i _ => .inr ⟨idsLattice _ _, leLattice _ _ _⟩⟩, ⟨⟨(fun h => by cases h), rfl, rfl, fun i _ => .inl rfl⟩, rfl⟩, ⟨rfl, ⟨⟨(fun h => by cases h), rfl, rfl, fun i _ => .inl rfl⟩, rfl⟩⟩, ⟨(fun h => by cases h), rfl, rfl, fun i _ => .inl rfl⟩, trivial⟩, trivial⟩ ?_
   refine ae_then ?_
   refine aw_seq ?_
   by_cases h3 : c_3 = 3
   ·refine aw_r [(1, .dec true), (6, .dec true), (14, .dec true), (18, .dec true)] [2] [] [Bv true] [] [c_4 = 0, v_4 = v_2.Cost, (v_2.Words.length : Int) = (list_1.length : Int), c_3 = 3] hB ⟨hown.1, hown.2, hlen, h3, trivial⟩ ?_
    refine ae_then ?_
    refine aw_ret ?_
    refine ae_ret hB (Bv true) (by kernel_rfl) (.inl rfl) rfl (fun _ => trivial)
   by_cases h4 : c_3 = 0
   ·refine aw_r [(1, .dec true), (6, .dec true), (14, .dec true), (18, .dec false), (21, .dec true)] [2] [] [Bv (decide (v_2.Cost ≤ v_3))] [] [c_4 = 0, v_4 = v_2.Cost, (v_2.Words.length : Int) = (list_1.length : Int), ¬ (c_3 = 3), c_3 = 0] hB ⟨hown.1, hown.2, hlen, h3, h4, trivial⟩ ?_
    refine ae_then ?_
    refine aw_ret ?_
    refine ae_ret hB (Bv (decide (v_2.Cost ≤ v_3))) (by kernel_rfl) (.inl (by first | rfl | (refine congrArg Bv ?_; exact decide_eq_true hone.2) | (refine congrArg Bv ?_; exact decide_eq_true (hlst (by assumption))) | (refine congrArg Bv ?_; exact decide_eq_true (by omega)) | (exfalso; omega))) rfl (fun _ => trivial)
   refine aw_r [(1, .dec true), (6, .dec true), (14, .dec true), (18, .dec false), (21, .dec false)] [2] [] [Bv false] [] [c_4 = 0, v_4 = v_2.Cost, (v_2.Words.length : Int) = (list_1.length : Int), ¬ (c_3 = 3), ¬ (c_3 = 0)] hB ⟨hown.1, hown.2, hlen, h3, h4, trivial⟩ ?_
   refine ae_then ?_
   refine aw_ret ?_
   refine ae_ret hB (Bv false) (by kernel_rfl) (.inl (by first | rfl | (refine congrArg Bv ?_; exact decide_eq_true hone.2) | (refine congrArg Bv ?_; exact decide_eq_true (hlst (by assumption))) | (refine congrArg Bv ?_; exact decide_eq_true (by omega)) | (exfalso; omega))) rfl (fun _ => trivial)
  have hone : c_2 = 3 ∧ c_3 = 3 := by rcases hfs with q | q; (refine ⟨q.1, ?_⟩; rcases hsc with z | z; (exact z.1); (obtain ⟨k, h1, h2⟩ := q.2; have := fsB_all hls.2 hlx hmd (fs_least hls.2 hlx (m := m_1) hwl.1 z.2.1).1 k h1; rw [h2] at this; cases this)); (have := q.1; omega)
  refine aw_r [(1, .dec true)] [3, 4, 5, 7, 8, 9, 10, 38] [4, 5, 7] [slLattice true list_1, .ref 4 0, .ref 5 0, .ref 7 0, I c_2, I v_3, I c_3, Bv true] [some (.box [slEntry true x_1.Entries]), some (bxModelT m_1), some (bxSentenceT v_2)] [c_2 ≠ 0] hB ⟨h2, trivial⟩ ?_
  refine ae_then ?_
  refine aw_true rfl ?_
  refine aR [(1, .dec true)] [2] [] [Bv (decide (c_3 = 3))] [] [c_2 = 3] hB ⟨hone.1, trivial⟩ ?_
  refine aw_ret ?_
  refine ae_ret_then ?_
  refine ae_ret hB (Bv (decide (c_3 = 3))) (by kernel_rfl) (.inl (by first | rfl | (refine congrArg Bv ?_; exact decide_eq_true hone.2) | (refine congrArg Bv ?_; exact decide_eq_true (hlst (by assumption))) | (refine congrArg Bv ?_; exact decide_eq_true (by omega)) | (exfalso; omega))) rfl (fun _ => trivial)


/-! ### the row -/

theorem opens_t22 : OpensA Try.prog 22 (cLU8 false) (fun xs => ∀ y ∈ xs, inR .u8 y) :=
  opensA_slice (c := cU8) (sz := 1) Try.underlying22 (by kernel_rfl) (by decide) (fun x => ⟨rfl, by simp [oneA, cU8]⟩) (opensA_int Try.underlying5)

namespace fnSentences
set_option maxRecDepth 100000 in
theorem lifted (os : Os) (started : os.Started) (H : Type) (enc : TypeId × Value → H) :
    ReturnsInHanded {} Try.checked os 3 .any (Rows.fnSentencesSpec.pre6 enc Try.prog Try.f3 Rows.fnSentencesRow.domain false) (Rows.fnSentencesSpec.post enc Try.prog Try.f3 false true false false) := by
  refine returnsInHanded_of_change_shaped (C := Try.checked) Try.own started (by kernel_rfl) Try.func3
    (ChangeSpec.witness6 (enc := enc) (C := Try.checked) false ⟨#[], #[.slice none 0 0], []⟩ 8 (by kernel_rfl) (by kernel_rfl) (by kernel_rfl) (by kernel_rfl)) ?_
  intro W base args ds gs before hval0 hW hcnd hsz hshp _
  have hW' := hW
  obtain ⟨p, q, hA0, hV, rfl, hfz, hnd⟩ := hW
  have hval : ∀ (j : Nat) t v, Try.f3.params[j]? = some t → args[j]? = some v → Value.okWide Try.prog W .any base t v := hval0
  have hA : DataW.TrodAll enc Try.prog W 0 (fun _ => true) true Try.f3.params.toList args.toList ds p := hA0
  rw [Try.params3] at hA hval
  obtain ⟨v0, vs0, d0, ds0, p0, q0, hargs, rfl, rfl, h0, r0⟩ := trodAll_cons hA
  obtain ⟨rfl, rfl, rfl⟩ := trodAll_nil r0
  obtain rfl : args = #[v0] := args_eq hargs
  obtain ⟨rfl, rfl⟩ := trodVars_none hV
  obtain ⟨fuel0, hf0⟩ := h0
  obtain ⟨A0, l0, c0, rfl⟩ := okWide_slice Try.underlying22 (hval 0 22 v0 rfl rfl)
  obtain ⟨x0, rx0, ok0⟩ := (opens_t22) enc W 0 _ _ _ _ _ hf0
  refine (walk_of0 (fnSentences_con x0 ok0) (fun w _ => WX_free w) (RelTL.cons (relTL_one rx0) RelTL.nil)).mono fun e W1 ⟨he, hb⟩ => ?_
  subst he
  exact ⟨_, rfl, law_post Try.laidOut rfl Try.underlying4 (of_decide_eq_true (by kernel_rfl)) rfl hW' hb rfl⟩

theorem over : Rows.fnSentencesRow.holds Try.pinned (OpenSpec.ofChange Rows.fnSentencesSpec) :=
  OpenClaim.holds_of_wide 3 Try.f3 rfl rfl rfl rfl rfl rfl rfl ⟨rfl, rfl, rfl, rfl, rfl⟩ rfl rfl rfl rfl rfl (by kernel_rfl) Try.func3 (by kernel_rfl)
    (of_decide_eq_true (by kernel_rfl)) (by unfold Func.isWrapper; first | (rw [if_pos (by decide +kernel)]; kernel_rfl) | (rw [if_neg (by decide +kernel)]; exact ⟨rfl, rfl⟩))
    (fun os started H enc _ => lifted os started H enc)

theorem proved : Rows.FnSentencesSaid :=
  over
#print axioms proved
end fnSentences
end Go.Proofs.Ytakkponmkgacaaa.Ax
