/- The statement FnNearest: contracts of what it reaches, and its proof. No conditions. -/
import Derived.Test.YtbapncplieakmaaAxLNearest2
import Derived.Test.YtbapncplieakmaaAxR
import Derived.Test.YtbapncplieakmaaAxS
namespace Go.Proofs.Ytbapncplieakmaa.Ax
open Go.RowKit Go.ChangeShapes Go.WideShapes
set_option linter.unusedVariables false
set_option linter.unusedSimpArgs false


-- impl.WithinCost
theorem WithinCost_ok (a : List Feat) (lists : List (List Feat)) (band : Int) (limit : Int) (oka : okFeats a 72 = true) (hls : lists.length ≤ 18 ∧ ∀ l ∈ lists, okFeats l 72 = true) (hbd : 0 ≤ band ∧ band ≤ 72) : ∃ (v : List Int) (c : Int), (v = wcN a lists band limit lists.length) ∧ (c = 0) ∧ Con Try.prog 12 [slFeat false a, slLFeat false lists, I band, I limit] true (.tup [slI true v, I c]) := by
  have hh : ∃ r : (List Int) × Int, ((r.1 = wcN a lists band limit lists.length) ∧ (r.2 = 0) ∧ (True)) ∧ CallOK Try.prog 12 [slFeat false a, slLFeat false lists, I band, I limit] (lookO []) true (.tup [slI true r.1, I r.2]) (lookO []) := by
    refine fn_okX (Φ := fun r : (List Int) × Int => (r.1 = wcN a lists band limit lists.length) ∧ (r.2 = 0) ∧ (True)) [] (fun r => []) (fn := Try.f12) (nt := 48) Try.func12 rfl rfl (args := [slFeat false a, slLFeat false lists, I band, I limit]) rfl (allcons (.inl ⟨rfl, tagFeat false _⟩) (allcons (.inl ⟨rfl, tagLFeat false _⟩) (allcons (.inl ⟨rfl, trivial⟩) (allcons (.inl ⟨rfl, trivial⟩) allnil)))) (res := fun r => .tup [slI true r.1, I r.2]) ?_
    refine xR [] [0, 1, 2, 3] [] [slFeat false a, slLFeat false lists, I band, I limit] [] [] trivial ?_
    refine x_seq ?_
    refine xR [(3, .call [(true, .any), (true, .any), (true, .any)] true (I 0))] [0, 1, 2, 3, 10] [] [slFeat false a, slLFeat false lists, I band, I limit, I 0] [] [Con Try.prog 24 [slFeat false a, slLFeat false lists, I band] true (I 0) ∧ True] ⟨⟨(searchable_ok a lists band oka hls hbd), trivial⟩, trivial⟩ ?_
    refine xR [(1, .dec false)] [0, 1, 2, 3, 10, 19] [] [slFeat false a, slLFeat false lists, I band, I limit, I 0, Bv false] [] [¬ ((0 : Int) ≠ 0)] ⟨(fun hq => hq (by decide)), trivial⟩ ?_
    refine x_false rfl ?_
    refine x_skip ?_
    refine xe_then ?_
    refine xR [] [0, 1, 2, 3, 11] [] [slFeat false a, slLFeat false lists, I band, I limit, nilA] [] [] trivial ?_
    refine x_seq ?_
    refine xR [] [0, 2, 3, 11, 21, 22, 23] [] [slFeat false a, I band, I limit, nilA, slLFeat false lists, I (lists.length : Int), I 0] [] [] trivial ?_
    refine x_block ?_
    refine x_nil 11 711 1 (fun _ => []) (by kernel_rfl) ?_
    refine x_weak [] (T := [(0, slFeat false a), (2, I band), (3, I limit), (11, .arr 711), (21, slLFeat false lists), (22, I (lists.length : Int)), (23, I 0)]) (O := [(711, .arr 1 (([] : List Int).length) (fI ([] : List Int)))]) rfl (⟨.inl rfl, .inl rfl, .inl rfl, .inl rfl, .inl rfl, .inl rfl, .inl rfl, trivial⟩) (⟨.inr ⟨rfl, (by first | rfl | (simp; done) | (simp; omega) | omega), fun i_ hi_ => absurd hi_ (Nat.not_lt_zero _)⟩, trivial⟩) ?_
    refine x_loop (X := (List Int) × Int) (fun x => mkS [(0, slFeat false a), (2, I band), (3, I limit), (11, .arr 711), (21, slLFeat false lists), (22, I (lists.length : Int)), (23, I x.2)] [(711, .arr 1 x.1.length (fI x.1))]) (fun x => (0 ≤ x.2 ∧ x.2 ≤ (lists.length : Int)) ∧ (x.1 = wcN a lists band limit x.2.toNat) ∧ (x.1.length ≤ 18) ∧ True) (fun x => ((lists.length : Int) - x.2).toNat) (([] : List Int), 0) rfl (show (0 ≤ (0 : Int) ∧ (0 : Int) ≤ (lists.length : Int)) ∧ (([] : List Int) = wcN a lists band limit (0 : Int).toNat) ∧ (([] : List Int).length ≤ 18) ∧ True from ⟨(by omega), (by rfl), (by simp), trivial⟩) (fun x hI => ?_)
    obtain ⟨fd, t23⟩ := x
    obtain ⟨hi0, hfd, hfl, _⟩ : (0 ≤ t23 ∧ t23 ≤ (lists.length : Int)) ∧ (fd = wcN a lists band limit t23.toNat) ∧ (fd.length ≤ 18) ∧ True := hI
    show XW _ _ _ _ (mkS [(0, slFeat false a), (2, I band), (3, I limit), (11, .arr 711), (21, slLFeat false lists), (22, I (lists.length : Int)), (23, I t23)] [(711, .arr 1 fd.length (fI fd))]) _ _
    refine x_seq ?_
    by_cases h1 : t23 < (lists.length : Int)
    ·have hi : t23.toNat < lists.length := by omega
     have hix : ((t23.toNat : Nat) : Int) = t23 := by omega
     have hnx : (t23 + 1).toNat = t23.toNat + 1 := by omega
     have okl := hls.2 _ (at_mem hi)
     have hna := okFeats_n oka
     have hnl := okFeats_n okl
     have hol := ord_len a lists band t23.toNat
     refine x_r [(0, .dec true)] [0, 2, 3, 11, 21, 22, 23, 24] [711] [slFeat false a, I band, I limit, .arr 711, slLFeat false lists, I (lists.length : Int), I t23, Bv true] [some (.arr 1 fd.length (fI fd))] [t23 < (lists.length : Int)] ⟨h1, trivial⟩ ?_
     refine xe_then ?_
     refine x_seq ?_
     refine x_true rfl ?_
     refine x_skip ?_
     refine xe_then ?_
     refine x_seq ?_
     refine x_block ?_
     refine xR [] [0, 2, 3, 11, 12, 13, 21, 22, 23] [711] [slFeat false a, I band, I limit, .arr 711, I t23, slFeat false (at_ lists t23.toNat), slLFeat false lists, I (lists.length : Int), I t23] [some (.arr 1 fd.length (fI fd))] [(0 : Int) ≤ t23 ∧ t23 < (lists.length : Int)] ⟨⟨(by omega), (by omega)⟩, trivial⟩ ?_
     refine x_seq ?_
     rcases Bool.eq_false_or_eq_true (inB band 0 72 && decide ((((a.length : Int) - (((at_ lists t23.toNat).length) : Int)).natAbs : Int) ≤ band)) with h2 | h2
     ·have hin : inL a lists band t23.toNat = true := h2
      have hinb : inBd band a.length (at_ lists t23.toNat).length := (band_of3 h2)
      have hce : cv farI a (at_ lists t23.toNat) band (a.length - 1) ((at_ lists t23.toNat).length - 1) = cstL a lists band t23.toNat := cst_eq oka okl hinb
      have hlbl : lbI a (at_ lists t23.toNat) band ≤ cstL a lists band t23.toNat := lb_le oka okl hinb
      obtain ⟨v_1, hx1_0, hc1⟩ := elastic_ok a (at_ lists t23.toNat) band (okAB_of oka okl) (by omega) (by omega)
      have hel : v_1 = cstL a lists band t23.toNat := hx1_0.trans hce
      by_cases h3 : v_1 ≤ limit
      ·refine x_r [(5, .call [(true, .any), (true, .any), (true, .any)] true (Bv true)), (10, .call [(true, .any), (true, .any), (true, .any)] true (I v_1)), (12, .dec true)] [0, 2, 3, 11, 12, 21, 22, 23, 41] [711] [slFeat false a, I band, I limit, .arr 711, I t23, slLFeat false lists, I (lists.length : Int), I t23, Bv true] [some (.arr 1 fd.length (fI fd))] [Con Try.prog 25 [I band, I (a.length : Int), I (((at_ lists t23.toNat).length) : Int)] true (Bv true) ∧ True, Con Try.prog 27 [slFeat false a, slFeat false (at_ lists t23.toNat), I band] true (I v_1) ∧ True, v_1 ≤ limit] ⟨⟨(con_bool h2 (isBand_ok band (a.length : Int) (((at_ lists t23.toNat).length) : Int) (by omega) (by omega))), trivial⟩, ⟨hc1, trivial⟩, h3, trivial⟩ ?_
       refine xe_then ?_
       refine x_true rfl ?_
       refine x_r [(2, .new 44), (3, .new 45)] [0, 2, 3, 11, 21, 22, 23] [45] [slFeat false a, I band, I limit, .arr 45, slLFeat false lists, I (lists.length : Int), I t23] [some (.arr 1 (fd.length + 1) (catF fd.length (fI fd) (litF [I t23] 1)))] [(fd.length + 1) * 8 ≤ 140737488355328] ⟨(by omega), trivial⟩ ?_
       refine xe_block 1 ?_
       refine xe_then ?_
       refine x_r [] [0, 2, 3, 11, 21, 22, 23] [45] [slFeat false a, I band, I limit, .arr 45, slLFeat false lists, I (lists.length : Int), I (t23 + 1)] [some (.arr 1 (fd.length + 1) (catF fd.length (fI fd) (litF [I t23] 1)))] [inR .i64 (t23 + 1)] ⟨(inR_i64 (by omega) (by omega)), trivial⟩ ?_
       refine xe_weak [(711, 45)] (T := [(0, slFeat false a), (2, I band), (3, I limit), (11, .arr 711), (21, slLFeat false lists), (22, I (lists.length : Int)), (23, I (t23 + 1))]) (O := [(711, .arr 1 ((fd ++ [t23]).length) (fI (fd ++ [t23])))]) rfl (⟨.inl rfl, .inl rfl, .inl rfl, .inl rfl, .inl rfl, .inl rfl, .inl rfl, trivial⟩) (⟨.inr ⟨rfl, (by first | rfl | (simp; done) | (simp; omega) | omega), fun i_ hi_ => .inl (cat_snoc (enc := cI) (xs := fd) rfl i_ hi_)⟩, trivial⟩) (xe_again ((fd ++ [t23]), (t23 + 1)) rfl (show (0 ≤ (t23 + 1) ∧ (t23 + 1) ≤ (lists.length : Int)) ∧ ((fd ++ [t23]) = wcN a lists band limit (t23 + 1).toNat) ∧ ((fd ++ [t23]).length ≤ 18) ∧ True from ⟨(by omega), (by rw [hnx, hfd]; first | (rw [wc_n (fun q => absurd q.1 hin)]; done) | (rw [wc_n (fun q => by omega)]; done) | (rw [wc_y hin (by omega), hix]; done)), (by (first | assumption | (rw [List.length_append]; have q := wc_len a lists band limit t23.toNat; rw [← hfd] at q; simp; omega))), trivial⟩) (by first | (show (((lists.length : Int) - (t23 + 1)).toNat : Nat) < ((lists.length : Int) - t23).toNat; omega) | (dsimp only; omega)))
      refine x_r [(5, .call [(true, .any), (true, .any), (true, .any)] true (Bv true)), (10, .call [(true, .any), (true, .any), (true, .any)] true (I v_1)), (12, .dec false)] [0, 2, 3, 11, 12, 21, 22, 23, 41] [711] [slFeat false a, I band, I limit, .arr 711, I t23, slLFeat false lists, I (lists.length : Int), I t23, Bv false] [some (.arr 1 fd.length (fI fd))] [Con Try.prog 25 [I band, I (a.length : Int), I (((at_ lists t23.toNat).length) : Int)] true (Bv true) ∧ True, Con Try.prog 27 [slFeat false a, slFeat false (at_ lists t23.toNat), I band] true (I v_1) ∧ True, ¬ (v_1 ≤ limit)] ⟨⟨(con_bool h2 (isBand_ok band (a.length : Int) (((at_ lists t23.toNat).length) : Int) (by omega) (by omega))), trivial⟩, ⟨hc1, trivial⟩, h3, trivial⟩ ?_
      refine xe_then ?_
      refine x_false rfl ?_
      refine x_skip ?_
      refine xe_block 1 ?_
      refine xe_then ?_
      refine x_r [] [0, 2, 3, 11, 21, 22, 23] [711] [slFeat false a, I band, I limit, .arr 711, slLFeat false lists, I (lists.length : Int), I (t23 + 1)] [some (.arr 1 fd.length (fI fd))] [inR .i64 (t23 + 1)] ⟨(inR_i64 (by omega) (by omega)), trivial⟩ ?_
      exact xe_again (fd, (t23 + 1)) rfl (show (0 ≤ (t23 + 1) ∧ (t23 + 1) ≤ (lists.length : Int)) ∧ (fd = wcN a lists band limit (t23 + 1).toNat) ∧ (fd.length ≤ 18) ∧ True from ⟨(by omega), (by rw [hnx, hfd]; first | (rw [wc_n (fun q => absurd q.1 hin)]; done) | (rw [wc_n (fun q => by omega)]; done) | (rw [wc_y hin (by omega), hix]; done)), (by (first | assumption | (rw [List.length_append]; have q := wc_len a lists band limit t23.toNat; rw [← hfd] at q; simp; omega))), trivial⟩) (by first | (show (((lists.length : Int) - (t23 + 1)).toNat : Nat) < ((lists.length : Int) - t23).toNat; omega) | (dsimp only; omega))
     have hin : ¬ inL a lists band t23.toNat = true := by unfold inL; rw [h2]; decide
     refine x_r [(5, .call [(true, .any), (true, .any), (true, .any)] true (Bv false))] [0, 2, 3, 11, 12, 21, 22, 23, 41] [711] [slFeat false a, I band, I limit, .arr 711, I t23, slLFeat false lists, I (lists.length : Int), I t23, Bv false] [some (.arr 1 fd.length (fI fd))] [Con Try.prog 25 [I band, I (a.length : Int), I (((at_ lists t23.toNat).length) : Int)] true (Bv false) ∧ True] ⟨⟨(con_bool h2 (isBand_ok band (a.length : Int) (((at_ lists t23.toNat).length) : Int) (by omega) (by omega))), trivial⟩, trivial⟩ ?_
     refine xe_then ?_
     refine x_false rfl ?_
     refine x_skip ?_
     refine xe_block 1 ?_
     refine xe_then ?_
     refine x_r [] [0, 2, 3, 11, 21, 22, 23] [711] [slFeat false a, I band, I limit, .arr 711, slLFeat false lists, I (lists.length : Int), I (t23 + 1)] [some (.arr 1 fd.length (fI fd))] [inR .i64 (t23 + 1)] ⟨(inR_i64 (by omega) (by omega)), trivial⟩ ?_
     exact xe_again (fd, (t23 + 1)) rfl (show (0 ≤ (t23 + 1) ∧ (t23 + 1) ≤ (lists.length : Int)) ∧ (fd = wcN a lists band limit (t23 + 1).toNat) ∧ (fd.length ≤ 18) ∧ True from ⟨(by omega), (by rw [hnx, hfd]; first | (rw [wc_n (fun q => absurd q.1 hin)]; done) | (rw [wc_n (fun q => by omega)]; done) | (rw [wc_y hin (by omega), hix]; done)), (by (first | assumption | (rw [List.length_append]; have q := wc_len a lists band limit t23.toNat; rw [← hfd] at q; simp; omega))), trivial⟩) (by first | (show (((lists.length : Int) - (t23 + 1)).toNat : Nat) < ((lists.length : Int) - t23).toNat; omega) | (dsimp only; omega))
    have hie : t23.toNat = lists.length := by omega
    refine x_r [(0, .dec false)] [0, 2, 3, 11, 21, 22, 23, 24] [711] [slFeat false a, I band, I limit, .arr 711, slLFeat false lists, I (lists.length : Int), I t23, Bv false] [some (.arr 1 fd.length (fI fd))] [¬ (t23 < (lists.length : Int))] ⟨h1, trivial⟩ ?_
    refine xe_then ?_
    refine x_seq ?_
    refine x_false rfl ?_
    refine x_exit ?_
    refine xe_exit_then ?_
    refine xe_loop_exit ?_
    refine xe_exit_same ?_
    refine xe_then ?_
    refine xR [] [8, 9] [711] [.arr 711, I 0] [some (.arr 1 fd.length (fI fd))] [] trivial ?_
    refine x_ret ?_
    refine xe_end (fd, 0) (show (fd = wcN a lists band limit lists.length) ∧ (0 = 0) ∧ (True) from ⟨(by first | rfl | (rw [hfd, hie])), (by first | rfl | (rw [hfd, hie])), trivial⟩) (trivial) (.tup [.arr 711, I 0]) (by kernel_rfl) (.inr ⟨⟨(fun _ => rfl), rfl, rfl, fun i _ => .inl rfl⟩, ⟨rfl, rfl⟩⟩) (fun _ => rfl) (fun _ => (by simp [tagged, taggedL, tagI]))
  obtain ⟨⟨v, c⟩, ⟨hh0, hh1, _⟩, hc⟩ := hh
  exact ⟨v, c, hh0, hh1, hc⟩


def a2AtI (code : List Int) (i n : Int) : Int := if (code.length : Int) ≤ i ∨ n < 1 then 0 else at_ code i.toNat % n
theorem a2At_bd (code : List Int) (i : Int) {n : Int} (hn : 1 ≤ n) : 0 ≤ a2AtI code i n ∧ a2AtI code i n < n := by
  unfold a2AtI
  split
  · omega
  · exact ⟨Int.emod_nonneg _ (by omega), Int.emod_lt_of_pos _ (by omega)⟩

theorem lbI_nn {a b : List Feat} (band : Int) (ha : okFeats a 72 = true) (hb : okFeats b 72 = true) : 0 ≤ lbI a b band := by
  have := endI_bd ha hb
  unfold lbI; omega
theorem in_code {a : List Feat} {ls : List (List Feat)} {band : Int} {j : Nat} (ha : okFeats a 72 = true) (hb : okFeats (at_ ls j) 72 = true) (h : inL a ls band j = true) : elCode a (at_ ls j) band = 0 ∧ lbR a (at_ ls j) band = lbI a (at_ ls j) band := by
  have e : elCode a (at_ ls j) band = 0 := by unfold elCode; rw [if_pos ⟨ha, hb⟩]; unfold inL at h; rw [if_pos h]
  exact ⟨e, if_pos e⟩
theorem nr_cost {a : List Feat} {ls : List (List Feat)} {band ix lst mt : Int} {k : Nat} (ha : okFeats a 72 = true) (hk : k ≤ ls.length) (hl : ∀ l ∈ ls, okFeats l 72 = true) (h : nrOk a ls band k ix lst mt) (hm : mt ≠ 0) : 0 ≤ lst ∧ lst ≤ 87000 := by
  rcases h with h | ⟨h1, h2, h3, h4, h5, h6⟩
  · exact absurd h.1 hm
  · have ok := hl _ (at_mem (show ix.toNat < ls.length by omega))
    have n1 := okFeats_n ha
    have n2 := okFeats_n ok
    have hb : inBd band a.length (at_ ls ix.toNat).length := by unfold inL at h4; exact band_of3 h4
    rw [h5]; unfold cstL
    rcases cv_fin (band := band) (i := a.length - 1) (j := (at_ ls ix.toNat).length - 1) (okAB_of ha ok) (by omega) (by omega) with g | g
    · exact ⟨g.2.2.1, g.2.2.2⟩
    · exact absurd (inBd_end hb n1.1 n2.1) g.1
theorem bo_none {a : List Feat} {ls : List (List Feat)} {band : Int} {v : List Int} (h : boOk a ls band v) (hn : ∀ j : Nat, j < ls.length → ¬ inL a ls band j = true) : v.length = 0 := by
  cases v with
  | nil => rfl
  | cons x r =>
    obtain ⟨j, h1, h2, _⟩ := (h.1 x).1 (by simp)
    exact absurd h2 (hn j h1)

-- laws.FnNearest
theorem fnNearest_con (code : List Int) (ok_code : ∀ y ∈ code, inR .u8 y) : Con Try.prog 3 [slU8 false code] true (Bv true) := by
  refine fn_ok (fn := Try.f3) (nt := 183) Try.func3 rfl rfl rfl rfl (by simp [taggedL, tagged, tagU8]) fun B hB => ?_
  refine aw_lens (x := slU8 false code) 0 rfl (fun len_code => ?_)
  simp [LenOK, LenL, cU8, fU8, slU8] at len_code
  refine aR [] [0] [] [slU8 false code] [] [] hB trivial ?_
  refine aw_seq ?_
  refine aw_seq ?_
  rcases Bool.eq_false_or_eq_true (decide (3000 < (code.length : Int) ∨ 3000 < (([] : List Int).length : Int))) with h1 | h1
  ·refine aw_r [(1, .call [(true, .any), (false, slU8 false ([] : List Int))] true (Bv true))] [0, 24] [] [slU8 false code, Bv true] [] [Con Try.prog 5 [slU8 false code, slU8 false ([] : List Int)] true (Bv true) ∧ ((([] : List Int).length) = 0 ∧ valOf nilA = Value.slice none 0 0) ∧ True] hB ⟨⟨(con_bool h1 (a2Long_ok code ([] : List Int))), ⟨rfl, rfl⟩, trivial⟩, trivial⟩ ?_
   refine ae_then ?_
   refine aw_true rfl ?_
   refine aR [] [2] [] [Bv true] [] [] hB trivial ?_
   refine aw_ret ?_
   refine ae_ret_then ?_
   refine ae_ret hB (Bv true) (by kernel_rfl) (.inl rfl) rfl (fun _ => trivial)
  have hc : (∀ j, j < code.length → 0 ≤ at_ code j ∧ at_ code j ≤ 255) ∧ code.length ≤ 4611686018427387904 := ⟨fun j hj => ok_code _ (at_mem hj), by first | omega | (simp at h1; omega)⟩
  refine aw_r [(1, .call [(true, .any), (false, slU8 false ([] : List Int))] true (Bv false))] [0, 24] [] [slU8 false code, Bv false] [] [Con Try.prog 5 [slU8 false code, slU8 false ([] : List Int)] true (Bv false) ∧ ((([] : List Int).length) = 0 ∧ valOf nilA = Value.slice none 0 0) ∧ True] hB ⟨⟨(con_bool h1 (a2Long_ok code ([] : List Int))), ⟨rfl, rfl⟩, trivial⟩, trivial⟩ ?_
  refine ae_then ?_
  refine aw_false rfl ?_
  refine aw_skip ?_
  refine ae_then ?_
  refine aw_seq ?_
  obtain ⟨a_1, lists_1, band_1, hx1_0, hx1_1, hx1_2, hc1⟩ := A2Lists_ok code (by assumption)
  have oka := hx1_0
  have hls : lists_1.length ≤ 18 ∧ ∀ l ∈ lists_1, okFeats l 72 = true := ⟨by omega, hx1_1.2⟩
  have hbd : 0 ≤ band_1 ∧ band_1 ≤ 72 := by omega
  refine aw_r [(1, .call [(true, .any)] true (.tup [slFeat true a_1, slLFeat true lists_1, I band_1]))] [3, 4, 5] [] [slFeat true a_1, slLFeat true lists_1, I band_1] [] [Con Try.prog 6 [slU8 false code] true (.tup [slFeat true a_1, slLFeat true lists_1, I band_1]) ∧ True] hB ⟨⟨hc1, trivial⟩, trivial⟩ ?_
  refine ae_then ?_
  refine aw_seq ?_
  obtain ⟨index_2, least_2, c_2, hx2_0, hc2⟩ := NearestOf_ok a_1 lists_1 band_1 oka hls hbd
  obtain ⟨m1, hr1, hc1⟩ := hx2_0
  refine aw_r [(3, .call [(false, slFeat false a_1), (false, slLFeat false lists_1), (true, .any)] true (.tup [I index_2, I least_2, I c_2]))] [3, 4, 5, 6, 7, 8] [] [slFeat true a_1, slLFeat true lists_1, I band_1, I index_2, I least_2, I c_2] [] [Con Try.prog 7 [slFeat false a_1, slLFeat false lists_1, I band_1] true (.tup [I index_2, I least_2, I c_2]) ∧ ((false = true → true = true) ∧ 3 = 3 ∧ a_1.length = a_1.length ∧ ∀ i_, i_ < a_1.length → (fFeat a_1) i_ = (fFeat a_1) i_ ∨ (AV.idsL ((fFeat a_1) i_) = [] ∧ leL (fun _ => none) false ((fFeat a_1) i_) ((fFeat a_1) i_))) ∧ ((false = true → true = true) ∧ 1 = 1 ∧ lists_1.length = lists_1.length ∧ ∀ i_, i_ < lists_1.length → (fLFeat true lists_1) i_ = (fLFeat false lists_1) i_ ∨ (AV.idsL ((fLFeat false lists_1) i_) = [] ∧ leL (fun _ => none) false ((fLFeat true lists_1) i_) ((fLFeat false lists_1) i_))) ∧ True] hB ⟨⟨hc2, ⟨(fun h => by cases h), rfl, rfl, fun i _ => .inl rfl⟩, ⟨(fun h => by cases h), rfl, rfl, fun i _ => .inr ⟨idsLFeat _ _, leLFeat _ _ _⟩⟩, trivial⟩, trivial⟩ ?_
  refine ae_then ?_
  refine aw_seq ?_
  obtain ⟨index_3, least_3, many_3, c_3, hx3_0, hx3_1, hc3⟩ := NearestPruned_ok a_1 lists_1 band_1 oka hls hbd
  have hr2 := hx3_0
  have hc2 := hx3_1
  have hone := nr_one hr1 hr2
  have hcc : c_2 = c_3 := by rw [hc1, hc2]; by_cases q : m1 = 0; (rw [if_pos q, if_pos (hone.1.1 q)]); (rw [if_neg q, if_neg (fun z => q (hone.1.2 z))])
  refine aw_r [(3, .call [(false, slFeat false a_1), (false, slLFeat false lists_1), (true, .any)] true (.tup [I index_3, I least_3, I many_3, I c_3]))] [3, 4, 5, 6, 7, 8, 9, 10, 11, 12] [] [slFeat true a_1, slLFeat true lists_1, I band_1, I index_2, I least_2, I c_2, I index_3, I least_3, I many_3, I c_3] [] [Con Try.prog 8 [slFeat false a_1, slLFeat false lists_1, I band_1] true (.tup [I index_3, I least_3, I many_3, I c_3]) ∧ ((false = true → true = true) ∧ 3 = 3 ∧ a_1.length = a_1.length ∧ ∀ i_, i_ < a_1.length → (fFeat a_1) i_ = (fFeat a_1) i_ ∨ (AV.idsL ((fFeat a_1) i_) = [] ∧ leL (fun _ => none) false ((fFeat a_1) i_) ((fFeat a_1) i_))) ∧ ((false = true → true = true) ∧ 1 = 1 ∧ lists_1.length = lists_1.length ∧ ∀ i_, i_ < lists_1.length → (fLFeat true lists_1) i_ = (fLFeat false lists_1) i_ ∨ (AV.idsL ((fLFeat false lists_1) i_) = [] ∧ leL (fun _ => none) false ((fLFeat true lists_1) i_) ((fLFeat false lists_1) i_))) ∧ True] hB ⟨⟨hc3, ⟨(fun h => by cases h), rfl, rfl, fun i _ => .inl rfl⟩, ⟨(fun h => by cases h), rfl, rfl, fun i _ => .inr ⟨idsLFeat _ _, leLFeat _ _ _⟩⟩, trivial⟩, trivial⟩ ?_
  refine ae_then ?_
  refine aw_seq ?_
  obtain ⟨v_4, c_4, hx4_0, hx4_1, hc4⟩ := BoundOrder_ok a_1 lists_1 band_1 oka hls hbd
  have hbo := hx4_0
  have hol := ord_len a_1 lists_1 band_1 lists_1.length
  rw [← hbo.2.1] at hol
  refine aw_r [(3, .call [(false, slFeat false a_1), (false, slLFeat false lists_1), (true, .any)] true (.tup [slI true v_4, I c_4]))] [3, 4, 5, 6, 7, 8, 9, 10, 11, 12, 13, 14] [] [slFeat true a_1, slLFeat true lists_1, I band_1, I index_2, I least_2, I c_2, I index_3, I least_3, I many_3, I c_3, slI true v_4, I c_4] [] [Con Try.prog 9 [slFeat false a_1, slLFeat false lists_1, I band_1] true (.tup [slI true v_4, I c_4]) ∧ ((false = true → true = true) ∧ 3 = 3 ∧ a_1.length = a_1.length ∧ ∀ i_, i_ < a_1.length → (fFeat a_1) i_ = (fFeat a_1) i_ ∨ (AV.idsL ((fFeat a_1) i_) = [] ∧ leL (fun _ => none) false ((fFeat a_1) i_) ((fFeat a_1) i_))) ∧ ((false = true → true = true) ∧ 1 = 1 ∧ lists_1.length = lists_1.length ∧ ∀ i_, i_ < lists_1.length → (fLFeat true lists_1) i_ = (fLFeat false lists_1) i_ ∨ (AV.idsL ((fLFeat false lists_1) i_) = [] ∧ leL (fun _ => none) false ((fLFeat true lists_1) i_) ((fLFeat false lists_1) i_))) ∧ True] hB ⟨⟨hc4, ⟨(fun h => by cases h), rfl, rfl, fun i _ => .inl rfl⟩, ⟨(fun h => by cases h), rfl, rfl, fun i _ => .inr ⟨idsLFeat _ _, leLFeat _ _ _⟩⟩, trivial⟩, trivial⟩ ?_
  refine ae_then ?_
  refine aw_seq ?_
  refine aR [(2, .dec false), (5, .dec false), (12, .dec false)] [3, 4, 5, 6, 7, 8, 9, 10, 11, 13, 68] [] [slFeat true a_1, slLFeat true lists_1, I band_1, I index_2, I least_2, I c_2, I index_3, I least_3, I many_3, slI true v_4, Bv false] [] [¬ (c_2 ≠ c_3), ¬ (c_4 ≠ 0), ¬ ((lists_1.length : Int) < (v_4.length : Int))] hB ⟨(fun hq => hq hcc), (fun hq => hq hx4_1), (by omega), trivial⟩ ?_
  refine aw_false rfl ?_
  refine aw_skip ?_
  refine ae_then ?_
  refine aw_seq ?_
  refine aw_seq ?_
  by_cases h2 : c_2 = 0
  ·have hm1 : m1 ≠ 0 := fun q => by rw [if_pos q] at hc1; omega
   have heq := hone.2 hm1
   have hcb := nr_cost oka (Nat.le_refl _) hls.2 hr1 hm1
   have hm2 : many_3 ≠ 0 := fun q => hm1 (hone.1.2 q)
   have hr3 := hr2
   rcases hr3 with q | hr3; (exact absurd q.1 hm2)
   rw [← hbo.2.1] at hr3
   have hmem : index_2 ∈ v_4 := by rw [heq.1]; exact (hbo.1 _).2 ⟨index_3.toNat, by omega, hr3.2.2.2.1, by omega⟩
   refine aw_r [(1, .dec false)] [3, 4, 5, 6, 7, 8, 9, 10, 11, 13, 70] [] [slFeat true a_1, slLFeat true lists_1, I band_1, I index_2, I least_2, I c_2, I index_3, I least_3, I many_3, slI true v_4, Bv false] [] [¬ (c_2 ≠ 0)] hB ⟨(fun hq => hq h2), trivial⟩ ?_
   refine ae_then ?_
   refine aw_false rfl ?_
   refine aw_skip ?_
   refine ae_then ?_
   refine aw_seq ?_
   refine aR [(2, .dec false), (6, .dec false), (10, .dec false), (16, .dec false), (21, .call [(false, slI false v_4), (true, .any)] true (Bv true))] [3, 4, 5, 6, 7, 13, 101] [] [slFeat true a_1, slLFeat true lists_1, I band_1, I index_2, I least_2, slI true v_4, Bv false] [] [¬ (index_2 ≠ index_3), ¬ (least_2 ≠ least_3), ¬ (many_3 < 1), ¬ ((v_4.length : Int) < many_3), Con Try.prog 10 [slI false v_4, I index_2] true (Bv true) ∧ ((false = true → true = true) ∧ 1 = 1 ∧ v_4.length = v_4.length ∧ ∀ i_, i_ < v_4.length → (fI v_4) i_ = (fI v_4) i_ ∨ (AV.idsL ((fI v_4) i_) = [] ∧ leL (fun _ => none) false ((fI v_4) i_) ((fI v_4) i_))) ∧ True] hB ⟨(fun hq => hq heq.1), (fun hq => hq heq.2), (by omega), (by omega), ⟨(con_bool (decide_eq_true hmem) (a2Has_ok v_4 index_2 (by omega))), ⟨(fun h => by cases h), rfl, rfl, fun i _ => .inl rfl⟩, trivial⟩, trivial⟩ ?_
   refine aw_false rfl ?_
   refine aw_skip ?_
   refine ae_then ?_
   refine aR [] [3, 4, 5, 6, 7, 13, 15] [] [slFeat true a_1, slLFeat true lists_1, I band_1, I index_2, I least_2, slI true v_4, I (-1)] [] [] hB trivial ?_
   refine aw_seq ?_
   refine aR [] [3, 4, 5, 6, 7, 13, 15, 16] [] [slFeat true a_1, slLFeat true lists_1, I band_1, I index_2, I least_2, slI true v_4, I (-1), I 0] [] [] hB trivial ?_
   refine aw_block ?_
   refine aw_loop (fun gn gσ => ∃ (last : Int) (i : Int), gn = ((v_4.length : Int) - i).toNat ∧ (0 ≤ i ∧ i ≤ (v_4.length : Int)) ∧ (last = if i = 0 then -1 else lbI a_1 (at_ lists_1 (at_ v_4 (i.toNat - 1)).toNat) band_1) ∧ gσ = mkS [(3, slFeat true a_1), (4, slLFeat true lists_1), (5, I band_1), (6, I index_2), (7, I least_2), (13, slI true v_4), (15, I last), (16, I i)] []) (((v_4.length : Int) - 0).toNat) ⟨(-1), 0, rfl, (by omega), (by exact (if_pos rfl).symm), rfl⟩ (fun gn gσ hI => ?_)
   obtain ⟨last, i, rfl, hi0, hla, rfl⟩ := hI
   refine aw_seq ?_
   refine aw_seq ?_
   by_cases h3 : i < (v_4.length : Int)
   ·have hi : i.toNat < v_4.length := by omega
    obtain ⟨j, hj1, hj2, hj3⟩ := (hbo.1 _).1 (at_mem hi)
    have hjt : (at_ v_4 i.toNat).toNat = j := by omega
    have okj := hls.2 _ (at_mem hj1)
    have hcode := in_code oka okj hj2
    rw [← hjt] at hcode okj
    have hnn := lbI_nn band_1 oka okj
    have hord := hbo.2.2 i.toNat
    refine aw_r [(3, .dec true)] [3, 4, 5, 6, 7, 13, 15, 16, 105] [] [slFeat true a_1, slLFeat true lists_1, I band_1, I index_2, I least_2, slI true v_4, I last, I i, Bv true] [] [i < (v_4.length : Int)] hB ⟨h3, trivial⟩ ?_
    refine ae_then ?_
    refine aw_true rfl ?_
    refine aw_skip ?_
    refine ae_then ?_
    refine aw_seq ?_
    refine aw_block ?_
    refine aw_seq ?_
    refine aR [(4, .dec false), (12, .dec false)] [3, 4, 5, 6, 7, 13, 15, 16, 121] [] [slFeat true a_1, slLFeat true lists_1, I band_1, I index_2, I least_2, slI true v_4, I last, I i, Bv false] [] [(0 : Int) ≤ i ∧ i < (v_4.length : Int), ¬ ((at_ v_4 i.toNat) < 0), (0 : Int) ≤ i ∧ i < (v_4.length : Int), ¬ ((lists_1.length : Int) ≤ (at_ v_4 i.toNat))] hB ⟨⟨(by omega), (by omega)⟩, (by omega), ⟨(by omega), (by omega)⟩, (by omega), trivial⟩ ?_
    refine aw_false rfl ?_
    refine aw_skip ?_
    refine ae_then ?_
    refine aw_seq ?_
    obtain ⟨v_5, c_5, hx5_0, hx5_1, hc5⟩ := specLowerBound_ok a_1 (at_ lists_1 ((at_ v_4 i.toNat).toNat)) band_1
    have hlv : v_5 = lbI a_1 (at_ lists_1 (at_ v_4 i.toNat).toNat) band_1 ∧ c_5 = 0 := by rw [hx5_0, hx5_1]; exact ⟨hcode.2, hcode.1⟩
    refine aw_r [(9, .call [(false, slFeat false a_1), (false, slFeat false (at_ lists_1 ((at_ v_4 i.toNat).toNat))), (true, .any)] true (.tup [I v_5, I c_5]))] [3, 4, 5, 6, 7, 13, 15, 16, 17, 18] [] [slFeat true a_1, slLFeat true lists_1, I band_1, I index_2, I least_2, slI true v_4, I last, I i, I v_5, I c_5] [] [(0 : Int) ≤ i ∧ i < (v_4.length : Int), (0 : Int) ≤ (at_ v_4 i.toNat) ∧ (at_ v_4 i.toNat) < (lists_1.length : Int), Con Try.prog 11 [slFeat false a_1, slFeat false (at_ lists_1 ((at_ v_4 i.toNat).toNat)), I band_1] true (.tup [I v_5, I c_5]) ∧ ((false = true → true = true) ∧ 3 = 3 ∧ a_1.length = a_1.length ∧ ∀ i_, i_ < a_1.length → (fFeat a_1) i_ = (fFeat a_1) i_ ∨ (AV.idsL ((fFeat a_1) i_) = [] ∧ leL (fun _ => none) false ((fFeat a_1) i_) ((fFeat a_1) i_))) ∧ ((false = true → true = true) ∧ 3 = 3 ∧ ((at_ lists_1 ((at_ v_4 i.toNat).toNat)).length) = ((at_ lists_1 ((at_ v_4 i.toNat).toNat)).length) ∧ ∀ i_, i_ < ((at_ lists_1 ((at_ v_4 i.toNat).toNat)).length) → (fFeat (at_ lists_1 ((at_ v_4 i.toNat).toNat))) i_ = (fFeat (at_ lists_1 ((at_ v_4 i.toNat).toNat))) i_ ∨ (AV.idsL ((fFeat (at_ lists_1 ((at_ v_4 i.toNat).toNat))) i_) = [] ∧ leL (fun _ => none) false ((fFeat (at_ lists_1 ((at_ v_4 i.toNat).toNat))) i_) ((fFeat (at_ lists_1 ((at_ v_4 i.toNat).toNat))) i_))) ∧ True] hB ⟨⟨(by omega), (by omega)⟩, ⟨(by omega), (by omega)⟩, ⟨hc5, ⟨(fun h => by cases h), rfl, rfl, fun i _ => .inl rfl⟩, ⟨(fun h => by cases h), rfl, rfl, fun i _ => .inl rfl⟩, trivial⟩, trivial⟩ ?_
    refine ae_then ?_
    refine aw_seq ?_
    refine aR [(1, .dec false), (5, .dec false)] [3, 4, 5, 6, 7, 13, 16, 17, 141] [] [slFeat true a_1, slLFeat true lists_1, I band_1, I index_2, I least_2, slI true v_4, I i, I v_5, Bv false] [] [¬ (c_5 ≠ 0), ¬ (v_5 < last)] hB ⟨(fun hq => hq hlv.2), (by rw [hlv.1, hla]; split; (omega); (have q := hord (by omega) hi; omega)), trivial⟩ ?_
    refine aw_false rfl ?_
    refine aw_skip ?_
    refine ae_then ?_
    refine aw_r [] [3, 4, 5, 6, 7, 13, 15, 16] [] [slFeat true a_1, slLFeat true lists_1, I band_1, I index_2, I least_2, slI true v_4, I v_5, I i] [] [] hB trivial ?_
    refine ae_block 1 ?_
    refine ae_then ?_
    refine aw_r [] [3, 4, 5, 6, 7, 13, 15, 16] [] [slFeat true a_1, slLFeat true lists_1, I band_1, I index_2, I least_2, slI true v_4, I v_5, I (i + 1)] [] [inR .i64 (i + 1)] hB ⟨(inR_i64 (by omega) (by omega)), trivial⟩ ?_
    exact ae_again _ (by omega) ⟨v_5, (i + 1), rfl, (by omega), (by rw [if_neg (by omega), show (i + 1).toNat - 1 = i.toNat from by omega]; exact hlv.1), rfl⟩
   refine aw_r [(3, .dec false)] [3, 4, 5, 6, 7, 13, 15, 16, 105] [] [slFeat true a_1, slLFeat true lists_1, I band_1, I index_2, I least_2, slI true v_4, I last, I i, Bv false] [] [¬ (i < (v_4.length : Int))] hB ⟨h3, trivial⟩ ?_
   refine ae_then ?_
   refine aw_false rfl ?_
   refine aw_exit ?_
   refine ae_exit_then ?_
   refine ae_exit_then ?_
   refine ae_exit_same ?_
   refine ae_then ?_
   refine aw_seq ?_
   obtain ⟨v_6, c_6, hx6_0, hx6_1, hc6⟩ := WithinCost_ok a_1 lists_1 band_1 least_2 oka hls hbd
   have hnear := hx6_0
   refine aw_r [(4, .call [(false, slFeat false a_1), (false, slLFeat false lists_1), (true, .any), (true, .any)] true (.tup [slI true v_6, I c_6]))] [3, 4, 5, 6, 7, 19, 20] [] [slFeat true a_1, slLFeat true lists_1, I band_1, I index_2, I least_2, slI true v_6, I c_6] [] [Con Try.prog 12 [slFeat false a_1, slLFeat false lists_1, I band_1, I least_2] true (.tup [slI true v_6, I c_6]) ∧ ((false = true → true = true) ∧ 3 = 3 ∧ a_1.length = a_1.length ∧ ∀ i_, i_ < a_1.length → (fFeat a_1) i_ = (fFeat a_1) i_ ∨ (AV.idsL ((fFeat a_1) i_) = [] ∧ leL (fun _ => none) false ((fFeat a_1) i_) ((fFeat a_1) i_))) ∧ ((false = true → true = true) ∧ 1 = 1 ∧ lists_1.length = lists_1.length ∧ ∀ i_, i_ < lists_1.length → (fLFeat true lists_1) i_ = (fLFeat false lists_1) i_ ∨ (AV.idsL ((fLFeat false lists_1) i_) = [] ∧ leL (fun _ => none) false ((fLFeat true lists_1) i_) ((fLFeat false lists_1) i_))) ∧ True] hB ⟨⟨hc6, ⟨(fun h => by cases h), rfl, rfl, fun i _ => .inl rfl⟩, ⟨(fun h => by cases h), rfl, rfl, fun i _ => .inr ⟨idsLFeat _ _, leLFeat _ _ _⟩⟩, trivial⟩, trivial⟩ ?_
   refine ae_then ?_
   refine aw_seq ?_
   obtain ⟨v_7, c_7, hx7_0, hx7_1, hc7⟩ := WithinCost_ok a_1 lists_1 band_1 (least_2 - 1) oka hls hbd
   have hless := hx7_0
   have hwf := wc_first hr1 hm1
   rw [← hnear, ← hless] at hwf
   have hlz : v_7.length = 0 := by rw [hwf.2]; rfl
   refine aw_r [(5, .call [(false, slFeat false a_1), (false, slLFeat false lists_1), (true, .any), (true, .any)] true (.tup [slI true v_7, I c_7]))] [6, 19, 20, 21, 22] [] [I index_2, slI true v_6, I c_6, slI true v_7, I c_7] [] [inR .i64 (least_2 - 1), Con Try.prog 12 [slFeat false a_1, slLFeat false lists_1, I band_1, I (least_2 - 1)] true (.tup [slI true v_7, I c_7]) ∧ ((false = true → true = true) ∧ 3 = 3 ∧ a_1.length = a_1.length ∧ ∀ i_, i_ < a_1.length → (fFeat a_1) i_ = (fFeat a_1) i_ ∨ (AV.idsL ((fFeat a_1) i_) = [] ∧ leL (fun _ => none) false ((fFeat a_1) i_) ((fFeat a_1) i_))) ∧ ((false = true → true = true) ∧ 1 = 1 ∧ lists_1.length = lists_1.length ∧ ∀ i_, i_ < lists_1.length → (fLFeat true lists_1) i_ = (fLFeat false lists_1) i_ ∨ (AV.idsL ((fLFeat false lists_1) i_) = [] ∧ leL (fun _ => none) false ((fLFeat true lists_1) i_) ((fLFeat false lists_1) i_))) ∧ True] hB ⟨(inR_i64 (by omega) (by omega)), ⟨hc7, ⟨(fun h => by cases h), rfl, rfl, fun i _ => .inl rfl⟩, ⟨(fun h => by cases h), rfl, rfl, fun i _ => .inr ⟨idsLFeat _ _, leLFeat _ _ _⟩⟩, trivial⟩, trivial⟩ ?_
   refine ae_then ?_
   refine aR [(1, .dec true), (4, .dec true), (9, .dec true), (14, .dec true), (21, .dec true)] [2] [] [Bv true] [] [c_6 = 0, c_7 = 0, (v_7.length : Int) = 0, 0 < (v_6.length : Int), (0 : Int) ≤ 0 ∧ 0 < (v_6.length : Int), (at_ v_6 0) = index_2] hB ⟨hx6_1, hx7_1, (by omega), (by have := hwf.1.1; omega), ⟨(by omega), (by omega)⟩, hwf.1.2, trivial⟩ ?_
   refine aw_ret ?_
   refine ae_ret hB (Bv true) (by kernel_rfl) (.inl rfl) rfl (fun _ => trivial)
  have hm1 : m1 = 0 := Classical.byContradiction fun q => by rw [if_neg q] at hc1; omega
  rw [if_pos hm1] at hc1
  have hoz : v_4.length = 0 := by rcases hr1 with q | q; (exact bo_none hbo q.2); (have := q.1; omega)
  refine aw_r [(1, .dec true)] [3, 4, 5, 6, 7, 8, 9, 10, 11, 13, 70] [] [slFeat true a_1, slLFeat true lists_1, I band_1, I index_2, I least_2, I c_2, I index_3, I least_3, I many_3, slI true v_4, Bv true] [] [c_2 ≠ 0] hB ⟨h2, trivial⟩ ?_
  refine ae_then ?_
  refine aw_true rfl ?_
  refine aR [(1, .dec true), (5, .dec true)] [2] [] [Bv true] [] [c_2 = 3, (v_4.length : Int) = 0] hB ⟨hc1, (by omega), trivial⟩ ?_
  refine aw_ret ?_
  refine ae_ret_then ?_
  refine ae_ret hB (Bv true) (by kernel_rfl) (.inl rfl) rfl (fun _ => trivial)


/-! ### the row -/

theorem opens_t22 : OpensA Try.prog 22 (cLU8 false) (fun xs => ∀ y ∈ xs, inR .u8 y) :=
  opensA_slice (c := cU8) (sz := 1) Try.underlying22 (by kernel_rfl) (by decide) (fun x => ⟨rfl, by simp [oneA, cU8]⟩) (opensA_int Try.underlying5)

namespace fnNearest
set_option maxRecDepth 100000 in
theorem lifted (os : Os) (started : os.Started) (H : Type) (enc : TypeId × Value → H) :
    ReturnsInHanded {} Try.checked os 3 .any (Rows.fnNearestSpec.pre6 enc Try.prog Try.f3 Rows.fnNearestRow.domain false) (Rows.fnNearestSpec.post enc Try.prog Try.f3 false true false false) := by
  refine returnsInHanded_of_change_shaped (C := Try.checked) Try.own started (by kernel_rfl) Try.func3
    (ChangeSpec.witness6 (enc := enc) (C := Try.checked) false ⟨#[], #[.slice none 0 0], []⟩ 8 (by kernel_rfl) (by kernel_rfl) (by kernel_rfl) (by kernel_rfl)) ?_
  intro W base args ds gs before hval0 hW hcnd hsz hshp _
  have hW' := hW
  obtain ⟨p, q, hA0, hV, rfl, hfz, hnd⟩ := hW
  have hval : ∀ (j : Nat) t v, Try.f3.params[j]? = some t → args[j]? = some v → Value.okWide Try.prog W .any base t v := hval0
  have hA : DataW.TrodAll enc Try.prog W 0 (fun _ => true) true Try.f3.params.toList args.toList ds p := hA0
  rw [Try.params3] at hA hval
  obtain ⟨v0, vs0, d0, ds0, p0, q0, hargs, rfl, rfl, h0, r0⟩ := trodAll_cons hA
  obtain ⟨rfl, rfl, rfl⟩ := trodAll_nil r0
  obtain rfl : args = #[v0] := args_eq hargs
  obtain ⟨rfl, rfl⟩ := trodVars_none hV
  obtain ⟨fuel0, hf0⟩ := h0
  obtain ⟨A0, l0, c0, rfl⟩ := okWide_slice Try.underlying22 (hval 0 22 v0 rfl rfl)
  obtain ⟨x0, rx0, ok0⟩ := (opens_t22) enc W 0 _ _ _ _ _ hf0
  refine (walk_of0 (fnNearest_con x0 ok0) (fun w _ => WX_free w) (RelTL.cons (relTL_one rx0) RelTL.nil)).mono fun e W1 ⟨he, hb⟩ => ?_
  subst he
  exact ⟨_, rfl, law_post Try.laidOut rfl Try.underlying4 (of_decide_eq_true (by kernel_rfl)) rfl hW' hb rfl⟩

theorem over : Rows.fnNearestRow.holds Try.pinned (OpenSpec.ofChange Rows.fnNearestSpec) :=
  OpenClaim.holds_of_wide 3 Try.f3 rfl rfl rfl rfl rfl rfl rfl ⟨rfl, rfl, rfl, rfl, rfl⟩ rfl rfl rfl rfl rfl (by kernel_rfl) Try.func3 (by kernel_rfl)
    (of_decide_eq_true (by kernel_rfl)) (by unfold Func.isWrapper; first | (rw [if_pos (by decide +kernel)]; kernel_rfl) | (rw [if_neg (by decide +kernel)]; exact ⟨rfl, rfl⟩))
    (fun os started H enc _ => lifted os started H enc)

theorem proved : Rows.FnNearestSaid :=
  over
#print axioms proved
end fnNearest
end Go.Proofs.Ytbapncplieakmaa.Ax
