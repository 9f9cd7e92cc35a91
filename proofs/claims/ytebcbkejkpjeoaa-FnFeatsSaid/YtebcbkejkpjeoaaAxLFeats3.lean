/- Contracts that the statement FnFeats reaches, part 3. No conditions. -/
import Derived.Test.YtebcbkejkpjeoaaAxLFeats2
namespace Go.Proofs.Ytebcbkejkpjeoaa.Ax
open Go.RowKit Go.ChangeShapes Go.WideShapes
set_option linter.unusedVariables false
set_option linter.unusedSimpArgs false


-- spec.l05Down
theorem l05Down_ok (n : Int) (d : Int) (hn : (-4611686018427387904 ≤ n ∧ n ≤ 4611686018427387904) ∧ 0 < d) : Con Try.prog 166 [I n, I d] true (I (n / d)) := by
  have hq := tdiv_bd n d
  have hs := down_spec n hn.2
  refine fn_ok (fn := Try.f166) (nt := 16) Try.func166 rfl rfl rfl rfl (by simp [taggedL, tagged]) fun B hB => ?_
  refine aw_seq ?_
  refine aw_reg [] [0, 1] [] [I n, I d] [] [] (by kernel_rfl) hB trivial ?_
  refine ae_then ?_
  refine aw_seq ?_
  refine aw_reg [] [0, 1, 5] [] [I n, I d, I (Int.tdiv n d)] [] [(d : Int) ≠ 0 ∧ inR .i64 (Int.tdiv n d)] (by kernel_rfl) hB ⟨⟨by omega, (inR_i64 (by omega) (by omega))⟩, trivial⟩ ?_
  refine ae_then ?_
  refine aw_seq ?_
  refine aw_seq ?_
  by_cases h1 : (Int.tmod n d) < 0
  ·refine aw_reg [(3, .dec true)] [5, 12] [] [I (Int.tdiv n d), Bv true] [] [(d : Int) ≠ 0, (Int.tmod n d) < 0] (by kernel_rfl) hB ⟨(by omega), h1, trivial⟩ ?_
   refine ae_then ?_
   refine aw_true rfl ?_
   refine aw_reg [] [5] [] [I ((Int.tdiv n d) - 1)] [] [inR .i64 ((Int.tdiv n d) - 1)] (by kernel_rfl) hB ⟨(inR_i64 (by omega) (by omega)), trivial⟩ ?_
   refine ae_then ?_
   refine aw_seq ?_
   refine aw_reg [] [4] [] [I ((Int.tdiv n d) - 1)] [] [] (by kernel_rfl) hB trivial ?_
   refine ae_then ?_
   refine aw_ret ?_
   refine ae_ret hB (I ((Int.tdiv n d) - 1)) (by kernel_rfl) (.inl (by refine congrArg I ?_; first | exact hs.1 (by assumption) | exact hs.2 (by assumption))) rfl (fun _ => trivial)
  ·refine aw_reg [(3, .dec false)] [5, 12] [] [I (Int.tdiv n d), Bv false] [] [(d : Int) ≠ 0, ¬ ((Int.tmod n d) < 0)] (by kernel_rfl) hB ⟨(by omega), h1, trivial⟩ ?_
   refine ae_then ?_
   refine aw_false rfl ?_
   refine aw_skip ?_
   refine ae_then ?_
   refine aw_seq ?_
   refine aw_reg [] [4] [] [I (Int.tdiv n d)] [] [] (by kernel_rfl) hB trivial ?_
   refine ae_then ?_
   refine aw_ret ?_
   refine ae_ret hB (I (Int.tdiv n d)) (by kernel_rfl) (.inl (by refine congrArg I ?_; first | exact hs.1 (by assumption) | exact hs.2 (by assumption))) rfl (fun _ => trivial)


-- spec.l05Near
theorem l05Near_ok (n : Int) (d : Int) (hn : (-1000000000000000000 ≤ n ∧ n ≤ 1000000000000000000) ∧ 0 < d ∧ d ≤ 1000000000000000000) : Con Try.prog 106 [I n, I d] true (I (nearI n d)) := by
  refine fn_ok (fn := Try.f106) (nt := 12) Try.func106 rfl rfl rfl rfl (by simp [taggedL, tagged]) fun B hB => ?_
  refine aw_seq ?_
  refine aw_reg [] [0, 1] [] [I n, I d] [] [] (by kernel_rfl) hB trivial ?_
  refine ae_then ?_
  refine aw_seq ?_
  refine aw_reg [(6, .call [(true, I ((2 * n) + d)), (true, I (2 * d))] true (I (((2 * n) + d) / (2 * d))))] [4] [] [I (((2 * n) + d) / (2 * d))] [] [inR .i64 (2 * n), inR .i64 ((2 * n) + d), inR .i64 (2 * d), Con Try.prog 166 [I ((2 * n) + d), I (2 * d)] true (I (((2 * n) + d) / (2 * d))) ∧ ((I ((2 * n) + d) : AV) = I ((2 * n) + d)) ∧ ((I (2 * d) : AV) = I (2 * d)) ∧ True] (by kernel_rfl) hB ⟨(inR_i64 (by omega) (by omega)), (inR_i64 (by omega) (by omega)), (inR_i64 (by omega) (by omega)), ⟨(l05Down_ok ((2 * n) + d) (2 * d) (by omega)), rfl, rfl, trivial⟩, trivial⟩ ?_
  refine ae_then ?_
  refine aw_ret ?_
  refine ae_ret hB (I (((2 * n) + d) / (2 * d))) (by kernel_rfl) (.inl (by rfl)) rfl (fun _ => trivial)


-- spec.l06At
theorem l06At_ok (s : Stroke) (arcs : List Int) (part : Int) (parts : Int) (ok : okStroke' s = true) (ha : arcs = arcsL s.Points s.Points.length) (hp : (0 ≤ part ∧ part ≤ parts) ∧ (1 ≤ parts ∧ parts ≤ 1000)) : Con Try.prog 198 [.ptr false [slPoint false s.Points], slI false arcs, I part, I parts] true (.agg [I ((spotI s part parts).X), I ((spotI s part parts).Y)]) := by
  have hln := okS_len ok
  have hal : arcs.length = s.Points.length := by rw [ha, arcsL_len]
  have hat : ∀ j, j < s.Points.length → at_ arcs j = arcI s j := by intro j hj; rw [ha]; exact arcsL_at hj
  have e0 : at_ arcs ((arcs.length : Int) - 1).toNat = arcI s (s.Points.length - 1) := (hat _ (by omega)).trans (by congr 1; omega)
  have hb0 := arcI_bd ok (k := s.Points.length - 1) (by omega)
  rw [← e0] at hb0
  have hm0 := mulP_bd hb0.1 hb0.2 hp.1.1 (by omega : part ≤ 1000)
  refine fn_ok (fn := Try.f198) (nt := 123) Try.func198 rfl rfl rfl rfl (by simp [taggedL, tagged, tagI, tagPoint]) fun B hB => ?_
  refine aw_lens (x := .ptr false [slPoint false s.Points]) 0 rfl (fun len_s => ?_)
  simp [LenOK, LenL, cPoint, fPoint, slPoint] at len_s
  refine aw_lens (x := slI false arcs) 1 rfl (fun len_arcs => ?_)
  simp [LenOK, LenL, cI, fI, slI] at len_arcs
  refine aw_seq ?_
  refine aw_reg [(0, .new 8)] [0, 1, 2, 3, 8] [8] [.ptr false [slPoint false s.Points], slI false arcs, I part, I parts, .ref 8 0] [some (.box [I 0, I 0])] [] (by kernel_rfl) hB trivial ?_
  refine ae_then ?_
  refine aw_seq ?_
  refine aw_reg [] [0, 1, 3, 8, 9] [8] [.ptr false [slPoint false s.Points], slI false arcs, I parts, .ref 8 0, I ((at_ arcs (((arcs.length : Int) - 1).toNat)) * part)] [some (.box [I 0, I 0])] [inR .i64 ((arcs.length : Int) - 1), (0 : Int) ≤ ((arcs.length : Int) - 1) ∧ ((arcs.length : Int) - 1) < (arcs.length : Int), inR .i64 ((at_ arcs (((arcs.length : Int) - 1).toNat)) * part)] (by kernel_rfl) hB ⟨(inR_i64 (by omega) (by omega)), ⟨(by omega), (by omega)⟩, (inR_i64 (by omega) (by omega)), trivial⟩ ?_
  refine ae_then ?_
  refine aw_seq ?_
  refine aw_reg [] [0, 1, 3, 8, 9, 10] [8] [.ptr false [slPoint false s.Points], slI false arcs, I parts, .ref 8 0, I ((at_ arcs (((arcs.length : Int) - 1).toNat)) * part), I 1] [some (.box [I 0, I 0])] [] (by kernel_rfl) hB trivial ?_
  refine ae_then ?_
  refine aw_seq ?_
  refine aw_block ?_
  refine aw_loop (fun gn gσ => ∃ (i : Int), gn = ((arcs.length : Int) - i).toNat ∧ (1 ≤ i ∧ i ≤ (arcs.length : Int)) ∧ (∀ j : Nat, (j : Int) < i → stopB s part parts j = false) ∧ gσ = mkS [(0, .ptr false [slPoint false s.Points]), (1, slI false arcs), (3, I parts), (8, .ref 8 0), (9, I ((at_ arcs (((arcs.length : Int) - 1).toNat)) * part)), (10, I i)] [(8, .box [I 0, I 0])]) (((arcs.length : Int) - 1).toNat) ⟨1, rfl, (by omega), (by intro j hj; exact stop_no (fun q => by omega)), rfl⟩ (fun gn gσ hI => ?_)
  obtain ⟨i, rfl, hi0, hn0, rfl⟩ := hI
  refine aw_seq ?_
  refine aw_seq ?_
  by_cases h1 : i < (arcs.length : Int)
  ·have hi : i.toNat < s.Points.length := by omega
   have ei : (i - 1).toNat = i.toNat - 1 := by omega
   have e1 := hat i.toNat hi
   have e2 : at_ arcs (i - 1).toNat = arcI s (i.toNat - 1) := (hat _ (by omega)).trans (by rw [ei])
   have hb1 := arcI_bd ok hi
   have hb2 := arcI_bd ok (k := i.toNat - 1) (by omega)
   have hup := arcI_up ok hi (by omega)
   rw [← e1] at hb1
   rw [← e2] at hb2
   rw [← e1, ← e2] at hup
   have hm1 := mulP_bd hb1.1 hb1.2 (by omega : 0 ≤ parts) hp.2.2
   have hm2 := mulP_bd hb2.1 hb2.2 (by omega : 0 ≤ parts) hp.2.2
   have hm3 := mulP_bd (x := at_ arcs i.toNat - at_ arcs (i - 1).toNat) (A := 5559540) (by omega) (by omega) (by omega : 0 ≤ parts) hp.2.2
   by_cases h2 : (at_ arcs i.toNat) = (at_ arcs ((i - 1).toNat))
   ·have hst : stopB s part parts i.toNat = false := stop_no (by rintro ⟨_, q, _⟩; rw [← e1, ← e2] at q; omega)
    refine aw_reg [(3, .dec true), (14, .dec true)] [0, 1, 3, 8, 9, 10, 48] [8] [.ptr false [slPoint false s.Points], slI false arcs, I parts, .ref 8 0, I ((at_ arcs (((arcs.length : Int) - 1).toNat)) * part), I i, Bv true] [some (.box [I 0, I 0])] [i < (arcs.length : Int), (0 : Int) ≤ i ∧ i < (arcs.length : Int), inR .i64 (i - 1), (0 : Int) ≤ (i - 1) ∧ (i - 1) < (arcs.length : Int), (at_ arcs i.toNat) = (at_ arcs ((i - 1).toNat))] (by kernel_rfl) hB ⟨h1, ⟨(by omega), (by omega)⟩, (inR_i64 (by omega) (by omega)), ⟨(by omega), (by omega)⟩, h2, trivial⟩ ?_
    refine ae_then ?_
    refine aw_true rfl ?_
    refine aw_skip ?_
    refine ae_then ?_
    refine aw_block ?_
    refine aw_reg [] [0, 1, 3, 8, 9, 10] [8] [.ptr false [slPoint false s.Points], slI false arcs, I parts, .ref 8 0, I ((at_ arcs (((arcs.length : Int) - 1).toNat)) * part), I (i + 1)] [some (.box [I 0, I 0])] [inR .i64 (i + 1)] (by kernel_rfl) hB ⟨(inR_i64 (by omega) (by omega)), trivial⟩ ?_
    refine ae_block 1 ?_
    exact ae_again _ (by omega) ⟨(i + 1), rfl, (by omega), (by exact up_to (n := 0) (by omega) hn0 hst), rfl⟩
   ·by_cases h3 : ((at_ arcs i.toNat) * parts) < ((at_ arcs (((arcs.length : Int) - 1).toNat)) * part)
    ·have hst : stopB s part parts i.toNat = false := stop_no (by rintro ⟨_, _, q⟩; rw [← e1, ← e0] at q; omega)
     refine aw_reg [(3, .dec true), (14, .dec false), (23, .dec true)] [0, 1, 3, 8, 9, 10, 48] [8] [.ptr false [slPoint false s.Points], slI false arcs, I parts, .ref 8 0, I ((at_ arcs (((arcs.length : Int) - 1).toNat)) * part), I i, Bv true] [some (.box [I 0, I 0])] [i < (arcs.length : Int), (0 : Int) ≤ i ∧ i < (arcs.length : Int), inR .i64 (i - 1), (0 : Int) ≤ (i - 1) ∧ (i - 1) < (arcs.length : Int), ¬ ((at_ arcs i.toNat) = (at_ arcs ((i - 1).toNat))), (0 : Int) ≤ i ∧ i < (arcs.length : Int), inR .i64 ((at_ arcs i.toNat) * parts), ((at_ arcs i.toNat) * parts) < ((at_ arcs (((arcs.length : Int) - 1).toNat)) * part)] (by kernel_rfl) hB ⟨h1, ⟨(by omega), (by omega)⟩, (inR_i64 (by omega) (by omega)), ⟨(by omega), (by omega)⟩, h2, ⟨(by omega), (by omega)⟩, (inR_i64 (by omega) (by omega)), h3, trivial⟩ ?_
     refine ae_then ?_
     refine aw_true rfl ?_
     refine aw_skip ?_
     refine ae_then ?_
     refine aw_block ?_
     refine aw_reg [] [0, 1, 3, 8, 9, 10] [8] [.ptr false [slPoint false s.Points], slI false arcs, I parts, .ref 8 0, I ((at_ arcs (((arcs.length : Int) - 1).toNat)) * part), I (i + 1)] [some (.box [I 0, I 0])] [inR .i64 (i + 1)] (by kernel_rfl) hB ⟨(inR_i64 (by omega) (by omega)), trivial⟩ ?_
     refine ae_block 1 ?_
     exact ae_again _ (by omega) ⟨(i + 1), rfl, (by omega), (by exact up_to (n := 0) (by omega) hn0 hst), rfl⟩
    ·have hst : stopB s part parts i.toNat = true := stop_iff.2 (by rw [← e1, ← e0, ← e2]; omega)
     have hn1 : ∀ j, j < i.toNat → stopB s part parts j = false := fun j hj => hn0 j (by omega)
     have hr := spot_rest ok (by omega) hi hst hn1
     rw [← e0, ← e1, ← e2] at hr
     have hpa := okP_iff.1 (okS_at ok (j := (i - 1).toNat) (by omega))
     have hpb := okP_iff.1 (okS_at ok hi)
     have hmx := mulS_bd (x := (at_ s.Points i.toNat).X - (at_ s.Points (i - 1).toNat).X) (A := 4095) (B := 5559540000) (by omega) (by omega) hr.1.1 (by omega)
     have hmy := mulS_bd (x := (at_ s.Points i.toNat).Y - (at_ s.Points (i - 1).toNat).Y) (A := 4095) (B := 5559540000) (by omega) (by omega) hr.1.1 (by omega)
     have hnx := near_between (x := (at_ s.Points i.toNat).X - (at_ s.Points (i - 1).toNat).X) hr.2 hr.1.1 hr.1.2
     have hny := near_between (x := (at_ s.Points i.toNat).Y - (at_ s.Points (i - 1).toNat).Y) hr.2 hr.1.1 hr.1.2
     have hsp := spotI_at hi hst hn1
     refine aw_reg [(3, .dec true), (14, .dec false), (23, .dec false)] [0, 1, 3, 8, 9, 10, 48] [8] [.ptr false [slPoint false s.Points], slI false arcs, I parts, .ref 8 0, I ((at_ arcs (((arcs.length : Int) - 1).toNat)) * part), I i, Bv false] [some (.box [I 0, I 0])] [i < (arcs.length : Int), (0 : Int) ≤ i ∧ i < (arcs.length : Int), inR .i64 (i - 1), (0 : Int) ≤ (i - 1) ∧ (i - 1) < (arcs.length : Int), ¬ ((at_ arcs i.toNat) = (at_ arcs ((i - 1).toNat))), (0 : Int) ≤ i ∧ i < (arcs.length : Int), inR .i64 ((at_ arcs i.toNat) * parts), ¬ (((at_ arcs i.toNat) * parts) < ((at_ arcs (((arcs.length : Int) - 1).toNat)) * part))] (by kernel_rfl) hB ⟨h1, ⟨(by omega), (by omega)⟩, (inR_i64 (by omega) (by omega)), ⟨(by omega), (by omega)⟩, h2, ⟨(by omega), (by omega)⟩, (inR_i64 (by omega) (by omega)), h3, trivial⟩ ?_
     refine ae_then ?_
     refine aw_false rfl ?_
     refine aw_exit ?_
     refine ae_exit_then ?_
     refine ae_exit_then ?_
     refine ae_exit_same ?_
     refine ae_then ?_
     refine aw_seq ?_
     refine aw_seq ?_
     refine aw_reg [(3, .dec false)] [0, 1, 3, 8, 9, 10, 54] [8] [.ptr false [slPoint false s.Points], slI false arcs, I parts, .ref 8 0, I ((at_ arcs (((arcs.length : Int) - 1).toNat)) * part), I i, Bv false] [some (.box [I 0, I 0])] [¬ (i = (arcs.length : Int))] (by kernel_rfl) hB ⟨(by omega), trivial⟩ ?_
     refine ae_then ?_
     refine aw_false rfl ?_
     refine aw_skip ?_
     refine ae_then ?_
     refine aw_seq ?_
     refine aw_reg [(8, .new 11)] [0, 1, 3, 8, 9, 10, 11] [8, 11] [.ptr false [slPoint false s.Points], slI false arcs, I parts, .ref 8 0, I ((at_ arcs (((arcs.length : Int) - 1).toNat)) * part), I i, .ref 11 0] [some (.box [I 0, I 0]), some (bxPoint (at_ s.Points ((i - 1).toNat)))] [inR .i64 (i - 1), (0 : Int) ≤ (i - 1) ∧ (i - 1) < (s.Points.length : Int)] (by kernel_rfl) hB ⟨(inR_i64 (by omega) (by omega)), ⟨(by omega), (by omega)⟩, trivial⟩ ?_
     refine ae_then ?_
     refine aw_seq ?_
     refine aw_reg [(7, .new 12)] [1, 3, 8, 9, 10, 11, 12] [8, 11, 12] [slI false arcs, I parts, .ref 8 0, I ((at_ arcs (((arcs.length : Int) - 1).toNat)) * part), I i, .ref 11 0, .ref 12 0] [some (.box [I 0, I 0]), some (bxPoint (at_ s.Points ((i - 1).toNat))), some (bxPoint (at_ s.Points i.toNat))] [(0 : Int) ≤ i ∧ i < (s.Points.length : Int)] (by kernel_rfl) hB ⟨⟨(by omega), (by omega)⟩, trivial⟩ ?_
     refine ae_then ?_
     refine aw_seq ?_
     refine aw_reg [] [1, 3, 8, 10, 11, 12, 13] [8, 11, 12] [slI false arcs, I parts, .ref 8 0, I i, .ref 11 0, .ref 12 0, I (((at_ arcs (((arcs.length : Int) - 1).toNat)) * part) - ((at_ arcs ((i - 1).toNat)) * parts))] [some (.box [I 0, I 0]), some (bxPoint (at_ s.Points ((i - 1).toNat))), some (bxPoint (at_ s.Points i.toNat))] [inR .i64 (i - 1), (0 : Int) ≤ (i - 1) ∧ (i - 1) < (arcs.length : Int), inR .i64 ((at_ arcs ((i - 1).toNat)) * parts), inR .i64 (((at_ arcs (((arcs.length : Int) - 1).toNat)) * part) - ((at_ arcs ((i - 1).toNat)) * parts))] (by kernel_rfl) hB ⟨(inR_i64 (by omega) (by omega)), ⟨(by omega), (by omega)⟩, (inR_i64 (by omega) (by omega)), (inR_i64 (by omega) (by omega)), trivial⟩ ?_
     refine ae_then ?_
     refine aw_seq ?_
     refine aw_reg [] [8, 11, 12, 13, 14] [8, 11, 12] [.ref 8 0, .ref 11 0, .ref 12 0, I (((at_ arcs (((arcs.length : Int) - 1).toNat)) * part) - ((at_ arcs ((i - 1).toNat)) * parts)), I (((at_ arcs i.toNat) - (at_ arcs ((i - 1).toNat))) * parts)] [some (.box [I 0, I 0]), some (bxPoint (at_ s.Points ((i - 1).toNat))), some (bxPoint (at_ s.Points i.toNat))] [(0 : Int) ≤ i ∧ i < (arcs.length : Int), inR .i64 (i - 1), (0 : Int) ≤ (i - 1) ∧ (i - 1) < (arcs.length : Int), inR .i64 ((at_ arcs i.toNat) - (at_ arcs ((i - 1).toNat))), inR .i64 (((at_ arcs i.toNat) - (at_ arcs ((i - 1).toNat))) * parts)] (by kernel_rfl) hB ⟨⟨(by omega), (by omega)⟩, (inR_i64 (by omega) (by omega)), ⟨(by omega), (by omega)⟩, (inR_i64 (by omega) (by omega)), (inR_i64 (by omega) (by omega)), trivial⟩ ?_
     refine ae_then ?_
     refine aw_seq ?_
     refine aw_reg [(10, .call [(true, I ((((at_ s.Points i.toNat).X) - ((at_ s.Points ((i - 1).toNat)).X)) * (((at_ arcs (((arcs.length : Int) - 1).toNat)) * part) - ((at_ arcs ((i - 1).toNat)) * parts)))), (true, I (((at_ arcs i.toNat) - (at_ arcs ((i - 1).toNat))) * parts))] true (I (nearI ((((at_ s.Points i.toNat).X) - ((at_ s.Points ((i - 1).toNat)).X)) * (((at_ arcs (((arcs.length : Int) - 1).toNat)) * part) - ((at_ arcs ((i - 1).toNat)) * parts))) (((at_ arcs i.toNat) - (at_ arcs ((i - 1).toNat))) * parts)))), (22, .call [(true, I ((((at_ s.Points i.toNat).Y) - ((at_ s.Points ((i - 1).toNat)).Y)) * (((at_ arcs (((arcs.length : Int) - 1).toNat)) * part) - ((at_ arcs ((i - 1).toNat)) * parts)))), (true, I (((at_ arcs i.toNat) - (at_ arcs ((i - 1).toNat))) * parts))] true (I (nearI ((((at_ s.Points i.toNat).Y) - ((at_ s.Points ((i - 1).toNat)).Y)) * (((at_ arcs (((arcs.length : Int) - 1).toNat)) * part) - ((at_ arcs ((i - 1).toNat)) * parts))) (((at_ arcs i.toNat) - (at_ arcs ((i - 1).toNat))) * parts))))] [8] [8] [.ref 8 0] [some (.box [I (((at_ s.Points ((i - 1).toNat)).X) + (nearI ((((at_ s.Points i.toNat).X) - ((at_ s.Points ((i - 1).toNat)).X)) * (((at_ arcs (((arcs.length : Int) - 1).toNat)) * part) - ((at_ arcs ((i - 1).toNat)) * parts))) (((at_ arcs i.toNat) - (at_ arcs ((i - 1).toNat))) * parts))), I (((at_ s.Points ((i - 1).toNat)).Y) + (nearI ((((at_ s.Points i.toNat).Y) - ((at_ s.Points ((i - 1).toNat)).Y)) * (((at_ arcs (((arcs.length : Int) - 1).toNat)) * part) - ((at_ arcs ((i - 1).toNat)) * parts))) (((at_ arcs i.toNat) - (at_ arcs ((i - 1).toNat))) * parts)))])] [inR .i64 (((at_ s.Points i.toNat).X) - ((at_ s.Points ((i - 1).toNat)).X)), inR .i64 ((((at_ s.Points i.toNat).X) - ((at_ s.Points ((i - 1).toNat)).X)) * (((at_ arcs (((arcs.length : Int) - 1).toNat)) * part) - ((at_ arcs ((i - 1).toNat)) * parts))), Con Try.prog 106 [I ((((at_ s.Points i.toNat).X) - ((at_ s.Points ((i - 1).toNat)).X)) * (((at_ arcs (((arcs.length : Int) - 1).toNat)) * part) - ((at_ arcs ((i - 1).toNat)) * parts))), I (((at_ arcs i.toNat) - (at_ arcs ((i - 1).toNat))) * parts)] true (I (nearI ((((at_ s.Points i.toNat).X) - ((at_ s.Points ((i - 1).toNat)).X)) * (((at_ arcs (((arcs.length : Int) - 1).toNat)) * part) - ((at_ arcs ((i - 1).toNat)) * parts))) (((at_ arcs i.toNat) - (at_ arcs ((i - 1).toNat))) * parts))) ∧ ((I ((((at_ s.Points i.toNat).X) - ((at_ s.Points ((i - 1).toNat)).X)) * (((at_ arcs (((arcs.length : Int) - 1).toNat)) * part) - ((at_ arcs ((i - 1).toNat)) * parts))) : AV) = I ((((at_ s.Points i.toNat).X) - ((at_ s.Points ((i - 1).toNat)).X)) * (((at_ arcs (((arcs.length : Int) - 1).toNat)) * part) - ((at_ arcs ((i - 1).toNat)) * parts)))) ∧ ((I (((at_ arcs i.toNat) - (at_ arcs ((i - 1).toNat))) * parts) : AV) = I (((at_ arcs i.toNat) - (at_ arcs ((i - 1).toNat))) * parts)) ∧ True, inR .i64 (((at_ s.Points ((i - 1).toNat)).X) + (nearI ((((at_ s.Points i.toNat).X) - ((at_ s.Points ((i - 1).toNat)).X)) * (((at_ arcs (((arcs.length : Int) - 1).toNat)) * part) - ((at_ arcs ((i - 1).toNat)) * parts))) (((at_ arcs i.toNat) - (at_ arcs ((i - 1).toNat))) * parts))), inR .i64 (((at_ s.Points i.toNat).Y) - ((at_ s.Points ((i - 1).toNat)).Y)), inR .i64 ((((at_ s.Points i.toNat).Y) - ((at_ s.Points ((i - 1).toNat)).Y)) * (((at_ arcs (((arcs.length : Int) - 1).toNat)) * part) - ((at_ arcs ((i - 1).toNat)) * parts))), Con Try.prog 106 [I ((((at_ s.Points i.toNat).Y) - ((at_ s.Points ((i - 1).toNat)).Y)) * (((at_ arcs (((arcs.length : Int) - 1).toNat)) * part) - ((at_ arcs ((i - 1).toNat)) * parts))), I (((at_ arcs i.toNat) - (at_ arcs ((i - 1).toNat))) * parts)] true (I (nearI ((((at_ s.Points i.toNat).Y) - ((at_ s.Points ((i - 1).toNat)).Y)) * (((at_ arcs (((arcs.length : Int) - 1).toNat)) * part) - ((at_ arcs ((i - 1).toNat)) * parts))) (((at_ arcs i.toNat) - (at_ arcs ((i - 1).toNat))) * parts))) ∧ ((I ((((at_ s.Points i.toNat).Y) - ((at_ s.Points ((i - 1).toNat)).Y)) * (((at_ arcs (((arcs.length : Int) - 1).toNat)) * part) - ((at_ arcs ((i - 1).toNat)) * parts))) : AV) = I ((((at_ s.Points i.toNat).Y) - ((at_ s.Points ((i - 1).toNat)).Y)) * (((at_ arcs (((arcs.length : Int) - 1).toNat)) * part) - ((at_ arcs ((i - 1).toNat)) * parts)))) ∧ ((I (((at_ arcs i.toNat) - (at_ arcs ((i - 1).toNat))) * parts) : AV) = I (((at_ arcs i.toNat) - (at_ arcs ((i - 1).toNat))) * parts)) ∧ True, inR .i64 (((at_ s.Points ((i - 1).toNat)).Y) + (nearI ((((at_ s.Points i.toNat).Y) - ((at_ s.Points ((i - 1).toNat)).Y)) * (((at_ arcs (((arcs.length : Int) - 1).toNat)) * part) - ((at_ arcs ((i - 1).toNat)) * parts))) (((at_ arcs i.toNat) - (at_ arcs ((i - 1).toNat))) * parts)))] (by kernel_rfl) hB ⟨(inR_i64 (by omega) (by omega)), (inR_i64 (by omega) (by omega)), ⟨(l05Near_ok ((((at_ s.Points i.toNat).X) - ((at_ s.Points ((i - 1).toNat)).X)) * (((at_ arcs (((arcs.length : Int) - 1).toNat)) * part) - ((at_ arcs ((i - 1).toNat)) * parts))) (((at_ arcs i.toNat) - (at_ arcs ((i - 1).toNat))) * parts) (by omega)), rfl, rfl, trivial⟩, (inR_i64 (by omega) (by omega)), (inR_i64 (by omega) (by omega)), (inR_i64 (by omega) (by omega)), ⟨(l05Near_ok ((((at_ s.Points i.toNat).Y) - ((at_ s.Points ((i - 1).toNat)).Y)) * (((at_ arcs (((arcs.length : Int) - 1).toNat)) * part) - ((at_ arcs ((i - 1).toNat)) * parts))) (((at_ arcs i.toNat) - (at_ arcs ((i - 1).toNat))) * parts) (by omega)), rfl, rfl, trivial⟩, (inR_i64 (by omega) (by omega)), trivial⟩ ?_
     refine ae_then ?_
     refine aw_ret ?_
     refine ae_ret hB (.agg [I (((at_ s.Points ((i - 1).toNat)).X) + (nearI ((((at_ s.Points i.toNat).X) - ((at_ s.Points ((i - 1).toNat)).X)) * (((at_ arcs (((arcs.length : Int) - 1).toNat)) * part) - ((at_ arcs ((i - 1).toNat)) * parts))) (((at_ arcs i.toNat) - (at_ arcs ((i - 1).toNat))) * parts))), I (((at_ s.Points ((i - 1).toNat)).Y) + (nearI ((((at_ s.Points i.toNat).Y) - ((at_ s.Points ((i - 1).toNat)).Y)) * (((at_ arcs (((arcs.length : Int) - 1).toNat)) * part) - ((at_ arcs ((i - 1).toNat)) * parts))) (((at_ arcs i.toNat) - (at_ arcs ((i - 1).toNat))) * parts)))]) (by kernel_rfl) (.inl (by first | (rw [hnone]; done) | (rw [hnone]; rfl) | (rw [hsp]; simp only [spotK, e0, e1, e2]; simp only [ei]))) rfl (fun _ => (by simp [tagged, taggedL]))
  ·have hnone := spotI_none (s := s) (part := part) (parts := parts) (fun j hj => hn0 j (by omega))
   refine aw_reg [(3, .dec false)] [0, 1, 3, 8, 9, 10, 48] [8] [.ptr false [slPoint false s.Points], slI false arcs, I parts, .ref 8 0, I ((at_ arcs (((arcs.length : Int) - 1).toNat)) * part), I i, Bv false] [some (.box [I 0, I 0])] [¬ (i < (arcs.length : Int))] (by kernel_rfl) hB ⟨h1, trivial⟩ ?_
   refine ae_then ?_
   refine aw_false rfl ?_
   refine aw_exit ?_
   refine ae_exit_then ?_
   refine ae_exit_then ?_
   refine ae_exit_same ?_
   refine ae_then ?_
   refine aw_seq ?_
   refine aw_seq ?_
   refine aw_reg [(3, .dec true)] [0, 1, 3, 8, 9, 10, 54] [8] [.ptr false [slPoint false s.Points], slI false arcs, I parts, .ref 8 0, I ((at_ arcs (((arcs.length : Int) - 1).toNat)) * part), I i, Bv true] [some (.box [I 0, I 0])] [i = (arcs.length : Int)] (by kernel_rfl) hB ⟨(by omega), trivial⟩ ?_
   refine ae_then ?_
   refine aw_true rfl ?_
   refine aw_seq ?_
   refine aw_reg [(6, .call [(true, agPoint (at_ s.Points 0))] true (.agg [I ((at_ s.Points 0).X), I ((at_ s.Points 0).Y)]))] [8] [8] [.ref 8 0] [some (.box [I ((at_ s.Points 0).X), I ((at_ s.Points 0).Y)])] [(0 : Int) ≤ 0 ∧ 0 < (s.Points.length : Int), Con Try.prog 213 [agPoint (at_ s.Points 0)] true (.agg [I ((at_ s.Points 0).X), I ((at_ s.Points 0).Y)]) ∧ ((agPoint (at_ s.Points 0) : AV) = agPoint (at_ s.Points 0)) ∧ True] (by kernel_rfl) hB ⟨⟨(by omega), (by omega)⟩, ⟨(l06Spot_ok (at_ s.Points 0)), rfl, trivial⟩, trivial⟩ ?_
   refine ae_then ?_
   refine aw_ret ?_
   refine ae_ret_then ?_
   refine ae_ret hB (.agg [I ((at_ s.Points 0).X), I ((at_ s.Points 0).Y)]) (by kernel_rfl) (.inl (by first | (rw [hnone]; done) | (rw [hnone]; rfl) | (rw [hsp]; simp only [spotK, e0, e1, e2]; simp only [ei]))) rfl (fun _ => (by simp [tagged, taggedL]))


-- spec.l06Resample
theorem l06Resample_ok (s : Stroke) (n : Int) (ok : okStroke' s = true) (hn : 2 ≤ n ∧ n ≤ 24) : Con Try.prog 175 [.ptr false [slPoint false s.Points], I n] true (slSpot true (resQ s n)) := by
  refine fn_ok (fn := Try.f175) (nt := 26) Try.func175 rfl rfl rfl rfl (by simp [taggedL, tagged, tagPoint]) fun B hB => ?_
  refine aw_lens (x := .ptr false [slPoint false s.Points]) 0 rfl (fun len_s => ?_)
  simp [LenOK, LenL, cPoint, fPoint, slPoint] at len_s
  refine aw_seq ?_
  refine aw_reg [] [0, 1] [] [.ptr false [slPoint false s.Points], I n] [] [] (by kernel_rfl) hB trivial ?_
  refine ae_then ?_
  refine aw_seq ?_
  refine aw_reg [(1, .call [(true, .ptr false [slPoint false s.Points])] true (slI true (arcsL s.Points s.Points.length)))] [0, 1, 5] [] [.ptr false [slPoint false s.Points], I n, slI true (arcsL s.Points s.Points.length)] [] [Con Try.prog 197 [.ptr false [slPoint false s.Points]] true (slI true (arcsL s.Points s.Points.length)) ∧ ((.ptr false [slPoint false s.Points] : AV) = .ptr false [slPoint false s.Points]) ∧ True] (by kernel_rfl) hB ⟨⟨(l06Arcs_ok s ok), rfl, trivial⟩, trivial⟩ ?_
  refine ae_then ?_
  refine aw_seq ?_
  refine aw_reg [(0, .new 10)] [0, 1, 5, 6] [10] [.ptr false [slPoint false s.Points], I n, slI true (arcsL s.Points s.Points.length), .arr 10] [some (.arr 2 0 (litF [] 2))] [] (by kernel_rfl) hB trivial ?_
  refine ae_then ?_
  refine aw_seq ?_
  refine aw_seq ?_
  refine aw_reg [] [0, 1, 5, 6, 7] [10] [.ptr false [slPoint false s.Points], I n, slI true (arcsL s.Points s.Points.length), .arr 10, I 0] [some (.arr 2 0 (litF [] 2))] [] (by kernel_rfl) hB trivial ?_
  refine ae_then ?_
  refine aw_block ?_
  refine aw_weak hB [] (T := [(0, .ptr false [slPoint false s.Points]), (1, I n), (5, slI true (arcsL s.Points s.Points.length)), (6, .arr 10), (7, I 0)]) (O := [(10, .arr 2 (([] : List Spot).length) (fSpot ([] : List Spot)))]) rfl (⟨.inl rfl, .inl rfl, .inl rfl, .inl rfl, .inl rfl, trivial⟩) (⟨.inr ⟨rfl, (by first | rfl | (simp; done) | (simp; omega) | omega), fun i hi => absurd hi (Nat.not_lt_zero _)⟩, trivial⟩) ?_
  refine aw_loop (fun gn gσ => ∃ (out : List Spot) (k : Int), gn = (n - k).toNat ∧ (0 ≤ k ∧ k ≤ n) ∧ ((out.length : Int) = k) ∧ (out = resK s n k.toNat) ∧ gσ = mkS [(0, .ptr false [slPoint false s.Points]), (1, I n), (5, slI true (arcsL s.Points s.Points.length)), (6, .arr 10), (7, I k)] [(10, .arr 2 out.length (fSpot out))]) ((n - 0).toNat) ⟨([] : List Spot), 0, rfl, (by omega), (by rfl), (by rfl), rfl⟩ (fun gn gσ hI => ?_)
  obtain ⟨out, k, rfl, hk0, hll, hl0, rfl⟩ := hI
  refine aw_seq ?_
  refine aw_seq ?_
  by_cases h1 : k < n
  ·refine aw_reg [(2, .dec true)] [0, 1, 5, 6, 7, 13] [10] [.ptr false [slPoint false s.Points], I n, slI true (arcsL s.Points s.Points.length), .arr 10, I k, Bv true] [some (.arr 2 out.length (fSpot out))] [k < n] (by kernel_rfl) hB ⟨h1, trivial⟩ ?_
   refine ae_then ?_
   refine aw_true rfl ?_
   refine aw_skip ?_
   refine ae_then ?_
   refine aw_seq ?_
   refine aw_block ?_
   refine aw_reg [(6, .call [(true, .ptr false [slPoint false s.Points]), (false, slI false (arcsL s.Points s.Points.length)), (true, I k), (true, I (n - 1))] true (.agg [I ((spotI s k (n - 1)).X), I ((spotI s k (n - 1)).Y)])), (7, .new 23), (8, .new 24)] [0, 1, 5, 6, 7] [24] [.ptr false [slPoint false s.Points], I n, slI true (arcsL s.Points s.Points.length), .arr 24, I k] [some (.arr 2 (out.length + 1) (catF out.length (fSpot out) (litF [I ((spotI s k (n - 1)).X), I ((spotI s k (n - 1)).Y)] 2)))] [inR .i64 (n - 1), Con Try.prog 198 [.ptr false [slPoint false s.Points], slI false (arcsL s.Points s.Points.length), I k, I (n - 1)] true (.agg [I ((spotI s k (n - 1)).X), I ((spotI s k (n - 1)).Y)]) ∧ ((.ptr false [slPoint false s.Points] : AV) = .ptr false [slPoint false s.Points]) ∧ ((false = true → true = true) ∧ 1 = 1 ∧ ((arcsL s.Points s.Points.length).length) = ((arcsL s.Points s.Points.length).length) ∧ ∀ i, i < ((arcsL s.Points s.Points.length).length) → (fI (arcsL s.Points s.Points.length)) i = (fI (arcsL s.Points s.Points.length)) i ∨ (AV.idsL ((fI (arcsL s.Points s.Points.length)) i) = [] ∧ leL (fun _ => none) false ((fI (arcsL s.Points s.Points.length)) i) ((fI (arcsL s.Points s.Points.length)) i))) ∧ ((I k : AV) = I k) ∧ ((I (n - 1) : AV) = I (n - 1)) ∧ True, (out.length + 1) * 16 ≤ 140737488355328] (by kernel_rfl) hB ⟨(inR_i64 (by omega) (by omega)), ⟨(l06At_ok s (arcsL s.Points s.Points.length) k (n - 1) ok (by first | rfl | assumption) (by omega)), rfl, ⟨(fun h => by cases h), rfl, rfl, fun i _ => .inl rfl⟩, rfl, rfl, trivial⟩, (by omega), trivial⟩ ?_
   refine ae_block 1 ?_
   refine ae_then ?_
   refine aw_reg [] [0, 1, 5, 6, 7] [24] [.ptr false [slPoint false s.Points], I n, slI true (arcsL s.Points s.Points.length), .arr 24, I (k + 1)] [some (.arr 2 (out.length + 1) (catF out.length (fSpot out) (litF [I ((spotI s k (n - 1)).X), I ((spotI s k (n - 1)).Y)] 2)))] [inR .i64 (k + 1)] (by kernel_rfl) hB ⟨(inR_i64 (by omega) (by omega)), trivial⟩ ?_
   refine ae_weak hB [(10, 24)] (T := [(0, .ptr false [slPoint false s.Points]), (1, I n), (5, slI true (arcsL s.Points s.Points.length)), (6, .arr 10), (7, I (k + 1))]) (O := [(10, .arr 2 ((out ++ [(spotI s k (n - 1))]).length) (fSpot (out ++ [(spotI s k (n - 1))])))]) rfl (⟨.inl rfl, .inl rfl, .inl rfl, .inl rfl, .inl rfl, trivial⟩) (⟨.inr ⟨rfl, (by first | rfl | (simp; done) | (simp; omega) | omega), fun i hi => .inl (cat_snoc (enc := cSpot) (xs := out) rfl i hi)⟩, trivial⟩) (ae_again _ (by omega) ⟨(out ++ [(spotI s k (n - 1))]), (k + 1), rfl, (by omega), (by simp; omega), (by rw [resK_succ (by omega), ← hl0]), rfl⟩)
  ·have hke : k.toNat = n.toNat := by omega
   rw [hke] at hl0
   have hl1 : out = resQ s n := hl0
   clear hl0
   subst hl1
   refine aw_reg [(2, .dec false)] [0, 1, 5, 6, 7, 13] [10] [.ptr false [slPoint false s.Points], I n, slI true (arcsL s.Points s.Points.length), .arr 10, I k, Bv false] [some (.arr 2 ((resQ s n).length) (fSpot (resQ s n)))] [¬ (k < n)] (by kernel_rfl) hB ⟨h1, trivial⟩ ?_
   refine ae_then ?_
   refine aw_false rfl ?_
   refine aw_exit ?_
   refine ae_exit_then ?_
   refine ae_exit_then ?_
   refine ae_exit_same ?_
   refine ae_then ?_
   refine aw_seq ?_
   refine aw_reg [] [4] [10] [.arr 10] [some (.arr 2 ((resQ s n).length) (fSpot (resQ s n)))] [] (by kernel_rfl) hB trivial ?_
   refine ae_then ?_
   refine aw_ret ?_
   refine ae_ret hB (.arr 10) (by kernel_rfl) (.inr ⟨(fun _ => rfl), rfl, rfl, fun i _ => .inl rfl⟩) rfl (fun _ => (tagSpot true _))


-- spec.l05Size
theorem l05Size_ok (n : Int) (hn : -9223372036854775807 ≤ n ∧ n ≤ 9223372036854775807) : Con Try.prog 199 [I n] true (I (n.natAbs : Int)) := by
  refine fn_ok (fn := Try.f199) (nt := 8) Try.func199 rfl rfl rfl rfl (by simp [taggedL, tagged]) fun B hB => ?_
  refine aw_seq ?_
  refine aw_reg [] [0] [] [I n] [] [] (by kernel_rfl) hB trivial ?_
  refine ae_then ?_
  refine aw_seq ?_
  refine aw_seq ?_
  by_cases h1 : n < 0
  ·refine aw_reg [(1, .dec true)] [0, 4] [] [I n, Bv true] [] [n < 0] (by kernel_rfl) hB ⟨h1, trivial⟩ ?_
   refine ae_then ?_
   refine aw_true rfl ?_
   refine aw_seq ?_
   refine aw_reg [] [2] [] [I (-n)] [] [inR .i64 (-n)] (by kernel_rfl) hB ⟨(inR_i64 (by omega) (by omega)), trivial⟩ ?_
   refine ae_then ?_
   refine aw_ret ?_
   refine ae_ret_then ?_
   refine ae_ret hB (I (-n)) (by kernel_rfl) (.inl (by refine congrArg I ?_; omega)) rfl (fun _ => trivial)
  ·refine aw_reg [(1, .dec false)] [0, 4] [] [I n, Bv false] [] [¬ (n < 0)] (by kernel_rfl) hB ⟨h1, trivial⟩ ?_
   refine ae_then ?_
   refine aw_false rfl ?_
   refine aw_skip ?_
   refine ae_then ?_
   refine aw_seq ?_
   refine aw_reg [] [2] [] [I n] [] [] (by kernel_rfl) hB trivial ?_
   refine ae_then ?_
   refine aw_ret ?_
   refine ae_ret hB (I n) (by kernel_rfl) (.inl (by refine congrArg I ?_; omega)) rfl (fun _ => trivial)


-- spec.l05Sector
theorem l05Sector_ok (dx : Int) (dy : Int) (hd : (-4095 ≤ dx ∧ dx ≤ 4095) ∧ -4095 ≤ dy ∧ dy ≤ 4095) : Con Try.prog 176 [I dx, I dy] true (I (dirI dx dy)) := by
  have hx2 := two_sq (x := (dx.natAbs : Int)) (by omega) (by omega)
  have hy2 := two_sq (x := (dy.natAbs : Int)) (by omega) (by omega)
  have hs2 := sq_bd (x := (dx.natAbs : Int) + (dy.natAbs : Int)) (B := 8190) (by omega) (by omega)
  have hz := @dir_zero dx dy
  refine fn_ok (fn := Try.f176) (nt := 54) Try.func176 rfl rfl rfl rfl (by simp [taggedL, tagged]) fun B hB => ?_
  refine aw_seq ?_
  refine aw_reg [] [0, 1] [] [I dx, I dy] [] [] (by kernel_rfl) hB trivial ?_
  refine ae_then ?_
  refine aw_seq ?_
  refine aw_reg [(1, .call [(true, I dx)] true (I (dx.natAbs : Int)))] [0, 1, 5] [] [I dx, I dy, I (dx.natAbs : Int)] [] [Con Try.prog 199 [I dx] true (I (dx.natAbs : Int)) ∧ ((I dx : AV) = I dx) ∧ True] (by kernel_rfl) hB ⟨⟨(l05Size_ok dx (by omega)), rfl, trivial⟩, trivial⟩ ?_
  refine ae_then ?_
  refine aw_seq ?_
  refine aw_reg [(1, .call [(true, I dy)] true (I (dy.natAbs : Int)))] [0, 1, 5, 6] [] [I dx, I dy, I (dx.natAbs : Int), I (dy.natAbs : Int)] [] [Con Try.prog 199 [I dy] true (I (dy.natAbs : Int)) ∧ ((I dy : AV) = I dy) ∧ True] (by kernel_rfl) hB ⟨⟨(l05Size_ok dy (by omega)), rfl, trivial⟩, trivial⟩ ?_
  refine ae_then ?_
  refine aw_seq ?_
  refine aw_reg [] [0, 1, 5, 6, 7] [] [I dx, I dy, I (dx.natAbs : Int), I (dy.natAbs : Int), I (((dx.natAbs : Int) + (dy.natAbs : Int)) * ((dx.natAbs : Int) + (dy.natAbs : Int)))] [] [inR .i64 ((dx.natAbs : Int) + (dy.natAbs : Int)), inR .i64 ((dx.natAbs : Int) + (dy.natAbs : Int)), inR .i64 (((dx.natAbs : Int) + (dy.natAbs : Int)) * ((dx.natAbs : Int) + (dy.natAbs : Int)))] (by kernel_rfl) hB ⟨(inR_i64 (by omega) (by omega)), (inR_i64 (by omega) (by omega)), (inR_i64 (by omega) (by omega)), trivial⟩ ?_
  refine ae_then ?_
  refine aw_seq ?_
  refine aw_block ?_
  refine aw_seq ?_
  by_cases h1 : (((dx.natAbs : Int) + (dy.natAbs : Int)) * ((dx.natAbs : Int) + (dy.natAbs : Int))) ≤ ((2 * (dx.natAbs : Int)) * (dx.natAbs : Int))
  ·refine aw_reg [(5, .dec true)] [0, 1, 6, 7, 19] [] [I dx, I dy, I (dy.natAbs : Int), I (((dx.natAbs : Int) + (dy.natAbs : Int)) * ((dx.natAbs : Int) + (dy.natAbs : Int))), Bv true] [] [inR .i64 (2 * (dx.natAbs : Int)), inR .i64 ((2 * (dx.natAbs : Int)) * (dx.natAbs : Int)), (((dx.natAbs : Int) + (dy.natAbs : Int)) * ((dx.natAbs : Int) + (dy.natAbs : Int))) ≤ ((2 * (dx.natAbs : Int)) * (dx.natAbs : Int))] (by kernel_rfl) hB ⟨(inR_i64 (by omega) (by omega)), (inR_i64 (by omega) (by omega)), h1, trivial⟩ ?_
   refine ae_then ?_
   refine aw_true rfl ?_
   refine aw_seq ?_
   refine aw_seq ?_
   by_cases h2 : 0 < dx
   ·refine aw_reg [(1, .dec true)] [27] [] [Bv true] [] [0 < dx] (by kernel_rfl) hB ⟨h2, trivial⟩ ?_
    refine ae_then ?_
    refine aw_true rfl ?_
    refine aw_seq ?_
    refine aw_reg [] [4] [] [I 0] [] [] (by kernel_rfl) hB trivial ?_
    refine ae_then ?_
    refine aw_ret ?_
    refine ae_ret_then (ae_ret_block (ae_ret_then ?_))
    refine ae_ret hB (I 0) (by kernel_rfl) (.inl (by refine congrArg I ?_; unfold dirI; (repeat' split) <;> first | rfl | omega)) rfl (fun _ => trivial)
   ·refine aw_reg [(1, .dec false)] [27] [] [Bv false] [] [¬ (0 < dx)] (by kernel_rfl) hB ⟨h2, trivial⟩ ?_
    refine ae_then ?_
    refine aw_false rfl ?_
    refine aw_skip ?_
    refine ae_then ?_
    refine aw_seq ?_
    refine aw_reg [] [4] [] [I 4] [] [] (by kernel_rfl) hB trivial ?_
    refine ae_then ?_
    refine aw_ret ?_
    refine ae_ret_block (ae_ret_then ?_)
    refine ae_ret hB (I 4) (by kernel_rfl) (.inl (by refine congrArg I ?_; unfold dirI; (repeat' split) <;> first | rfl | omega)) rfl (fun _ => trivial)
  ·refine aw_reg [(5, .dec false)] [0, 1, 6, 7, 19] [] [I dx, I dy, I (dy.natAbs : Int), I (((dx.natAbs : Int) + (dy.natAbs : Int)) * ((dx.natAbs : Int) + (dy.natAbs : Int))), Bv false] [] [inR .i64 (2 * (dx.natAbs : Int)), inR .i64 ((2 * (dx.natAbs : Int)) * (dx.natAbs : Int)), ¬ ((((dx.natAbs : Int) + (dy.natAbs : Int)) * ((dx.natAbs : Int) + (dy.natAbs : Int))) ≤ ((2 * (dx.natAbs : Int)) * (dx.natAbs : Int)))] (by kernel_rfl) hB ⟨(inR_i64 (by omega) (by omega)), (inR_i64 (by omega) (by omega)), h1, trivial⟩ ?_
   refine ae_then ?_
   refine aw_false rfl ?_
   refine aw_seq ?_
   by_cases h3 : (((dx.natAbs : Int) + (dy.natAbs : Int)) * ((dx.natAbs : Int) + (dy.natAbs : Int))) ≤ ((2 * (dy.natAbs : Int)) * (dy.natAbs : Int))
   ·refine aw_reg [(5, .dec true)] [0, 1, 28] [] [I dx, I dy, Bv true] [] [inR .i64 (2 * (dy.natAbs : Int)), inR .i64 ((2 * (dy.natAbs : Int)) * (dy.natAbs : Int)), (((dx.natAbs : Int) + (dy.natAbs : Int)) * ((dx.natAbs : Int) + (dy.natAbs : Int))) ≤ ((2 * (dy.natAbs : Int)) * (dy.natAbs : Int))] (by kernel_rfl) hB ⟨(inR_i64 (by omega) (by omega)), (inR_i64 (by omega) (by omega)), h3, trivial⟩ ?_
    refine ae_then ?_
    refine aw_true rfl ?_
    refine aw_seq ?_
    refine aw_seq ?_
    by_cases h4 : 0 < dy
    ·refine aw_reg [(1, .dec true)] [36] [] [Bv true] [] [0 < dy] (by kernel_rfl) hB ⟨h4, trivial⟩ ?_
     refine ae_then ?_
     refine aw_true rfl ?_
     refine aw_seq ?_
     refine aw_reg [] [4] [] [I 2] [] [] (by kernel_rfl) hB trivial ?_
     refine ae_then ?_
     refine aw_ret ?_
     refine ae_ret_then (ae_ret_block (ae_ret_then ?_))
     refine ae_ret hB (I 2) (by kernel_rfl) (.inl (by refine congrArg I ?_; unfold dirI; (repeat' split) <;> first | rfl | omega)) rfl (fun _ => trivial)
    ·refine aw_reg [(1, .dec false)] [36] [] [Bv false] [] [¬ (0 < dy)] (by kernel_rfl) hB ⟨h4, trivial⟩ ?_
     refine ae_then ?_
     refine aw_false rfl ?_
     refine aw_skip ?_
     refine ae_then ?_
     refine aw_seq ?_
     refine aw_reg [] [4] [] [I 6] [] [] (by kernel_rfl) hB trivial ?_
     refine ae_then ?_
     refine aw_ret ?_
     refine ae_ret_block (ae_ret_then ?_)
     refine ae_ret hB (I 6) (by kernel_rfl) (.inl (by refine congrArg I ?_; unfold dirI; (repeat' split) <;> first | rfl | omega)) rfl (fun _ => trivial)
   ·refine aw_reg [(5, .dec false)] [0, 1, 28] [] [I dx, I dy, Bv false] [] [inR .i64 (2 * (dy.natAbs : Int)), inR .i64 ((2 * (dy.natAbs : Int)) * (dy.natAbs : Int)), ¬ ((((dx.natAbs : Int) + (dy.natAbs : Int)) * ((dx.natAbs : Int) + (dy.natAbs : Int))) ≤ ((2 * (dy.natAbs : Int)) * (dy.natAbs : Int)))] (by kernel_rfl) hB ⟨(inR_i64 (by omega) (by omega)), (inR_i64 (by omega) (by omega)), h3, trivial⟩ ?_
    refine ae_then ?_
    refine aw_false rfl ?_
    refine aw_seq ?_
    by_cases h5 : 0 < dx
    ·by_cases h6 : 0 < dy
     ·refine aw_reg [(1, .dec true), (4, .dec true)] [0, 1, 37] [] [I dx, I dy, Bv true] [] [0 < dx, 0 < dy] (by kernel_rfl) hB ⟨h5, h6, trivial⟩ ?_
      refine ae_then ?_
      refine aw_true rfl ?_
      refine aw_seq ?_
      refine aw_reg [] [4] [] [I 1] [] [] (by kernel_rfl) hB trivial ?_
      refine ae_then ?_
      refine aw_ret ?_
      refine ae_ret_block (ae_ret_then ?_)
      refine ae_ret hB (I 1) (by kernel_rfl) (.inl (by refine congrArg I ?_; unfold dirI; (repeat' split) <;> first | rfl | omega)) rfl (fun _ => trivial)
     ·refine aw_reg [(1, .dec true), (4, .dec false)] [0, 1, 37] [] [I dx, I dy, Bv false] [] [0 < dx, ¬ (0 < dy)] (by kernel_rfl) hB ⟨h5, h6, trivial⟩ ?_
      refine ae_then ?_
      refine aw_false rfl ?_
      refine aw_seq ?_
      by_cases h7 : dx < 0
      ·refine aw_reg [(1, .dec true), (4, .dec false)] [0, 44] [] [I dx, Bv false] [] [dx < 0, ¬ (0 < dy)] (by kernel_rfl) hB ⟨h7, h6, trivial⟩ ?_
       refine ae_then ?_
       refine aw_false rfl ?_
       refine aw_seq ?_
       refine aw_reg [(1, .dec true)] [51] [] [Bv true] [] [dx < 0] (by kernel_rfl) hB ⟨h7, trivial⟩ ?_
       refine ae_then ?_
       refine aw_true rfl ?_
       refine aw_seq ?_
       refine aw_reg [] [4] [] [I 5] [] [] (by kernel_rfl) hB trivial ?_
       refine ae_then ?_
       refine aw_ret ?_
       refine ae_ret_block (ae_ret_then ?_)
       refine ae_ret hB (I 5) (by kernel_rfl) (.inl (by refine congrArg I ?_; unfold dirI; (repeat' split) <;> first | rfl | omega)) rfl (fun _ => trivial)
      ·refine aw_reg [(1, .dec false)] [0, 44] [] [I dx, Bv false] [] [¬ (dx < 0)] (by kernel_rfl) hB ⟨h7, trivial⟩ ?_
       refine ae_then ?_
       refine aw_false rfl ?_
       refine aw_seq ?_
       refine aw_reg [(1, .dec false)] [51] [] [Bv false] [] [¬ (dx < 0)] (by kernel_rfl) hB ⟨h7, trivial⟩ ?_
       refine ae_then ?_
       refine aw_false rfl ?_
       refine aw_skip ?_
       refine ae_block 0 ?_
       refine ae_then ?_
       refine aw_seq ?_
       refine aw_reg [] [4] [] [I 7] [] [] (by kernel_rfl) hB trivial ?_
       refine ae_then ?_
       refine aw_ret ?_
       refine ae_ret hB (I 7) (by kernel_rfl) (.inl (by refine congrArg I ?_; unfold dirI; (repeat' split) <;> first | rfl | omega)) rfl (fun _ => trivial)
    ·refine aw_reg [(1, .dec false)] [0, 1, 37] [] [I dx, I dy, Bv false] [] [¬ (0 < dx)] (by kernel_rfl) hB ⟨h5, trivial⟩ ?_
     refine ae_then ?_
     refine aw_false rfl ?_
     refine aw_seq ?_
     by_cases h8 : dx < 0
     ·by_cases h9 : 0 < dy
      ·refine aw_reg [(1, .dec true), (4, .dec true)] [0, 44] [] [I dx, Bv true] [] [dx < 0, 0 < dy] (by kernel_rfl) hB ⟨h8, h9, trivial⟩ ?_
       refine ae_then ?_
       refine aw_true rfl ?_
       refine aw_seq ?_
       refine aw_reg [] [4] [] [I 3] [] [] (by kernel_rfl) hB trivial ?_
       refine ae_then ?_
       refine aw_ret ?_
       refine ae_ret_block (ae_ret_then ?_)
       refine ae_ret hB (I 3) (by kernel_rfl) (.inl (by refine congrArg I ?_; unfold dirI; (repeat' split) <;> first | rfl | omega)) rfl (fun _ => trivial)
      ·refine aw_reg [(1, .dec true), (4, .dec false)] [0, 44] [] [I dx, Bv false] [] [dx < 0, ¬ (0 < dy)] (by kernel_rfl) hB ⟨h8, h9, trivial⟩ ?_
       refine ae_then ?_
       refine aw_false rfl ?_
       refine aw_seq ?_
       refine aw_reg [(1, .dec true)] [51] [] [Bv true] [] [dx < 0] (by kernel_rfl) hB ⟨h8, trivial⟩ ?_
       refine ae_then ?_
       refine aw_true rfl ?_
       refine aw_seq ?_
       refine aw_reg [] [4] [] [I 5] [] [] (by kernel_rfl) hB trivial ?_
       refine ae_then ?_
       refine aw_ret ?_
       refine ae_ret_block (ae_ret_then ?_)
       refine ae_ret hB (I 5) (by kernel_rfl) (.inl (by refine congrArg I ?_; unfold dirI; (repeat' split) <;> first | rfl | omega)) rfl (fun _ => trivial)
     ·refine aw_reg [(1, .dec false)] [0, 44] [] [I dx, Bv false] [] [¬ (dx < 0)] (by kernel_rfl) hB ⟨h8, trivial⟩ ?_
      refine ae_then ?_
      refine aw_false rfl ?_
      refine aw_seq ?_
      refine aw_reg [(1, .dec false)] [51] [] [Bv false] [] [¬ (dx < 0)] (by kernel_rfl) hB ⟨h8, trivial⟩ ?_
      refine ae_then ?_
      refine aw_false rfl ?_
      refine aw_skip ?_
      refine ae_block 0 ?_
      refine ae_then ?_
      refine aw_seq ?_
      refine aw_reg [] [4] [] [I 7] [] [] (by kernel_rfl) hB trivial ?_
      refine ae_then ?_
      refine aw_ret ?_
      refine ae_ret hB (I 7) (by kernel_rfl) (.inl (by refine congrArg I ?_; unfold dirI; (repeat' split) <;> first | rfl | omega)) rfl (fun _ => trivial)


-- spec.l07Side
theorem l07Side_ok (b : Box) (hb : okBox b) : Con Try.prog 104 [agBox b] true (I (sideB b)) := by
  unfold okBox at hb
  refine fn_ok (fn := Try.f104) (nt := 15) Try.func104 rfl rfl rfl rfl (by simp [taggedL, tagged]) fun B hB => ?_
  refine aw_seq ?_
  refine aw_reg [(0, .new 1)] [1] [1] [.ref 1 0] [some (bxBox b)] [] (by kernel_rfl) hB trivial ?_
  refine ae_then ?_
  refine aw_seq ?_
  refine aw_reg [(10, .call [(true, I (b.X2 - b.X1)), (true, I (b.Y2 - b.Y1))] true (I (max (b.X2 - b.X1) (b.Y2 - b.Y1)))), (11, .call [(true, I 1), (true, I (max (b.X2 - b.X1) (b.Y2 - b.Y1)))] true (I (max 1 (max (b.X2 - b.X1) (b.Y2 - b.Y1)))))] [2] [] [I (max 1 (max (b.X2 - b.X1) (b.Y2 - b.Y1)))] [] [inR .i64 (b.X2 - b.X1), inR .i64 (b.Y2 - b.Y1), Con Try.prog 79 [I (b.X2 - b.X1), I (b.Y2 - b.Y1)] true (I (max (b.X2 - b.X1) (b.Y2 - b.Y1))) ∧ ((I (b.X2 - b.X1) : AV) = I (b.X2 - b.X1)) ∧ ((I (b.Y2 - b.Y1) : AV) = I (b.Y2 - b.Y1)) ∧ True, Con Try.prog 79 [I 1, I (max (b.X2 - b.X1) (b.Y2 - b.Y1))] true (I (max 1 (max (b.X2 - b.X1) (b.Y2 - b.Y1)))) ∧ ((I 1 : AV) = I 1) ∧ ((I (max (b.X2 - b.X1) (b.Y2 - b.Y1)) : AV) = I (max (b.X2 - b.X1) (b.Y2 - b.Y1))) ∧ True] (by kernel_rfl) hB ⟨(inR_i64 (by omega) (by omega)), (inR_i64 (by omega) (by omega)), ⟨(l00Max_ok (b.X2 - b.X1) (b.Y2 - b.Y1)), rfl, rfl, trivial⟩, ⟨(l00Max_ok 1 (max (b.X2 - b.X1) (b.Y2 - b.Y1))), rfl, rfl, trivial⟩, trivial⟩ ?_
  refine ae_then ?_
  refine aw_ret ?_
  refine ae_ret hB (I (max 1 (max (b.X2 - b.X1) (b.Y2 - b.Y1)))) (by kernel_rfl) (.inl (by refine congrArg I ?_; unfold sideB; omega)) rfl (fun _ => trivial)


-- spec.l07Normal
theorem l07Normal_ok (p : Spot) (b : Box) (hb : okBox b) (hp : (b.X1 ≤ p.X ∧ p.X ≤ b.X2) ∧ b.Y1 ≤ p.Y ∧ p.Y ≤ b.Y2) : Con Try.prog 177 [.agg [I p.X, I p.Y], agBox b] true (.agg [I ((normP p b).X), I ((normP p b).Y)]) := by
  have hb0 := hb
  have hs := side_bd hb
  unfold okBox at hb
  have hqx := quo255 (w := b.X2 - b.X1) (d := sideB b) (by omega) (by omega) (by omega)
  have hqy := quo255 (w := b.Y2 - b.Y1) (d := sideB b) (by omega) (by omega) (by omega)
  have hnx := norm1 (x := p.X - b.X1) (w := b.X2 - b.X1) (d := sideB b) (by omega) (by omega) (by omega)
  have hny := norm1 (x := p.Y - b.Y1) (w := b.Y2 - b.Y1) (d := sideB b) (by omega) (by omega) (by omega)
  refine fn_ok (fn := Try.f177) (nt := 51) Try.func177 rfl rfl rfl rfl (by simp [taggedL, tagged]) fun B hB => ?_
  refine aw_seq ?_
  refine aw_reg [(0, .new 2), (1, .new 3), (2, .new 4)] [2, 3, 4] [2, 3, 4] [.ref 2 0, .ref 3 0, .ref 4 0] [some (.box [I p.X, I p.Y]), some (bxBox b), some (.box [I 0, I 0])] [] (by kernel_rfl) hB trivial ?_
  refine ae_then ?_
  refine aw_seq ?_
  refine aw_reg [(1, .call [(true, agBox b)] true (I (sideB b)))] [2, 3, 4, 5] [2, 3, 4] [.ref 2 0, .ref 3 0, .ref 4 0, I (sideB b)] [some (.box [I p.X, I p.Y]), some (bxBox b), some (.box [I 0, I 0])] [Con Try.prog 104 [agBox b] true (I (sideB b)) ∧ ((agBox b : AV) = agBox b) ∧ True] (by kernel_rfl) hB ⟨⟨(l07Side_ok b hb0), rfl, trivial⟩, trivial⟩ ?_
  refine ae_then ?_
  refine aw_seq ?_
  refine aw_reg [(7, .nn), (9, .nn)] [2, 3, 4, 5, 6] [2, 3, 4] [.ref 2 0, .ref 3 0, .ref 4 0, I (sideB b), I ((255 - (((b.X2 - b.X1) * 255) / (sideB b))) / 2)] [some (.box [I p.X, I p.Y]), some (bxBox b), some (.box [I 0, I 0])] [inR .i64 (b.X2 - b.X1), inR .i64 ((b.X2 - b.X1) * 255), (0 : Int) ≤ ((b.X2 - b.X1) * 255) ∧ (0 : Int) < (sideB b) ∧ inR .i64 ((b.X2 - b.X1) * 255), inR .i64 (255 - (((b.X2 - b.X1) * 255) / (sideB b))), (0 : Int) ≤ (255 - (((b.X2 - b.X1) * 255) / (sideB b))) ∧ (0 : Int) < 2 ∧ inR .i64 (255 - (((b.X2 - b.X1) * 255) / (sideB b)))] (by kernel_rfl) hB ⟨(inR_i64 (by omega) (by omega)), (inR_i64 (by omega) (by omega)), ⟨(by omega), (by omega), (inR_i64 (by omega) (by omega))⟩, (inR_i64 (by omega) (by omega)), ⟨(by omega), (by omega), (inR_i64 (by omega) (by omega))⟩, trivial⟩ ?_
  refine ae_then ?_
  refine aw_seq ?_
  refine aw_reg [(7, .nn), (9, .nn)] [2, 3, 4, 5, 6, 7] [2, 3, 4] [.ref 2 0, .ref 3 0, .ref 4 0, I (sideB b), I ((255 - (((b.X2 - b.X1) * 255) / (sideB b))) / 2), I ((255 - (((b.Y2 - b.Y1) * 255) / (sideB b))) / 2)] [some (.box [I p.X, I p.Y]), some (bxBox b), some (.box [I 0, I 0])] [inR .i64 (b.Y2 - b.Y1), inR .i64 ((b.Y2 - b.Y1) * 255), (0 : Int) ≤ ((b.Y2 - b.Y1) * 255) ∧ (0 : Int) < (sideB b) ∧ inR .i64 ((b.Y2 - b.Y1) * 255), inR .i64 (255 - (((b.Y2 - b.Y1) * 255) / (sideB b))), (0 : Int) ≤ (255 - (((b.Y2 - b.Y1) * 255) / (sideB b))) ∧ (0 : Int) < 2 ∧ inR .i64 (255 - (((b.Y2 - b.Y1) * 255) / (sideB b)))] (by kernel_rfl) hB ⟨(inR_i64 (by omega) (by omega)), (inR_i64 (by omega) (by omega)), ⟨(by omega), (by omega), (inR_i64 (by omega) (by omega))⟩, (inR_i64 (by omega) (by omega)), ⟨(by omega), (by omega), (inR_i64 (by omega) (by omega))⟩, trivial⟩ ?_
  refine ae_then ?_
  refine aw_seq ?_
  refine aw_reg [(8, .call [(true, I ((p.X - b.X1) * 255)), (true, I (sideB b))] true (I (nearI ((p.X - b.X1) * 255) (sideB b)))), (18, .call [(true, I ((p.Y - b.Y1) * 255)), (true, I (sideB b))] true (I (nearI ((p.Y - b.Y1) * 255) (sideB b))))] [4] [4] [.ref 4 0] [some (.box [I (((255 - (((b.X2 - b.X1) * 255) / (sideB b))) / 2) + (nearI ((p.X - b.X1) * 255) (sideB b))), I (((255 - (((b.Y2 - b.Y1) * 255) / (sideB b))) / 2) + (nearI ((p.Y - b.Y1) * 255) (sideB b)))])] [inR .i64 (p.X - b.X1), inR .i64 ((p.X - b.X1) * 255), Con Try.prog 106 [I ((p.X - b.X1) * 255), I (sideB b)] true (I (nearI ((p.X - b.X1) * 255) (sideB b))) ∧ ((I ((p.X - b.X1) * 255) : AV) = I ((p.X - b.X1) * 255)) ∧ ((I (sideB b) : AV) = I (sideB b)) ∧ True, inR .i64 (((255 - (((b.X2 - b.X1) * 255) / (sideB b))) / 2) + (nearI ((p.X - b.X1) * 255) (sideB b))), inR .i64 (p.Y - b.Y1), inR .i64 ((p.Y - b.Y1) * 255), Con Try.prog 106 [I ((p.Y - b.Y1) * 255), I (sideB b)] true (I (nearI ((p.Y - b.Y1) * 255) (sideB b))) ∧ ((I ((p.Y - b.Y1) * 255) : AV) = I ((p.Y - b.Y1) * 255)) ∧ ((I (sideB b) : AV) = I (sideB b)) ∧ True, inR .i64 (((255 - (((b.Y2 - b.Y1) * 255) / (sideB b))) / 2) + (nearI ((p.Y - b.Y1) * 255) (sideB b)))] (by kernel_rfl) hB ⟨(inR_i64 (by omega) (by omega)), (inR_i64 (by omega) (by omega)), ⟨(l05Near_ok ((p.X - b.X1) * 255) (sideB b) (by omega)), rfl, rfl, trivial⟩, (inR_i64 (by omega) (by omega)), (inR_i64 (by omega) (by omega)), (inR_i64 (by omega) (by omega)), ⟨(l05Near_ok ((p.Y - b.Y1) * 255) (sideB b) (by omega)), rfl, rfl, trivial⟩, (inR_i64 (by omega) (by omega)), trivial⟩ ?_
  refine ae_then ?_
  refine aw_ret ?_
  refine ae_ret hB (.agg [I (((255 - (((b.X2 - b.X1) * 255) / (sideB b))) / 2) + (nearI ((p.X - b.X1) * 255) (sideB b))), I (((255 - (((b.Y2 - b.Y1) * 255) / (sideB b))) / 2) + (nearI ((p.Y - b.Y1) * 255) (sideB b)))]) (by kernel_rfl) (.inl (by rfl)) rfl (fun _ => (by simp [tagged, taggedL]))


-- spec.l08Stroke
theorem l08Stroke_ok (s : Stroke) (n : Int) (b : Box) (ok : okStroke' s = true) (hn : 2 ≤ n ∧ n ≤ 24) (hb : okBox b ∧ inBox (strB s) b) : Con Try.prog 127 [.ptr false [slPoint false s.Points], I n, agBox b] true (slFeat true (featQ s n b)) := by
  have hrl := resQ_len s n
  have hbb := hb.1
  unfold okBox at hbb
  refine fn_ok (fn := Try.f127) (nt := 78) Try.func127 rfl rfl rfl rfl (by simp [taggedL, tagged, tagPoint]) fun B hB => ?_
  refine aw_lens (x := .ptr false [slPoint false s.Points]) 0 rfl (fun len_s => ?_)
  simp [LenOK, LenL, cPoint, fPoint, slPoint] at len_s
  refine aw_seq ?_
  refine aw_reg [(0, .new 5)] [0, 1, 5] [5] [.ptr false [slPoint false s.Points], I n, .ref 5 0] [some (bxBox b)] [] (by kernel_rfl) hB trivial ?_
  refine ae_then ?_
  refine aw_seq ?_
  refine aw_reg [(2, .call [(true, .ptr false [slPoint false s.Points]), (true, I n)] true (slSpot true (resQ s n)))] [5, 7] [5] [.ref 5 0, slSpot true (resQ s n)] [some (bxBox b)] [Con Try.prog 175 [.ptr false [slPoint false s.Points], I n] true (slSpot true (resQ s n)) ∧ ((.ptr false [slPoint false s.Points] : AV) = .ptr false [slPoint false s.Points]) ∧ ((I n : AV) = I n) ∧ True] (by kernel_rfl) hB ⟨⟨(l06Resample_ok s n ok (by omega)), rfl, rfl, trivial⟩, trivial⟩ ?_
  refine ae_then ?_
  refine aw_seq ?_
  refine aw_reg [(0, .new 17)] [5, 7, 8] [5, 17] [.ref 5 0, slSpot true (resQ s n), .arr 17] [some (bxBox b), some (.arr 3 0 (litF [] 3))] [] (by kernel_rfl) hB trivial ?_
  refine ae_then ?_
  refine aw_seq ?_
  refine aw_reg [] [5, 7, 8, 9] [5, 17] [.ref 5 0, slSpot true (resQ s n), .arr 17, I 0] [some (bxBox b), some (.arr 3 0 (litF [] 3))] [] (by kernel_rfl) hB trivial ?_
  refine ae_then ?_
  refine aw_seq ?_
  refine aw_seq ?_
  refine aw_reg [] [5, 7, 8, 9, 10] [5, 17] [.ref 5 0, slSpot true (resQ s n), .arr 17, I 0, I 0] [some (bxBox b), some (.arr 3 0 (litF [] 3))] [] (by kernel_rfl) hB trivial ?_
  refine ae_then ?_
  refine aw_block ?_
  refine aw_weak hB [] (T := [(5, .ref 5 0), (7, slSpot true (resQ s n)), (8, .arr 17), (9, I 0), (10, I 0)]) (O := [(5, bxBox b), (17, .arr 3 (([] : List Feat).length) (fFeat ([] : List Feat)))]) rfl (⟨.inl rfl, .inl rfl, .inl rfl, .inl rfl, .inl rfl, trivial⟩) (⟨.inl rfl, .inr ⟨rfl, (by first | rfl | (simp; done) | (simp; omega) | omega), fun i hi => absurd hi (Nat.not_lt_zero _)⟩, trivial⟩) ?_
  refine aw_loop (fun gn gσ => ∃ (out : List Feat) (d : Int) (k : Int), gn = (((resQ s n).length : Int) - k).toNat ∧ (0 ≤ k ∧ k ≤ ((resQ s n).length : Int)) ∧ ((out.length : Int) = k) ∧ (out = featK (resQ s n) b k.toNat) ∧ (d = dirQ (resQ s n) k.toNat ∧ 0 ≤ d ∧ d ≤ 7) ∧ gσ = mkS [(5, .ref 5 0), (7, slSpot true (resQ s n)), (8, .arr 17), (9, I d), (10, I k)] [(5, bxBox b), (17, .arr 3 out.length (fFeat out))]) ((((resQ s n).length : Int) - 0).toNat) ⟨([] : List Feat), 0, 0, rfl, (by omega), (by rfl), (by rfl), (by exact ⟨rfl, by omega⟩), rfl⟩ (fun gn gσ hI => ?_)
  obtain ⟨out, d, k, rfl, hk0, hll, hl0, hd0, rfl⟩ := hI
  refine aw_seq ?_
  refine aw_seq ?_
  by_cases h1 : k < (((resQ s n).length) : Int)
  ·have hk : k.toNat < (resQ s n).length := by omega
   have hbk := resQ_box ok hn.1 hb.2 hk
   refine aw_reg [(3, .dec true)] [5, 7, 8, 9, 10, 21] [5, 17] [.ref 5 0, slSpot true (resQ s n), .arr 17, I d, I k, Bv true] [some (bxBox b), some (.arr 3 out.length (fFeat out))] [k < (((resQ s n).length) : Int)] (by kernel_rfl) hB ⟨h1, trivial⟩ ?_
   refine ae_then ?_
   refine aw_true rfl ?_
   refine aw_skip ?_
   refine ae_then ?_
   refine aw_seq ?_
   refine aw_block ?_
   refine aw_seq ?_
   refine aw_seq ?_
   by_cases h2 : (k + 1) < (((resQ s n).length) : Int)
   ·have hbk1 := resQ_box ok hn.1 hb.2 (j := (k + 1).toNat) (by omega)
    refine aw_reg [(4, .dec true)] [5, 7, 8, 9, 10, 28] [5, 17] [.ref 5 0, slSpot true (resQ s n), .arr 17, I d, I k, Bv true] [some (bxBox b), some (.arr 3 out.length (fFeat out))] [inR .i64 (k + 1), (k + 1) < (((resQ s n).length) : Int)] (by kernel_rfl) hB ⟨(inR_i64 (by omega) (by omega)), h2, trivial⟩ ?_
    refine ae_then ?_
    refine aw_true rfl ?_
    refine aw_seq ?_
    refine aw_reg [] [5, 7, 8, 9, 10, 11] [5, 17] [.ref 5 0, slSpot true (resQ s n), .arr 17, I d, I k, I (((at_ (resQ s n) ((k + 1).toNat)).X) - ((at_ (resQ s n) k.toNat).X))] [some (bxBox b), some (.arr 3 out.length (fFeat out))] [inR .i64 (k + 1), (0 : Int) ≤ (k + 1) ∧ (k + 1) < (((resQ s n).length) : Int), (0 : Int) ≤ k ∧ k < (((resQ s n).length) : Int), inR .i64 (((at_ (resQ s n) ((k + 1).toNat)).X) - ((at_ (resQ s n) k.toNat).X))] (by kernel_rfl) hB ⟨(inR_i64 (by omega) (by omega)), ⟨(by omega), (by omega)⟩, ⟨(by omega), (by omega)⟩, (inR_i64 (by omega) (by omega)), trivial⟩ ?_
    refine ae_then ?_
    refine aw_seq ?_
    refine aw_reg [] [5, 7, 8, 9, 10, 11, 12] [5, 17] [.ref 5 0, slSpot true (resQ s n), .arr 17, I d, I k, I (((at_ (resQ s n) ((k + 1).toNat)).X) - ((at_ (resQ s n) k.toNat).X)), I (((at_ (resQ s n) ((k + 1).toNat)).Y) - ((at_ (resQ s n) k.toNat).Y))] [some (bxBox b), some (.arr 3 out.length (fFeat out))] [inR .i64 (k + 1), (0 : Int) ≤ (k + 1) ∧ (k + 1) < (((resQ s n).length) : Int), (0 : Int) ≤ k ∧ k < (((resQ s n).length) : Int), inR .i64 (((at_ (resQ s n) ((k + 1).toNat)).Y) - ((at_ (resQ s n) k.toNat).Y))] (by kernel_rfl) hB ⟨(inR_i64 (by omega) (by omega)), ⟨(by omega), (by omega)⟩, ⟨(by omega), (by omega)⟩, (inR_i64 (by omega) (by omega)), trivial⟩ ?_
    refine ae_then ?_
    refine aw_seq ?_
    by_cases h3 : (((at_ (resQ s n) ((k + 1).toNat)).X) - ((at_ (resQ s n) k.toNat).X)) = 0
    ·by_cases h4 : (((at_ (resQ s n) ((k + 1).toNat)).Y) - ((at_ (resQ s n) k.toNat).Y)) = 0
     ·have hdq := (dirQ_no (l := (resQ s n)) (k := k) (by omega) (fun q => q.2 ⟨h3, h4⟩)).trans hd0.1.symm
      refine aw_reg [(1, .dec false), (4, .dec false)] [5, 7, 8, 9, 10, 11, 12, 58] [5, 17] [.ref 5 0, slSpot true (resQ s n), .arr 17, I d, I k, I (((at_ (resQ s n) ((k + 1).toNat)).X) - ((at_ (resQ s n) k.toNat).X)), I (((at_ (resQ s n) ((k + 1).toNat)).Y) - ((at_ (resQ s n) k.toNat).Y)), Bv false] [some (bxBox b), some (.arr 3 out.length (fFeat out))] [¬ ((((at_ (resQ s n) ((k + 1).toNat)).X) - ((at_ (resQ s n) k.toNat).X)) ≠ 0), ¬ ((((at_ (resQ s n) ((k + 1).toNat)).Y) - ((at_ (resQ s n) k.toNat).Y)) ≠ 0)] (by kernel_rfl) hB ⟨(fun hq => hq h3), (fun hq => hq h4), trivial⟩ ?_
      refine ae_then ?_
      refine aw_false rfl ?_
      refine aw_skip ?_
      refine ae_then ?_
      refine aw_seq ?_
      refine aw_reg [(5, .call [(true, .agg [I ((at_ (resQ s n) k.toNat).X), I ((at_ (resQ s n) k.toNat).Y)]), (true, agBox b)] true (.agg [I ((normP (at_ (resQ s n) k.toNat) b).X), I ((normP (at_ (resQ s n) k.toNat) b).Y)])), (6, .new 13)] [5, 7, 8, 9, 10, 13] [5, 13, 17] [.ref 5 0, slSpot true (resQ s n), .arr 17, I d, I k, .ref 13 0] [some (bxBox b), some (.box [I ((normP (at_ (resQ s n) k.toNat) b).X), I ((normP (at_ (resQ s n) k.toNat) b).Y)]), some (.arr 3 out.length (fFeat out))] [(0 : Int) ≤ k ∧ k < (((resQ s n).length) : Int), Con Try.prog 177 [.agg [I ((at_ (resQ s n) k.toNat).X), I ((at_ (resQ s n) k.toNat).Y)], agBox b] true (.agg [I ((normP (at_ (resQ s n) k.toNat) b).X), I ((normP (at_ (resQ s n) k.toNat) b).Y)]) ∧ ((.agg [I ((at_ (resQ s n) k.toNat).X), I ((at_ (resQ s n) k.toNat).Y)] : AV) = .agg [I ((at_ (resQ s n) k.toNat).X), I ((at_ (resQ s n) k.toNat).Y)]) ∧ ((agBox b : AV) = agBox b) ∧ True] (by kernel_rfl) hB ⟨⟨(by omega), (by omega)⟩, ⟨(l07Normal_ok (at_ (resQ s n) k.toNat) b hb.1 (by omega)), rfl, rfl, trivial⟩, trivial⟩ ?_
      refine ae_then ?_
      refine aw_reg [(7, .new 75), (8, .new 76)] [5, 7, 8, 9, 10] [5, 76] [.ref 5 0, slSpot true (resQ s n), .arr 76, I d, I k] [some (bxBox b), some (.arr 3 (out.length + 1) (catF out.length (fFeat out) (litF [I ((normP (at_ (resQ s n) k.toNat) b).X), I ((normP (at_ (resQ s n) k.toNat) b).Y), I d] 3)))] [(out.length + 1) * 24 ≤ 140737488355328] (by kernel_rfl) hB ⟨(by omega), trivial⟩ ?_
      refine ae_block 1 ?_
      refine ae_then ?_
      refine aw_reg [] [5, 7, 8, 9, 10] [5, 76] [.ref 5 0, slSpot true (resQ s n), .arr 76, I d, I (k + 1)] [some (bxBox b), some (.arr 3 (out.length + 1) (catF out.length (fFeat out) (litF [I ((normP (at_ (resQ s n) k.toNat) b).X), I ((normP (at_ (resQ s n) k.toNat) b).Y), I d] 3)))] [inR .i64 (k + 1)] (by kernel_rfl) hB ⟨(inR_i64 (by omega) (by omega)), trivial⟩ ?_
      refine ae_weak hB [(17, 76)] (T := [(5, .ref 5 0), (7, slSpot true (resQ s n)), (8, .arr 17), (9, I d), (10, I (k + 1))]) (O := [(5, bxBox b), (17, .arr 3 ((out ++ [(Feat.mk ((normP (at_ (resQ s n) k.toNat) b).X) ((normP (at_ (resQ s n) k.toNat) b).Y) d)]).length) (fFeat (out ++ [(Feat.mk ((normP (at_ (resQ s n) k.toNat) b).X) ((normP (at_ (resQ s n) k.toNat) b).Y) d)])))]) rfl (⟨.inl rfl, .inl rfl, .inl rfl, .inl rfl, .inl rfl, trivial⟩) (⟨.inl rfl, .inr ⟨rfl, (by first | rfl | (simp; done) | (simp; omega) | omega), fun i hi => .inl (cat_snoc (enc := cFeat) (xs := out) rfl i hi)⟩, trivial⟩) (ae_again _ (by omega) ⟨(out ++ [(Feat.mk ((normP (at_ (resQ s n) k.toNat) b).X) ((normP (at_ (resQ s n) k.toNat) b).Y) d)]), d, (k + 1), rfl, (by omega), (by simp; omega), (by rw [featK_succ (by omega), ← hl0, hdq]), (by have hdb := dirQ_bd (resQ s n) (k + 1).toNat; rw [hdq] at hdb; exact ⟨hdq.symm, hdb⟩), rfl⟩)
     ·have hdq := dirQ_yes (l := (resQ s n)) (k := k) (by omega) (by omega) (fun q => h4 q.2)
      refine aw_reg [(1, .dec false), (4, .dec true)] [5, 7, 8, 9, 10, 11, 12, 58] [5, 17] [.ref 5 0, slSpot true (resQ s n), .arr 17, I d, I k, I (((at_ (resQ s n) ((k + 1).toNat)).X) - ((at_ (resQ s n) k.toNat).X)), I (((at_ (resQ s n) ((k + 1).toNat)).Y) - ((at_ (resQ s n) k.toNat).Y)), Bv true] [some (bxBox b), some (.arr 3 out.length (fFeat out))] [¬ ((((at_ (resQ s n) ((k + 1).toNat)).X) - ((at_ (resQ s n) k.toNat).X)) ≠ 0), (((at_ (resQ s n) ((k + 1).toNat)).Y) - ((at_ (resQ s n) k.toNat).Y)) ≠ 0] (by kernel_rfl) hB ⟨(fun hq => hq h3), h4, trivial⟩ ?_
      refine ae_then ?_
      refine aw_true rfl ?_
      refine aw_reg [(2, .call [(true, I (((at_ (resQ s n) ((k + 1).toNat)).X) - ((at_ (resQ s n) k.toNat).X))), (true, I (((at_ (resQ s n) ((k + 1).toNat)).Y) - ((at_ (resQ s n) k.toNat).Y)))] true (I (dirI (((at_ (resQ s n) ((k + 1).toNat)).X) - ((at_ (resQ s n) k.toNat).X)) (((at_ (resQ s n) ((k + 1).toNat)).Y) - ((at_ (resQ s n) k.toNat).Y)))))] [5, 7, 8, 9, 10] [5, 17] [.ref 5 0, slSpot true (resQ s n), .arr 17, I (dirI (((at_ (resQ s n) ((k + 1).toNat)).X) - ((at_ (resQ s n) k.toNat).X)) (((at_ (resQ s n) ((k + 1).toNat)).Y) - ((at_ (resQ s n) k.toNat).Y))), I k] [some (bxBox b), some (.arr 3 out.length (fFeat out))] [Con Try.prog 176 [I (((at_ (resQ s n) ((k + 1).toNat)).X) - ((at_ (resQ s n) k.toNat).X)), I (((at_ (resQ s n) ((k + 1).toNat)).Y) - ((at_ (resQ s n) k.toNat).Y))] true (I (dirI (((at_ (resQ s n) ((k + 1).toNat)).X) - ((at_ (resQ s n) k.toNat).X)) (((at_ (resQ s n) ((k + 1).toNat)).Y) - ((at_ (resQ s n) k.toNat).Y)))) ∧ ((I (((at_ (resQ s n) ((k + 1).toNat)).X) - ((at_ (resQ s n) k.toNat).X)) : AV) = I (((at_ (resQ s n) ((k + 1).toNat)).X) - ((at_ (resQ s n) k.toNat).X))) ∧ ((I (((at_ (resQ s n) ((k + 1).toNat)).Y) - ((at_ (resQ s n) k.toNat).Y)) : AV) = I (((at_ (resQ s n) ((k + 1).toNat)).Y) - ((at_ (resQ s n) k.toNat).Y))) ∧ True] (by kernel_rfl) hB ⟨⟨(l05Sector_ok (((at_ (resQ s n) ((k + 1).toNat)).X) - ((at_ (resQ s n) k.toNat).X)) (((at_ (resQ s n) ((k + 1).toNat)).Y) - ((at_ (resQ s n) k.toNat).Y)) (by omega)), rfl, rfl, trivial⟩, trivial⟩ ?_
      refine ae_then ?_
      refine aw_seq ?_
      refine aw_reg [(5, .call [(true, .agg [I ((at_ (resQ s n) k.toNat).X), I ((at_ (resQ s n) k.toNat).Y)]), (true, agBox b)] true (.agg [I ((normP (at_ (resQ s n) k.toNat) b).X), I ((normP (at_ (resQ s n) k.toNat) b).Y)])), (6, .new 13)] [5, 7, 8, 9, 10, 13] [5, 13, 17] [.ref 5 0, slSpot true (resQ s n), .arr 17, I (dirI (((at_ (resQ s n) ((k + 1).toNat)).X) - ((at_ (resQ s n) k.toNat).X)) (((at_ (resQ s n) ((k + 1).toNat)).Y) - ((at_ (resQ s n) k.toNat).Y))), I k, .ref 13 0] [some (bxBox b), some (.box [I ((normP (at_ (resQ s n) k.toNat) b).X), I ((normP (at_ (resQ s n) k.toNat) b).Y)]), some (.arr 3 out.length (fFeat out))] [(0 : Int) ≤ k ∧ k < (((resQ s n).length) : Int), Con Try.prog 177 [.agg [I ((at_ (resQ s n) k.toNat).X), I ((at_ (resQ s n) k.toNat).Y)], agBox b] true (.agg [I ((normP (at_ (resQ s n) k.toNat) b).X), I ((normP (at_ (resQ s n) k.toNat) b).Y)]) ∧ ((.agg [I ((at_ (resQ s n) k.toNat).X), I ((at_ (resQ s n) k.toNat).Y)] : AV) = .agg [I ((at_ (resQ s n) k.toNat).X), I ((at_ (resQ s n) k.toNat).Y)]) ∧ ((agBox b : AV) = agBox b) ∧ True] (by kernel_rfl) hB ⟨⟨(by omega), (by omega)⟩, ⟨(l07Normal_ok (at_ (resQ s n) k.toNat) b hb.1 (by omega)), rfl, rfl, trivial⟩, trivial⟩ ?_
      refine ae_then ?_
      refine aw_reg [(7, .new 75), (8, .new 76)] [5, 7, 8, 9, 10] [5, 76] [.ref 5 0, slSpot true (resQ s n), .arr 76, I (dirI (((at_ (resQ s n) ((k + 1).toNat)).X) - ((at_ (resQ s n) k.toNat).X)) (((at_ (resQ s n) ((k + 1).toNat)).Y) - ((at_ (resQ s n) k.toNat).Y))), I k] [some (bxBox b), some (.arr 3 (out.length + 1) (catF out.length (fFeat out) (litF [I ((normP (at_ (resQ s n) k.toNat) b).X), I ((normP (at_ (resQ s n) k.toNat) b).Y), I (dirI (((at_ (resQ s n) ((k + 1).toNat)).X) - ((at_ (resQ s n) k.toNat).X)) (((at_ (resQ s n) ((k + 1).toNat)).Y) - ((at_ (resQ s n) k.toNat).Y)))] 3)))] [(out.length + 1) * 24 ≤ 140737488355328] (by kernel_rfl) hB ⟨(by omega), trivial⟩ ?_
      refine ae_block 1 ?_
      refine ae_then ?_
      refine aw_reg [] [5, 7, 8, 9, 10] [5, 76] [.ref 5 0, slSpot true (resQ s n), .arr 76, I (dirI (((at_ (resQ s n) ((k + 1).toNat)).X) - ((at_ (resQ s n) k.toNat).X)) (((at_ (resQ s n) ((k + 1).toNat)).Y) - ((at_ (resQ s n) k.toNat).Y))), I (k + 1)] [some (bxBox b), some (.arr 3 (out.length + 1) (catF out.length (fFeat out) (litF [I ((normP (at_ (resQ s n) k.toNat) b).X), I ((normP (at_ (resQ s n) k.toNat) b).Y), I (dirI (((at_ (resQ s n) ((k + 1).toNat)).X) - ((at_ (resQ s n) k.toNat).X)) (((at_ (resQ s n) ((k + 1).toNat)).Y) - ((at_ (resQ s n) k.toNat).Y)))] 3)))] [inR .i64 (k + 1)] (by kernel_rfl) hB ⟨(inR_i64 (by omega) (by omega)), trivial⟩ ?_
      refine ae_weak hB [(17, 76)] (T := [(5, .ref 5 0), (7, slSpot true (resQ s n)), (8, .arr 17), (9, I (dirI (((at_ (resQ s n) ((k + 1).toNat)).X) - ((at_ (resQ s n) k.toNat).X)) (((at_ (resQ s n) ((k + 1).toNat)).Y) - ((at_ (resQ s n) k.toNat).Y)))), (10, I (k + 1))]) (O := [(5, bxBox b), (17, .arr 3 ((out ++ [(Feat.mk ((normP (at_ (resQ s n) k.toNat) b).X) ((normP (at_ (resQ s n) k.toNat) b).Y) (dirI (((at_ (resQ s n) ((k + 1).toNat)).X) - ((at_ (resQ s n) k.toNat).X)) (((at_ (resQ s n) ((k + 1).toNat)).Y) - ((at_ (resQ s n) k.toNat).Y))))]).length) (fFeat (out ++ [(Feat.mk ((normP (at_ (resQ s n) k.toNat) b).X) ((normP (at_ (resQ s n) k.toNat) b).Y) (dirI (((at_ (resQ s n) ((k + 1).toNat)).X) - ((at_ (resQ s n) k.toNat).X)) (((at_ (resQ s n) ((k + 1).toNat)).Y) - ((at_ (resQ s n) k.toNat).Y))))])))]) rfl (⟨.inl rfl, .inl rfl, .inl rfl, .inl rfl, .inl rfl, trivial⟩) (⟨.inl rfl, .inr ⟨rfl, (by first | rfl | (simp; done) | (simp; omega) | omega), fun i hi => .inl (cat_snoc (enc := cFeat) (xs := out) rfl i hi)⟩, trivial⟩) (ae_again _ (by omega) ⟨(out ++ [(Feat.mk ((normP (at_ (resQ s n) k.toNat) b).X) ((normP (at_ (resQ s n) k.toNat) b).Y) (dirI (((at_ (resQ s n) ((k + 1).toNat)).X) - ((at_ (resQ s n) k.toNat).X)) (((at_ (resQ s n) ((k + 1).toNat)).Y) - ((at_ (resQ s n) k.toNat).Y))))]), (dirI (((at_ (resQ s n) ((k + 1).toNat)).X) - ((at_ (resQ s n) k.toNat).X)) (((at_ (resQ s n) ((k + 1).toNat)).Y) - ((at_ (resQ s n) k.toNat).Y))), (k + 1), rfl, (by omega), (by simp; omega), (by rw [featK_succ (by omega), ← hl0, hdq]), (by have hdb := dirQ_bd (resQ s n) (k + 1).toNat; rw [hdq] at hdb; exact ⟨hdq.symm, hdb⟩), rfl⟩)
    ·have hdq := dirQ_yes (l := (resQ s n)) (k := k) (by omega) (by omega) (fun q => h3 q.1)
     refine aw_reg [(1, .dec true)] [5, 7, 8, 9, 10, 11, 12, 58] [5, 17] [.ref 5 0, slSpot true (resQ s n), .arr 17, I d, I k, I (((at_ (resQ s n) ((k + 1).toNat)).X) - ((at_ (resQ s n) k.toNat).X)), I (((at_ (resQ s n) ((k + 1).toNat)).Y) - ((at_ (resQ s n) k.toNat).Y)), Bv true] [some (bxBox b), some (.arr 3 out.length (fFeat out))] [(((at_ (resQ s n) ((k + 1).toNat)).X) - ((at_ (resQ s n) k.toNat).X)) ≠ 0] (by kernel_rfl) hB ⟨h3, trivial⟩ ?_
     refine ae_then ?_
     refine aw_true rfl ?_
     refine aw_reg [(2, .call [(true, I (((at_ (resQ s n) ((k + 1).toNat)).X) - ((at_ (resQ s n) k.toNat).X))), (true, I (((at_ (resQ s n) ((k + 1).toNat)).Y) - ((at_ (resQ s n) k.toNat).Y)))] true (I (dirI (((at_ (resQ s n) ((k + 1).toNat)).X) - ((at_ (resQ s n) k.toNat).X)) (((at_ (resQ s n) ((k + 1).toNat)).Y) - ((at_ (resQ s n) k.toNat).Y)))))] [5, 7, 8, 9, 10] [5, 17] [.ref 5 0, slSpot true (resQ s n), .arr 17, I (dirI (((at_ (resQ s n) ((k + 1).toNat)).X) - ((at_ (resQ s n) k.toNat).X)) (((at_ (resQ s n) ((k + 1).toNat)).Y) - ((at_ (resQ s n) k.toNat).Y))), I k] [some (bxBox b), some (.arr 3 out.length (fFeat out))] [Con Try.prog 176 [I (((at_ (resQ s n) ((k + 1).toNat)).X) - ((at_ (resQ s n) k.toNat).X)), I (((at_ (resQ s n) ((k + 1).toNat)).Y) - ((at_ (resQ s n) k.toNat).Y))] true (I (dirI (((at_ (resQ s n) ((k + 1).toNat)).X) - ((at_ (resQ s n) k.toNat).X)) (((at_ (resQ s n) ((k + 1).toNat)).Y) - ((at_ (resQ s n) k.toNat).Y)))) ∧ ((I (((at_ (resQ s n) ((k + 1).toNat)).X) - ((at_ (resQ s n) k.toNat).X)) : AV) = I (((at_ (resQ s n) ((k + 1).toNat)).X) - ((at_ (resQ s n) k.toNat).X))) ∧ ((I (((at_ (resQ s n) ((k + 1).toNat)).Y) - ((at_ (resQ s n) k.toNat).Y)) : AV) = I (((at_ (resQ s n) ((k + 1).toNat)).Y) - ((at_ (resQ s n) k.toNat).Y))) ∧ True] (by kernel_rfl) hB ⟨⟨(l05Sector_ok (((at_ (resQ s n) ((k + 1).toNat)).X) - ((at_ (resQ s n) k.toNat).X)) (((at_ (resQ s n) ((k + 1).toNat)).Y) - ((at_ (resQ s n) k.toNat).Y)) (by omega)), rfl, rfl, trivial⟩, trivial⟩ ?_
     refine ae_then ?_
     refine aw_seq ?_
     refine aw_reg [(5, .call [(true, .agg [I ((at_ (resQ s n) k.toNat).X), I ((at_ (resQ s n) k.toNat).Y)]), (true, agBox b)] true (.agg [I ((normP (at_ (resQ s n) k.toNat) b).X), I ((normP (at_ (resQ s n) k.toNat) b).Y)])), (6, .new 13)] [5, 7, 8, 9, 10, 13] [5, 13, 17] [.ref 5 0, slSpot true (resQ s n), .arr 17, I (dirI (((at_ (resQ s n) ((k + 1).toNat)).X) - ((at_ (resQ s n) k.toNat).X)) (((at_ (resQ s n) ((k + 1).toNat)).Y) - ((at_ (resQ s n) k.toNat).Y))), I k, .ref 13 0] [some (bxBox b), some (.box [I ((normP (at_ (resQ s n) k.toNat) b).X), I ((normP (at_ (resQ s n) k.toNat) b).Y)]), some (.arr 3 out.length (fFeat out))] [(0 : Int) ≤ k ∧ k < (((resQ s n).length) : Int), Con Try.prog 177 [.agg [I ((at_ (resQ s n) k.toNat).X), I ((at_ (resQ s n) k.toNat).Y)], agBox b] true (.agg [I ((normP (at_ (resQ s n) k.toNat) b).X), I ((normP (at_ (resQ s n) k.toNat) b).Y)]) ∧ ((.agg [I ((at_ (resQ s n) k.toNat).X), I ((at_ (resQ s n) k.toNat).Y)] : AV) = .agg [I ((at_ (resQ s n) k.toNat).X), I ((at_ (resQ s n) k.toNat).Y)]) ∧ ((agBox b : AV) = agBox b) ∧ True] (by kernel_rfl) hB ⟨⟨(by omega), (by omega)⟩, ⟨(l07Normal_ok (at_ (resQ s n) k.toNat) b hb.1 (by omega)), rfl, rfl, trivial⟩, trivial⟩ ?_
     refine ae_then ?_
     refine aw_reg [(7, .new 75), (8, .new 76)] [5, 7, 8, 9, 10] [5, 76] [.ref 5 0, slSpot true (resQ s n), .arr 76, I (dirI (((at_ (resQ s n) ((k + 1).toNat)).X) - ((at_ (resQ s n) k.toNat).X)) (((at_ (resQ s n) ((k + 1).toNat)).Y) - ((at_ (resQ s n) k.toNat).Y))), I k] [some (bxBox b), some (.arr 3 (out.length + 1) (catF out.length (fFeat out) (litF [I ((normP (at_ (resQ s n) k.toNat) b).X), I ((normP (at_ (resQ s n) k.toNat) b).Y), I (dirI (((at_ (resQ s n) ((k + 1).toNat)).X) - ((at_ (resQ s n) k.toNat).X)) (((at_ (resQ s n) ((k + 1).toNat)).Y) - ((at_ (resQ s n) k.toNat).Y)))] 3)))] [(out.length + 1) * 24 ≤ 140737488355328] (by kernel_rfl) hB ⟨(by omega), trivial⟩ ?_
     refine ae_block 1 ?_
     refine ae_then ?_
     refine aw_reg [] [5, 7, 8, 9, 10] [5, 76] [.ref 5 0, slSpot true (resQ s n), .arr 76, I (dirI (((at_ (resQ s n) ((k + 1).toNat)).X) - ((at_ (resQ s n) k.toNat).X)) (((at_ (resQ s n) ((k + 1).toNat)).Y) - ((at_ (resQ s n) k.toNat).Y))), I (k + 1)] [some (bxBox b), some (.arr 3 (out.length + 1) (catF out.length (fFeat out) (litF [I ((normP (at_ (resQ s n) k.toNat) b).X), I ((normP (at_ (resQ s n) k.toNat) b).Y), I (dirI (((at_ (resQ s n) ((k + 1).toNat)).X) - ((at_ (resQ s n) k.toNat).X)) (((at_ (resQ s n) ((k + 1).toNat)).Y) - ((at_ (resQ s n) k.toNat).Y)))] 3)))] [inR .i64 (k + 1)] (by kernel_rfl) hB ⟨(inR_i64 (by omega) (by omega)), trivial⟩ ?_
     refine ae_weak hB [(17, 76)] (T := [(5, .ref 5 0), (7, slSpot true (resQ s n)), (8, .arr 17), (9, I (dirI (((at_ (resQ s n) ((k + 1).toNat)).X) - ((at_ (resQ s n) k.toNat).X)) (((at_ (resQ s n) ((k + 1).toNat)).Y) - ((at_ (resQ s n) k.toNat).Y)))), (10, I (k + 1))]) (O := [(5, bxBox b), (17, .arr 3 ((out ++ [(Feat.mk ((normP (at_ (resQ s n) k.toNat) b).X) ((normP (at_ (resQ s n) k.toNat) b).Y) (dirI (((at_ (resQ s n) ((k + 1).toNat)).X) - ((at_ (resQ s n) k.toNat).X)) (((at_ (resQ s n) ((k + 1).toNat)).Y) - ((at_ (resQ s n) k.toNat).Y))))]).length) (fFeat (out ++ [(Feat.mk ((normP (at_ (resQ s n) k.toNat) b).X) ((normP (at_ (resQ s n) k.toNat) b).Y) (dirI (((at_ (resQ s n) ((k + 1).toNat)).X) - ((at_ (resQ s n) k.toNat).X)) (((at_ (resQ s n) ((k + 1).toNat)).Y) - ((at_ (resQ s n) k.toNat).Y))))])))]) rfl (⟨.inl rfl, .inl rfl, .inl rfl, .inl rfl, .inl rfl, trivial⟩) (⟨.inl rfl, .inr ⟨rfl, (by first | rfl | (simp; done) | (simp; omega) | omega), fun i hi => .inl (cat_snoc (enc := cFeat) (xs := out) rfl i hi)⟩, trivial⟩) (ae_again _ (by omega) ⟨(out ++ [(Feat.mk ((normP (at_ (resQ s n) k.toNat) b).X) ((normP (at_ (resQ s n) k.toNat) b).Y) (dirI (((at_ (resQ s n) ((k + 1).toNat)).X) - ((at_ (resQ s n) k.toNat).X)) (((at_ (resQ s n) ((k + 1).toNat)).Y) - ((at_ (resQ s n) k.toNat).Y))))]), (dirI (((at_ (resQ s n) ((k + 1).toNat)).X) - ((at_ (resQ s n) k.toNat).X)) (((at_ (resQ s n) ((k + 1).toNat)).Y) - ((at_ (resQ s n) k.toNat).Y))), (k + 1), rfl, (by omega), (by simp; omega), (by rw [featK_succ (by omega), ← hl0, hdq]), (by have hdb := dirQ_bd (resQ s n) (k + 1).toNat; rw [hdq] at hdb; exact ⟨hdq.symm, hdb⟩), rfl⟩)
   ·have hdq := (dirQ_no (l := (resQ s n)) (k := k) (by omega) (fun q => by omega)).trans hd0.1.symm
    refine aw_reg [(4, .dec false)] [5, 7, 8, 9, 10, 28] [5, 17] [.ref 5 0, slSpot true (resQ s n), .arr 17, I d, I k, Bv false] [some (bxBox b), some (.arr 3 out.length (fFeat out))] [inR .i64 (k + 1), ¬ ((k + 1) < (((resQ s n).length) : Int))] (by kernel_rfl) hB ⟨(inR_i64 (by omega) (by omega)), h2, trivial⟩ ?_
    refine ae_then ?_
    refine aw_false rfl ?_
    refine aw_skip ?_
    refine ae_then ?_
    refine aw_seq ?_
    refine aw_reg [(5, .call [(true, .agg [I ((at_ (resQ s n) k.toNat).X), I ((at_ (resQ s n) k.toNat).Y)]), (true, agBox b)] true (.agg [I ((normP (at_ (resQ s n) k.toNat) b).X), I ((normP (at_ (resQ s n) k.toNat) b).Y)])), (6, .new 13)] [5, 7, 8, 9, 10, 13] [5, 13, 17] [.ref 5 0, slSpot true (resQ s n), .arr 17, I d, I k, .ref 13 0] [some (bxBox b), some (.box [I ((normP (at_ (resQ s n) k.toNat) b).X), I ((normP (at_ (resQ s n) k.toNat) b).Y)]), some (.arr 3 out.length (fFeat out))] [(0 : Int) ≤ k ∧ k < (((resQ s n).length) : Int), Con Try.prog 177 [.agg [I ((at_ (resQ s n) k.toNat).X), I ((at_ (resQ s n) k.toNat).Y)], agBox b] true (.agg [I ((normP (at_ (resQ s n) k.toNat) b).X), I ((normP (at_ (resQ s n) k.toNat) b).Y)]) ∧ ((.agg [I ((at_ (resQ s n) k.toNat).X), I ((at_ (resQ s n) k.toNat).Y)] : AV) = .agg [I ((at_ (resQ s n) k.toNat).X), I ((at_ (resQ s n) k.toNat).Y)]) ∧ ((agBox b : AV) = agBox b) ∧ True] (by kernel_rfl) hB ⟨⟨(by omega), (by omega)⟩, ⟨(l07Normal_ok (at_ (resQ s n) k.toNat) b hb.1 (by omega)), rfl, rfl, trivial⟩, trivial⟩ ?_
    refine ae_then ?_
    refine aw_reg [(7, .new 75), (8, .new 76)] [5, 7, 8, 9, 10] [5, 76] [.ref 5 0, slSpot true (resQ s n), .arr 76, I d, I k] [some (bxBox b), some (.arr 3 (out.length + 1) (catF out.length (fFeat out) (litF [I ((normP (at_ (resQ s n) k.toNat) b).X), I ((normP (at_ (resQ s n) k.toNat) b).Y), I d] 3)))] [(out.length + 1) * 24 ≤ 140737488355328] (by kernel_rfl) hB ⟨(by omega), trivial⟩ ?_
    refine ae_block 1 ?_
    refine ae_then ?_
    refine aw_reg [] [5, 7, 8, 9, 10] [5, 76] [.ref 5 0, slSpot true (resQ s n), .arr 76, I d, I (k + 1)] [some (bxBox b), some (.arr 3 (out.length + 1) (catF out.length (fFeat out) (litF [I ((normP (at_ (resQ s n) k.toNat) b).X), I ((normP (at_ (resQ s n) k.toNat) b).Y), I d] 3)))] [inR .i64 (k + 1)] (by kernel_rfl) hB ⟨(inR_i64 (by omega) (by omega)), trivial⟩ ?_
    refine ae_weak hB [(17, 76)] (T := [(5, .ref 5 0), (7, slSpot true (resQ s n)), (8, .arr 17), (9, I d), (10, I (k + 1))]) (O := [(5, bxBox b), (17, .arr 3 ((out ++ [(Feat.mk ((normP (at_ (resQ s n) k.toNat) b).X) ((normP (at_ (resQ s n) k.toNat) b).Y) d)]).length) (fFeat (out ++ [(Feat.mk ((normP (at_ (resQ s n) k.toNat) b).X) ((normP (at_ (resQ s n) k.toNat) b).Y) d)])))]) rfl (⟨.inl rfl, .inl rfl, .inl rfl, .inl rfl, .inl rfl, trivial⟩) (⟨.inl rfl, .inr ⟨rfl, (by first | rfl | (simp; done) | (simp; omega) | omega), fun i hi => .inl (cat_snoc (enc := cFeat) (xs := out) rfl i hi)⟩, trivial⟩) (ae_again _ (by omega) ⟨(out ++ [(Feat.mk ((normP (at_ (resQ s n) k.toNat) b).X) ((normP (at_ (resQ s n) k.toNat) b).Y) d)]), d, (k + 1), rfl, (by omega), (by simp; omega), (by rw [featK_succ (by omega), ← hl0, hdq]), (by have hdb := dirQ_bd (resQ s n) (k + 1).toNat; rw [hdq] at hdb; exact ⟨hdq.symm, hdb⟩), rfl⟩)
  ·have hke : k.toNat = (resQ s n).length := by omega
   rw [hke] at hl0
   have hl1 : out = featQ s n b := hl0
   clear hl0
   subst hl1
   refine aw_reg [(3, .dec false)] [5, 7, 8, 9, 10, 21] [5, 17] [.ref 5 0, slSpot true (resQ s n), .arr 17, I d, I k, Bv false] [some (bxBox b), some (.arr 3 ((featQ s n b).length) (fFeat (featQ s n b)))] [¬ (k < (((resQ s n).length) : Int))] (by kernel_rfl) hB ⟨h1, trivial⟩ ?_
   refine ae_then ?_
   refine aw_false rfl ?_
   refine aw_exit ?_
   refine ae_exit_then ?_
   refine ae_exit_then ?_
   refine ae_exit_same ?_
   refine ae_then ?_
   refine aw_seq ?_
   refine aw_reg [] [6] [17] [.arr 17] [some (.arr 3 ((featQ s n b).length) (fFeat (featQ s n b)))] [] (by kernel_rfl) hB trivial ?_
   refine ae_then ?_
   refine aw_ret ?_
   refine ae_ret hB (.arr 17) (by kernel_rfl) (.inr ⟨(fun _ => rfl), rfl, rfl, fun i _ => .inl rfl⟩) rfl (fun _ => (tagFeat true _))


-- spec.l08Of
theorem l08Of_ok (ik : Ink) (n : Int) (ok : okInk' ik = true) (hn : 2 ≤ n ∧ n ≤ 24) (h0 : 1 ≤ ik.Strokes.length) : Con Try.prog 58 [.ptr false [slStroke false ik.Strokes], I n] true (slFeat true (feA ik n)) := by
  have hil := okI_len ok
  refine fn_ok (fn := Try.f58) (nt := 32) Try.func58 rfl rfl rfl rfl (by simp [taggedL, tagged, tagStroke]) fun B hB => ?_
  refine aw_lens (x := .ptr false [slStroke false ik.Strokes]) 0 rfl (fun len_ik => ?_)
  simp [LenOK, LenL, cPoint, cStroke, fPoint, fStroke, slPoint, slStroke] at len_ik
  refine aw_seq ?_
  refine aw_reg [] [0, 1] [] [.ptr false [slStroke false ik.Strokes], I n] [] [] (by kernel_rfl) hB trivial ?_
  refine ae_then ?_
  refine aw_seq ?_
  refine aw_reg [(1, .call [(true, .ptr false [slStroke false ik.Strokes])] true (agBox (inkB ik.Strokes ik.Strokes.length))), (2, .new 5)] [0, 1, 5] [5] [.ptr false [slStroke false ik.Strokes], I n, .ref 5 0] [some (bxBox (inkB ik.Strokes ik.Strokes.length))] [Con Try.prog 103 [.ptr false [slStroke false ik.Strokes]] true (agBox (inkB ik.Strokes ik.Strokes.length)) ∧ ((.ptr false [slStroke false ik.Strokes] : AV) = .ptr false [slStroke false ik.Strokes]) ∧ True] (by kernel_rfl) hB ⟨⟨(l02All_ok ik ok (by omega)), rfl, trivial⟩, trivial⟩ ?_
  refine ae_then ?_
  refine aw_seq ?_
  refine aw_reg [(0, .new 10)] [0, 1, 5, 6] [5, 10] [.ptr false [slStroke false ik.Strokes], I n, .ref 5 0, .arr 10] [some (bxBox (inkB ik.Strokes ik.Strokes.length)), some (.arr 3 0 (litF [] 3))] [] (by kernel_rfl) hB trivial ?_
  refine ae_then ?_
  refine aw_seq ?_
  refine aw_seq ?_
  refine aw_reg [] [0, 1, 5, 6, 7] [5, 10] [.ptr false [slStroke false ik.Strokes], I n, .ref 5 0, .arr 10, I 0] [some (bxBox (inkB ik.Strokes ik.Strokes.length)), some (.arr 3 0 (litF [] 3))] [] (by kernel_rfl) hB trivial ?_
  refine ae_then ?_
  refine aw_block ?_
  refine aw_weak hB [] (T := [(0, .ptr false [slStroke false ik.Strokes]), (1, I n), (5, .ref 5 0), (6, .arr 10), (7, I 0)]) (O := [(5, bxBox (inkB ik.Strokes ik.Strokes.length)), (10, .arr 3 (([] : List Feat).length) (fFeat ([] : List Feat)))]) rfl (⟨.inl rfl, .inl rfl, .inl rfl, .inl rfl, .inl rfl, trivial⟩) (⟨.inl rfl, .inr ⟨rfl, (by first | rfl | (simp; done) | (simp; omega) | omega), fun i hi => absurd hi (Nat.not_lt_zero _)⟩, trivial⟩) ?_
  refine aw_loop (fun gn gσ => ∃ (out : List Feat) (i : Int), gn = ((ik.Strokes.length : Int) - i).toNat ∧ (0 ≤ i ∧ i ≤ (ik.Strokes.length : Int)) ∧ ((out.length : Int) ≤ 24 * i) ∧ (out = featI ik.Strokes n (inkB ik.Strokes ik.Strokes.length) i.toNat) ∧ gσ = mkS [(0, .ptr false [slStroke false ik.Strokes]), (1, I n), (5, .ref 5 0), (6, .arr 10), (7, I i)] [(5, bxBox (inkB ik.Strokes ik.Strokes.length)), (10, .arr 3 out.length (fFeat out))]) (((ik.Strokes.length : Int) - 0).toNat) ⟨([] : List Feat), 0, rfl, (by omega), (by simp), (by rfl), rfl⟩ (fun gn gσ hI => ?_)
  obtain ⟨out, i, rfl, hi0, hll, hl0, rfl⟩ := hI
  refine aw_seq ?_
  refine aw_seq ?_
  by_cases h1 : i < (ik.Strokes.length : Int)
  ·have hi : i.toNat < ik.Strokes.length := by omega
   have hfl := featQ_len (at_ ik.Strokes i.toNat) n (inkB ik.Strokes ik.Strokes.length)
   have hfb : okBox (inkB ik.Strokes ik.Strokes.length) ∧ inBox (strB (at_ ik.Strokes i.toNat)) (inkB ik.Strokes ik.Strokes.length) := ⟨inkB_ok ok (by omega) _ (Nat.le_refl _), inkB_has _ _ _ hi⟩
   refine aw_reg [(6, .dec true)] [0, 1, 5, 6, 7, 17] [5, 10] [.ptr false [slStroke false ik.Strokes], I n, .ref 5 0, .arr 10, I i, Bv true] [some (bxBox (inkB ik.Strokes ik.Strokes.length)), some (.arr 3 out.length (fFeat out))] [i < (ik.Strokes.length : Int)] (by kernel_rfl) hB ⟨h1, trivial⟩ ?_
   refine ae_then ?_
   refine aw_true rfl ?_
   refine aw_skip ?_
   refine ae_then ?_
   refine aw_seq ?_
   refine aw_block ?_
   refine aw_reg [(9, .call [(true, .ptr false [slPoint false ((at_ ik.Strokes i.toNat).Points)]), (true, I n), (true, agBox (inkB ik.Strokes ik.Strokes.length))] true (slFeat true (featQ (at_ ik.Strokes i.toNat) n (inkB ik.Strokes ik.Strokes.length)))), (10, .new 30)] [0, 1, 5, 6, 7] [5, 30] [.ptr false [slStroke false ik.Strokes], I n, .ref 5 0, .arr 30, I i] [some (bxBox (inkB ik.Strokes ik.Strokes.length)), some (.arr 3 (out.length + ((featQ (at_ ik.Strokes i.toNat) n (inkB ik.Strokes ik.Strokes.length)).length)) (catF out.length (fFeat out) (fFeat (featQ (at_ ik.Strokes i.toNat) n (inkB ik.Strokes ik.Strokes.length)))))] [(0 : Int) ≤ i ∧ i < (ik.Strokes.length : Int), Con Try.prog 127 [.ptr false [slPoint false ((at_ ik.Strokes i.toNat).Points)], I n, agBox (inkB ik.Strokes ik.Strokes.length)] true (slFeat true (featQ (at_ ik.Strokes i.toNat) n (inkB ik.Strokes ik.Strokes.length))) ∧ ((.ptr false [slPoint false ((at_ ik.Strokes i.toNat).Points)] : AV) = .ptr false [slPoint false ((at_ ik.Strokes i.toNat).Points)]) ∧ ((I n : AV) = I n) ∧ ((agBox (inkB ik.Strokes ik.Strokes.length) : AV) = agBox (inkB ik.Strokes ik.Strokes.length)) ∧ True, (out.length + ((featQ (at_ ik.Strokes i.toNat) n (inkB ik.Strokes ik.Strokes.length)).length)) * 24 ≤ 140737488355328] (by kernel_rfl) hB ⟨⟨(by omega), (by omega)⟩, ⟨(l08Stroke_ok (at_ ik.Strokes i.toNat) n (inkB ik.Strokes ik.Strokes.length) (okI_all ok _ hi) (by omega) hfb), rfl, rfl, rfl, trivial⟩, (by omega), trivial⟩ ?_
   refine ae_block 1 ?_
   refine ae_then ?_
   refine aw_reg [] [0, 1, 5, 6, 7] [5, 30] [.ptr false [slStroke false ik.Strokes], I n, .ref 5 0, .arr 30, I (i + 1)] [some (bxBox (inkB ik.Strokes ik.Strokes.length)), some (.arr 3 (out.length + ((featQ (at_ ik.Strokes i.toNat) n (inkB ik.Strokes ik.Strokes.length)).length)) (catF out.length (fFeat out) (fFeat (featQ (at_ ik.Strokes i.toNat) n (inkB ik.Strokes ik.Strokes.length)))))] [inR .i64 (i + 1)] (by kernel_rfl) hB ⟨(inR_i64 (by omega) (by omega)), trivial⟩ ?_
   refine ae_weak hB [(10, 30)] (T := [(0, .ptr false [slStroke false ik.Strokes]), (1, I n), (5, .ref 5 0), (6, .arr 10), (7, I (i + 1))]) (O := [(5, bxBox (inkB ik.Strokes ik.Strokes.length)), (10, .arr 3 ((out ++ (featQ (at_ ik.Strokes i.toNat) n (inkB ik.Strokes ik.Strokes.length))).length) (fFeat (out ++ (featQ (at_ ik.Strokes i.toNat) n (inkB ik.Strokes ik.Strokes.length)))))]) rfl (⟨.inl rfl, .inl rfl, .inl rfl, .inl rfl, .inl rfl, trivial⟩) (⟨.inl rfl, .inr ⟨rfl, (by first | rfl | (simp; done) | (simp; omega) | omega), fun i hi => .inl (cat_app (enc := cFeat) (xs := out) i hi)⟩, trivial⟩) (ae_again _ (by omega) ⟨(out ++ (featQ (at_ ik.Strokes i.toNat) n (inkB ik.Strokes ik.Strokes.length))), (i + 1), rfl, (by omega), (by rw [List.length_append, hfl]; omega), (by rw [featI_succ (by omega), ← hl0]), rfl⟩)
  ·have hie : i.toNat = ik.Strokes.length := by omega
   rw [hie] at hl0
   have hl1 : out = feA ik n := hl0
   clear hl0
   subst hl1
   refine aw_reg [(6, .dec false)] [0, 1, 5, 6, 7, 17] [5, 10] [.ptr false [slStroke false ik.Strokes], I n, .ref 5 0, .arr 10, I i, Bv false] [some (bxBox (inkB ik.Strokes ik.Strokes.length)), some (.arr 3 ((feA ik n).length) (fFeat (feA ik n)))] [¬ (i < (ik.Strokes.length : Int))] (by kernel_rfl) hB ⟨h1, trivial⟩ ?_
   refine ae_then ?_
   refine aw_false rfl ?_
   refine aw_exit ?_
   refine ae_exit_then ?_
   refine ae_exit_then ?_
   refine ae_exit_same ?_
   refine ae_then ?_
   refine aw_seq ?_
   refine aw_reg [] [4] [10] [.arr 10] [some (.arr 3 ((feA ik n).length) (fFeat (feA ik n)))] [] (by kernel_rfl) hB trivial ?_
   refine ae_then ?_
   refine aw_ret ?_
   refine ae_ret hB (.arr 10) (by kernel_rfl) (.inr ⟨(fun _ => rfl), rfl, rfl, fun i _ => .inl rfl⟩) rfl (fun _ => (tagFeat true _))


-- spec.FeatsOf
theorem specFeatsOf_ok (ik : Ink) (n : Int) : Con Try.prog 10 [.agg [slStroke false ik.Strokes], I n] true (.tup [slFeat true ((feR ik n).1), I ((feR ik n).2)]) := by
  refine fn_ok (fn := Try.f10) (nt := 17) Try.func10 rfl rfl rfl rfl (by simp [taggedL, tagged, tagStroke]) fun B hB => ?_
  refine aw_lens (x := .agg [slStroke false ik.Strokes]) 0 rfl (fun len_ik => ?_)
  simp [LenOK, LenL, cPoint, cStroke, fPoint, fStroke, slPoint, slStroke] at len_ik
  refine aw_seq ?_
  refine aw_reg [(0, .new 2)] [1, 2] [2] [I n, .ref 2 0] [some (.box [slStroke false ik.Strokes])] [] (by kernel_rfl) hB trivial ?_
  refine ae_then ?_
  refine aw_seq ?_
  refine aw_seq ?_
  rcases Bool.eq_false_or_eq_true (okInk' ik) with h1 | h1
  ·have hil := okI_len h1
   refine aw_reg [(0, .call [(false, .ptr false [slStroke false ik.Strokes])] true (Bv true))] [1, 2, 7] [2] [I n, .ref 2 0, Bv false] [some (.box [slStroke false ik.Strokes])] [Con Try.prog 56 [.ptr false [slStroke false ik.Strokes]] true (Bv true) ∧ ((false = true → true = true) ∧ AV.idsL [slStroke false ik.Strokes] = [] ∧ ((false = true → false = true) ∧ 1 = 1 ∧ ik.Strokes.length = ik.Strokes.length ∧ ∀ i, i < ik.Strokes.length → (fStroke false ik.Strokes) i = (fStroke false ik.Strokes) i ∨ (AV.idsL ((fStroke false ik.Strokes) i) = [] ∧ leL (fun _ => none) false ((fStroke false ik.Strokes) i) ((fStroke false ik.Strokes) i))) ∧ ([] : List AV) = []) ∧ True] (by kernel_rfl) hB ⟨⟨(con_bool h1 (l02Ok_ok ik)), ⟨(fun h => by cases h), rfl, ⟨⟨(fun h => by cases h), rfl, rfl, fun i _ => .inl rfl⟩, rfl⟩⟩, trivial⟩, trivial⟩ ?_
   refine ae_then ?_
   refine aw_false rfl ?_
   refine aw_skip ?_
   refine ae_then ?_
   refine aw_seq ?_
   refine aw_seq ?_
   rcases Bool.eq_false_or_eq_true (inB n 2 24) with h2 | h2
   ·have hq2 := inB_iff.1 h2
    refine aw_reg [(1, .call [(true, I n), (true, I 2), (true, I 24)] true (Bv true))] [1, 2, 10] [2] [I n, .ref 2 0, Bv false] [some (.box [slStroke false ik.Strokes])] [Con Try.prog 57 [I n, I 2, I 24] true (Bv true) ∧ ((I n : AV) = I n) ∧ ((I 2 : AV) = I 2) ∧ ((I 24 : AV) = I 24) ∧ True] (by kernel_rfl) hB ⟨⟨(con_bool h2 (l00In_ok n 2 24)), rfl, rfl, rfl, trivial⟩, trivial⟩ ?_
    refine ae_then ?_
    refine aw_false rfl ?_
    refine aw_skip ?_
    refine ae_then ?_
    refine aw_seq ?_
    refine aw_seq ?_
    by_cases h3 : (ik.Strokes.length : Int) = 0
    ·rw [feR_st h1 h2 h3]
     refine aw_reg [(3, .dec true)] [1, 2, 14] [2] [I n, .ref 2 0, Bv true] [some (.box [slStroke false ik.Strokes])] [(ik.Strokes.length : Int) = 0] (by kernel_rfl) hB ⟨h3, trivial⟩ ?_
     refine ae_then ?_
     refine aw_true rfl ?_
     refine aw_seq ?_
     refine aw_reg [] [4, 5] [] [nilA, I 6] [] [] (by kernel_rfl) hB trivial ?_
     refine ae_then ?_
     refine aw_ret ?_
     refine ae_ret_then ?_
     refine ae_ret hB (.tup [nilA, I 6]) (by kernel_rfl) (.inr ⟨⟨(by simp), rfl⟩, ⟨(by first | rfl | (simp [valOf]; done) | (simp [valOf]; omega)), rfl⟩⟩) rfl (fun _ => (by simp [tagged, taggedL, tagFeat]))
    ·rw [feR_yes h1 h2 h3]
     refine aw_reg [(3, .dec false)] [1, 2, 14] [2] [I n, .ref 2 0, Bv false] [some (.box [slStroke false ik.Strokes])] [¬ ((ik.Strokes.length : Int) = 0)] (by kernel_rfl) hB ⟨h3, trivial⟩ ?_
     refine ae_then ?_
     refine aw_false rfl ?_
     refine aw_skip ?_
     refine ae_then ?_
     refine aw_seq ?_
     refine aw_reg [(1, .call [(false, .ptr false [slStroke false ik.Strokes]), (true, I n)] true (slFeat true (feA ik n)))] [4, 5] [] [slFeat true (feA ik n), I 0] [] [Con Try.prog 58 [.ptr false [slStroke false ik.Strokes], I n] true (slFeat true (feA ik n)) ∧ ((false = true → true = true) ∧ AV.idsL [slStroke false ik.Strokes] = [] ∧ ((false = true → false = true) ∧ 1 = 1 ∧ ik.Strokes.length = ik.Strokes.length ∧ ∀ i, i < ik.Strokes.length → (fStroke false ik.Strokes) i = (fStroke false ik.Strokes) i ∨ (AV.idsL ((fStroke false ik.Strokes) i) = [] ∧ leL (fun _ => none) false ((fStroke false ik.Strokes) i) ((fStroke false ik.Strokes) i))) ∧ ([] : List AV) = []) ∧ ((I n : AV) = I n) ∧ True] (by kernel_rfl) hB ⟨⟨(l08Of_ok ik n h1 (by omega) (by omega)), ⟨(fun h => by cases h), rfl, ⟨⟨(fun h => by cases h), rfl, rfl, fun i _ => .inl rfl⟩, rfl⟩⟩, rfl, trivial⟩, trivial⟩ ?_
     refine ae_then ?_
     refine aw_ret ?_
     refine ae_ret hB (.tup [slFeat true (feA ik n), I 0]) (by kernel_rfl) (.inr ⟨⟨(fun _ => rfl), rfl, (by first | rfl | (simp; done) | (simp; omega) | omega), fun i hi => .inl (by first | rfl | fail)⟩, ⟨(by first | rfl | (simp [valOf]; done) | (simp [valOf]; omega)), rfl⟩⟩) rfl (fun _ => (by simp [tagged, taggedL, tagFeat]))
   ·rw [feR_rng h1 h2]
    refine aw_reg [(1, .call [(true, I n), (true, I 2), (true, I 24)] true (Bv false))] [1, 2, 10] [2] [I n, .ref 2 0, Bv true] [some (.box [slStroke false ik.Strokes])] [Con Try.prog 57 [I n, I 2, I 24] true (Bv false) ∧ ((I n : AV) = I n) ∧ ((I 2 : AV) = I 2) ∧ ((I 24 : AV) = I 24) ∧ True] (by kernel_rfl) hB ⟨⟨(con_bool h2 (l00In_ok n 2 24)), rfl, rfl, rfl, trivial⟩, trivial⟩ ?_
    refine ae_then ?_
    refine aw_true rfl ?_
    refine aw_seq ?_
    refine aw_reg [] [4, 5] [] [nilA, I 2] [] [] (by kernel_rfl) hB trivial ?_
    refine ae_then ?_
    refine aw_ret ?_
    refine ae_ret_then ?_
    refine ae_ret hB (.tup [nilA, I 2]) (by kernel_rfl) (.inr ⟨⟨(by simp), rfl⟩, ⟨(by first | rfl | (simp [valOf]; done) | (simp [valOf]; omega)), rfl⟩⟩) rfl (fun _ => (by simp [tagged, taggedL, tagFeat]))
  ·rw [feR_inv h1]
   refine aw_reg [(0, .call [(false, .ptr false [slStroke false ik.Strokes])] true (Bv false))] [1, 2, 7] [2] [I n, .ref 2 0, Bv true] [some (.box [slStroke false ik.Strokes])] [Con Try.prog 56 [.ptr false [slStroke false ik.Strokes]] true (Bv false) ∧ ((false = true → true = true) ∧ AV.idsL [slStroke false ik.Strokes] = [] ∧ ((false = true → false = true) ∧ 1 = 1 ∧ ik.Strokes.length = ik.Strokes.length ∧ ∀ i, i < ik.Strokes.length → (fStroke false ik.Strokes) i = (fStroke false ik.Strokes) i ∨ (AV.idsL ((fStroke false ik.Strokes) i) = [] ∧ leL (fun _ => none) false ((fStroke false ik.Strokes) i) ((fStroke false ik.Strokes) i))) ∧ ([] : List AV) = []) ∧ True] (by kernel_rfl) hB ⟨⟨(con_bool h1 (l02Ok_ok ik)), ⟨(fun h => by cases h), rfl, ⟨⟨(fun h => by cases h), rfl, rfl, fun i _ => .inl rfl⟩, rfl⟩⟩, trivial⟩, trivial⟩ ?_
   refine ae_then ?_
   refine aw_true rfl ?_
   refine aw_seq ?_
   refine aw_reg [] [4, 5] [] [nilA, I 1] [] [] (by kernel_rfl) hB trivial ?_
   refine ae_then ?_
   refine aw_ret ?_
   refine ae_ret_then ?_
   refine ae_ret hB (.tup [nilA, I 1]) (by kernel_rfl) (.inr ⟨⟨(by simp), rfl⟩, ⟨(by first | rfl | (simp [valOf]; done) | (simp [valOf]; omega)), rfl⟩⟩) rfl (fun _ => (by simp [tagged, taggedL, tagFeat]))


theorem feat_ext {a b : Feat} (h1 : a.X = b.X) (h2 : a.Y = b.Y) (h3 : a.D = b.D) : a = b := by
  cases a; cases b; simp_all

-- spec.l08Same
theorem l08Same_ok (a : List Feat) (b : List Feat) : Con Try.prog 59 [slFeat false a, slFeat false b] true (Bv (sameL a b)) := by
  refine fn_ok (fn := Try.f59) (nt := 26) Try.func59 rfl rfl rfl rfl (by simp [taggedL, tagged, tagFeat]) fun B hB => ?_
  refine aw_lens (x := slFeat false a) 0 rfl (fun len_a => ?_)
  simp [LenOK, LenL, cFeat, fFeat, slFeat] at len_a
  refine aw_lens (x := slFeat false b) 1 rfl (fun len_b => ?_)
  simp [LenOK, LenL, cFeat, fFeat, slFeat] at len_b
  refine aw_seq ?_
  refine aw_reg [] [0, 1] [] [slFeat false a, slFeat false b] [] [] (by kernel_rfl) hB trivial ?_
  refine ae_then ?_
  refine aw_seq ?_
  refine aw_seq ?_
  by_cases h1 : (a.length : Int) = (b.length : Int)
  ·have hlen : a.length = b.length := by omega
   refine aw_reg [(4, .dec false)] [0, 1, 10] [] [slFeat false a, slFeat false b, Bv false] [] [¬ ((a.length : Int) ≠ (b.length : Int))] (by kernel_rfl) hB ⟨(fun hq => hq h1), trivial⟩ ?_
   refine ae_then ?_
   refine aw_false rfl ?_
   refine aw_skip ?_
   refine ae_then ?_
   refine aw_seq ?_
   refine aw_seq ?_
   refine aw_reg [] [0, 1, 5] [] [slFeat false a, slFeat false b, I 0] [] [] (by kernel_rfl) hB trivial ?_
   refine ae_then ?_
   refine aw_block ?_
   refine aw_loop (fun gn gσ => ∃ (i : Int), gn = ((a.length : Int) - i).toNat ∧ (0 ≤ i ∧ i ≤ (a.length : Int)) ∧ (∀ j : Nat, (j : Int) < i → decide (at_ a j = at_ b j) = true) ∧ gσ = mkS [(0, slFeat false a), (1, slFeat false b), (5, I i)] []) (((a.length : Int) - 0).toNat) ⟨0, rfl, (by omega), (by intro j hj; omega), rfl⟩ (fun gn gσ hI => ?_)
   obtain ⟨i, rfl, hi0, hall0, rfl⟩ := hI
   refine aw_seq ?_
   refine aw_seq ?_
   by_cases h2 : i < (a.length : Int)
   ·have hi : i.toNat < a.length := by omega
    refine aw_reg [(3, .dec true)] [0, 1, 5, 14] [] [slFeat false a, slFeat false b, I i, Bv true] [] [i < (a.length : Int)] (by kernel_rfl) hB ⟨h2, trivial⟩ ?_
    refine ae_then ?_
    refine aw_true rfl ?_
    refine aw_skip ?_
    refine ae_then ?_
    refine aw_seq ?_
    refine aw_block ?_
    refine aw_seq ?_
    by_cases h3 : ((at_ a i.toNat).X) = ((at_ b i.toNat).X) ∧ ((at_ a i.toNat).Y) = ((at_ b i.toNat).Y) ∧ ((at_ a i.toNat).D) = ((at_ b i.toNat).D) ∧ True
    ·have hok : decide (at_ a i.toNat = at_ b i.toNat) = true := decide_eq_true (feat_ext h3.1 h3.2.1 h3.2.2.1)
     refine aw_reg [(8, .dec false)] [0, 1, 5, 25] [] [slFeat false a, slFeat false b, I i, Bv false] [] [(0 : Int) ≤ i ∧ i < (a.length : Int), (0 : Int) ≤ i ∧ i < (b.length : Int), ¬ (¬ (((at_ a i.toNat).X) = ((at_ b i.toNat).X) ∧ ((at_ a i.toNat).Y) = ((at_ b i.toNat).Y) ∧ ((at_ a i.toNat).D) = ((at_ b i.toNat).D) ∧ True))] (by kernel_rfl) hB ⟨⟨(by omega), (by omega)⟩, ⟨(by omega), (by omega)⟩, (fun hq => hq h3), trivial⟩ ?_
     refine ae_then ?_
     refine aw_false rfl ?_
     refine aw_skip ?_
     refine ae_block 1 ?_
     refine ae_then ?_
     refine aw_reg [] [0, 1, 5] [] [slFeat false a, slFeat false b, I (i + 1)] [] [inR .i64 (i + 1)] (by kernel_rfl) hB ⟨(inR_i64 (by omega) (by omega)), trivial⟩ ?_
     exact ae_again _ (by omega) ⟨(i + 1), rfl, (by omega), (by intro j hj; by_cases ej : j = i.toNat; (subst ej; first | assumption | exact hok); exact hall0 j (by omega)), rfl⟩
    ·have hall : allN a.length (fun j => decide (at_ a j = at_ b j)) = false := allN_not hi (decide_eq_false (fun e => h3 ⟨by rw [e], by rw [e], by rw [e], trivial⟩))
     refine aw_reg [(8, .dec true)] [0, 1, 5, 25] [] [slFeat false a, slFeat false b, I i, Bv true] [] [(0 : Int) ≤ i ∧ i < (a.length : Int), (0 : Int) ≤ i ∧ i < (b.length : Int), ¬ (((at_ a i.toNat).X) = ((at_ b i.toNat).X) ∧ ((at_ a i.toNat).Y) = ((at_ b i.toNat).Y) ∧ ((at_ a i.toNat).D) = ((at_ b i.toNat).D) ∧ True)] (by kernel_rfl) hB ⟨⟨(by omega), (by omega)⟩, ⟨(by omega), (by omega)⟩, h3, trivial⟩ ?_
     refine ae_then ?_
     refine aw_true rfl ?_
     refine aw_seq ?_
     refine aw_reg [] [4] [] [Bv false] [] [] (by kernel_rfl) hB trivial ?_
     refine ae_then ?_
     refine aw_ret ?_
     refine ae_ret_block (ae_ret_then (ae_ret_then (ae_ret_block (ae_ret_then ?_))))
     refine ae_ret hB (Bv false) (by kernel_rfl) (.inl (by first | (simp [sameL, hlen]; done) | (unfold sameL; rw [hall]; simp [hlen]))) rfl (fun _ => trivial)
   ·have hall : allN a.length (fun j => decide (at_ a j = at_ b j)) = true := allN_at (fun j hj => hall0 j (by omega))
    refine aw_reg [(3, .dec false)] [0, 1, 5, 14] [] [slFeat false a, slFeat false b, I i, Bv false] [] [¬ (i < (a.length : Int))] (by kernel_rfl) hB ⟨h2, trivial⟩ ?_
    refine ae_then ?_
    refine aw_false rfl ?_
    refine aw_exit ?_
    refine ae_exit_then ?_
    refine ae_exit_then ?_
    refine ae_exit_same ?_
    refine ae_then ?_
    refine aw_seq ?_
    refine aw_reg [] [4] [] [Bv true] [] [] (by kernel_rfl) hB trivial ?_
    refine ae_then ?_
    refine aw_ret ?_
    refine ae_ret hB (Bv true) (by kernel_rfl) (.inl (by first | (simp [sameL, hlen]; done) | (unfold sameL; rw [hall]; simp [hlen]))) rfl (fun _ => trivial)
  ·have hlen : ¬ a.length = b.length := by omega
   refine aw_reg [(4, .dec true)] [0, 1, 10] [] [slFeat false a, slFeat false b, Bv true] [] [(a.length : Int) ≠ (b.length : Int)] (by kernel_rfl) hB ⟨h1, trivial⟩ ?_
   refine ae_then ?_
   refine aw_true rfl ?_
   refine aw_seq ?_
   refine aw_reg [] [4] [] [Bv false] [] [] (by kernel_rfl) hB trivial ?_
   refine ae_then ?_
   refine aw_ret ?_
   refine ae_ret_then ?_
   refine ae_ret hB (Bv false) (by kernel_rfl) (.inl (by first | (simp [sameL, hlen]; done) | (unfold sameL; rw [hall]; simp [hlen]))) rfl (fun _ => trivial)


-- spec.SameFeats
theorem specSameFeats_ok (a : List Feat) (b : List Feat) : Con Try.prog 11 [slFeat false a, slFeat false b] true (Bv (sameL a b)) := by
  refine fn_ok (fn := Try.f11) (nt := 8) Try.func11 rfl rfl rfl rfl (by simp [taggedL, tagged, tagFeat]) fun B hB => ?_
  refine aw_lens (x := slFeat false a) 0 rfl (fun len_a => ?_)
  simp [LenOK, LenL, cFeat, fFeat, slFeat] at len_a
  refine aw_lens (x := slFeat false b) 1 rfl (fun len_b => ?_)
  simp [LenOK, LenL, cFeat, fFeat, slFeat] at len_b
  refine aw_seq ?_
  refine aw_reg [] [0, 1] [] [slFeat false a, slFeat false b] [] [] (by kernel_rfl) hB trivial ?_
  refine ae_then ?_
  refine aw_seq ?_
  refine aw_reg [(2, .call [(true, slFeat false a), (true, slFeat false b)] true (Bv (sameL a b)))] [4] [] [Bv (sameL a b)] [] [Con Try.prog 59 [slFeat false a, slFeat false b] true (Bv (sameL a b)) ∧ ((slFeat false a : AV) = slFeat false a) ∧ ((slFeat false b : AV) = slFeat false b) ∧ True] (by kernel_rfl) hB ⟨⟨(l08Same_ok a b), rfl, rfl, trivial⟩, trivial⟩ ?_
  refine ae_then ?_
  refine aw_ret ?_
  refine ae_ret hB (Bv (sameL a b)) (by kernel_rfl) (.inl rfl) rfl (fun _ => trivial)


theorem and_16777215 (a : Int) : 0 ≤ bitsI .and .u64 a 16777215 ∧ bitsI .and .u64 a 16777215 ≤ 16777215 := by
  obtain ⟨n, hn⟩ : ∃ n : Nat, n = (BitVec.ofInt 64 a &&& BitVec.ofInt 64 16777215).toNat := ⟨_, rfl⟩
  have h : n ≤ 16777215 := by rw [hn, BitVec.toNat_and]; exact Nat.and_le_right
  have e : bitsI .and .u64 a 16777215 = IntKind.u64.wrap (n : Int) := by rw [hn]; rfl
  have w : IntKind.u64.wrap (n : Int) = n := wrap_in (inR_u64 (by omega) (by omega))
  rw [e, w]; omega
/-- A dice in order. -/
def okDice (d : f6dice) : Prop := (∀ j, j < d.b.length → 0 ≤ at_ d.b j ∧ at_ d.b j ≤ 255) ∧ (0 ≤ d.i ∧ d.i ≤ (d.b.length : Int)) ∧ d.b.length ≤ 4611686018427387904

-- laws.f6roll
theorem f6roll_ok (code : List Int) (seed : Int) (hc : (∀ j, j < code.length → 0 ≤ at_ code j ∧ at_ code j ≤ 255) ∧ code.length ≤ 4611686018427387904) (hsd : 0 ≤ seed ∧ seed ≤ 18446744073709551615) : ∃ (d' : f6dice), (okDice d') ∧ CallOK Try.prog 12 [slU8 false code, .val (.int .u64 seed)] (lookO []) false (.ref 7002 0) (lookO [(7002, bxf6dice d')]) := by
  have hh : ∃ r : f6dice, ((okDice r) ∧ (True)) ∧ CallOK Try.prog 12 [slU8 false code, .val (.int .u64 seed)] (lookO []) false (.ref 7002 0) (lookO [(7002, bxf6dice r)]) := by
    refine fn_okX (Φ := fun r : f6dice => (okDice r) ∧ (True)) [] (fun r => [(7002, bxf6dice r)]) (fn := Try.f12) (nt := 38) Try.func12 rfl rfl (args := [slU8 false code, .val (.int .u64 seed)]) rfl (allcons (.inl ⟨rfl, tagU8 false _⟩) (allcons (.inl ⟨rfl, trivial⟩) allnil)) (res := fun r => .ref 7002 0) ?_
    refine x_seq ?_
    refine x_reg [] [0, 1] [] [slU8 false code, .val (.int .u64 seed)] [] [] (by kernel_rfl) trivial ?_
    refine xe_then ?_
    refine x_seq ?_
    refine x_reg [(2, .wrap), (6, .wrap), (8, .new 7002)] [0, 5] [7002] [slU8 false code, .ref 7002 0] [some (.box [slU8 false code, I 0, .val (.int .u64 (IntKind.u64.wrap ((IntKind.u64.wrap (seed * 7919)) + (code.length : Int))))])] [inR .u64 (code.length : Int)] (by kernel_rfl) ⟨(inR_u64 (by omega) (by omega)), trivial⟩ ?_
    refine xe_then ?_
    refine x_seq ?_
    refine x_seq ?_
    refine x_reg [] [0, 5, 6] [7002] [slU8 false code, .ref 7002 0, I 0] [some (.box [slU8 false code, I 0, .val (.int .u64 (IntKind.u64.wrap ((IntKind.u64.wrap (seed * 7919)) + (code.length : Int))))])] [] (by kernel_rfl) trivial ?_
    refine xe_then ?_
    refine x_block ?_
    refine x_weak [] (T := [(0, slU8 false code), (5, .ref 7002 0), (6, I 0)]) (O := [(7002, .box [.sl false 1 ((f6dice.mk code 0 (IntKind.u64.wrap ((IntKind.u64.wrap (seed * 7919)) + (code.length : Int)))).b.length) (fU8 ((f6dice.mk code 0 (IntKind.u64.wrap ((IntKind.u64.wrap (seed * 7919)) + (code.length : Int)))).b)), I ((f6dice.mk code 0 (IntKind.u64.wrap ((IntKind.u64.wrap (seed * 7919)) + (code.length : Int)))).i), .val (.int .u64 ((f6dice.mk code 0 (IntKind.u64.wrap ((IntKind.u64.wrap (seed * 7919)) + (code.length : Int)))).h))])]) rfl (⟨.inl rfl, .inl rfl, .inl rfl, trivial⟩) (⟨.inr ⟨⟨(fun h => by cases h), rfl, (by first | rfl | (simp; done) | (simp; omega) | omega), fun i hi => .inl (by first | rfl | fail)⟩, ⟨(by first | rfl | (simp [valOf]; done) | (simp [valOf]; omega)), ⟨(by first | rfl | (simp [valOf]; done) | (simp [valOf]; omega)), rfl⟩⟩⟩, trivial⟩) ?_
    refine x_loop (X := Int × f6dice) (fun x => mkS [(0, slU8 false code), (5, .ref 7002 0), (6, I x.1)] [(7002, bxf6dice x.2)]) (fun x => (0 ≤ x.1 ∧ x.1 ≤ (code.length : Int)) ∧ (x.2.b = code ∧ x.2.i = 0) ∧ True) (fun x => ((code.length : Int) - x.1).toNat) (0, (f6dice.mk code 0 (IntKind.u64.wrap ((IntKind.u64.wrap (seed * 7919)) + (code.length : Int))))) rfl (show (0 ≤ (0 : Int) ∧ (0 : Int) ≤ (code.length : Int)) ∧ ((f6dice.mk code 0 (IntKind.u64.wrap ((IntKind.u64.wrap (seed * 7919)) + (code.length : Int)))).b = code ∧ (f6dice.mk code 0 (IntKind.u64.wrap ((IntKind.u64.wrap (seed * 7919)) + (code.length : Int)))).i = 0) ∧ True from ⟨(by omega), (by exact ⟨rfl, rfl⟩), trivial⟩) (fun x hI => ?_)
    obtain ⟨i, di⟩ := x
    obtain ⟨hi0, hd0, _⟩ : (0 ≤ i ∧ i ≤ (code.length : Int)) ∧ (di.b = code ∧ di.i = 0) ∧ True := hI
    show XW _ _ _ _ (mkS [(0, slU8 false code), (5, .ref 7002 0), (6, I i)] [(7002, bxf6dice di)]) _ _
    refine x_seq ?_
    refine x_seq ?_
    by_cases h1 : i < (code.length : Int)
    ·have hbt := hc.1 i.toNat (by omega)
     refine x_reg [(3, .dec true)] [0, 5, 6, 19] [7002] [slU8 false code, .ref 7002 0, I i, Bv true] [some (bxf6dice di)] [i < (code.length : Int)] (by kernel_rfl) ⟨h1, trivial⟩ ?_
     refine xe_then ?_
     refine x_true rfl ?_
     refine x_skip ?_
     refine xe_then ?_
     refine x_seq ?_
     refine x_block ?_
     refine x_reg [(5, .wrap), (11, .wrap), (12, .wrap)] [0, 5, 6] [7002] [slU8 false code, .ref 7002 0, I i] [some (.box [slU8 false di.b, I di.i, .val (.int .u64 (IntKind.u64.wrap ((IntKind.u64.wrap ((IntKind.u64.wrap (di.h * 1099511628211)) + (at_ code i.toNat))) + 3)))])] [(0 : Int) ≤ i ∧ i < (code.length : Int), inR .u64 (at_ code i.toNat)] (by kernel_rfl) ⟨⟨(by omega), (by omega)⟩, (inR_u64 (by omega) (by omega)), trivial⟩ ?_
     refine xe_block 1 ?_
     refine xe_then ?_
     refine x_reg [] [0, 5, 6] [7002] [slU8 false code, .ref 7002 0, I (i + 1)] [some (.box [slU8 false di.b, I di.i, .val (.int .u64 (IntKind.u64.wrap ((IntKind.u64.wrap ((IntKind.u64.wrap (di.h * 1099511628211)) + (at_ code i.toNat))) + 3)))])] [inR .i64 (i + 1)] (by kernel_rfl) ⟨(inR_i64 (by omega) (by omega)), trivial⟩ ?_
     refine xe_weak [] (T := [(0, slU8 false code), (5, .ref 7002 0), (6, I (i + 1))]) (O := [(7002, .box [.sl false 1 ((f6dice.mk di.b di.i (IntKind.u64.wrap ((IntKind.u64.wrap ((IntKind.u64.wrap (di.h * 1099511628211)) + (at_ code i.toNat))) + 3))).b.length) (fU8 ((f6dice.mk di.b di.i (IntKind.u64.wrap ((IntKind.u64.wrap ((IntKind.u64.wrap (di.h * 1099511628211)) + (at_ code i.toNat))) + 3))).b)), I ((f6dice.mk di.b di.i (IntKind.u64.wrap ((IntKind.u64.wrap ((IntKind.u64.wrap (di.h * 1099511628211)) + (at_ code i.toNat))) + 3))).i), .val (.int .u64 ((f6dice.mk di.b di.i (IntKind.u64.wrap ((IntKind.u64.wrap ((IntKind.u64.wrap (di.h * 1099511628211)) + (at_ code i.toNat))) + 3))).h))])]) rfl (⟨.inl rfl, .inl rfl, .inl rfl, trivial⟩) (⟨.inr ⟨⟨(fun h => by cases h), rfl, (by first | rfl | (simp; done) | (simp; omega) | omega), fun i hi => .inl (by first | rfl | fail)⟩, ⟨(by first | rfl | (simp [valOf]; done) | (simp [valOf]; omega)), ⟨(by first | rfl | (simp [valOf]; done) | (simp [valOf]; omega)), rfl⟩⟩⟩, trivial⟩) (xe_again ((i + 1), (f6dice.mk di.b di.i (IntKind.u64.wrap ((IntKind.u64.wrap ((IntKind.u64.wrap (di.h * 1099511628211)) + (at_ code i.toNat))) + 3)))) rfl (show (0 ≤ (i + 1) ∧ (i + 1) ≤ (code.length : Int)) ∧ ((f6dice.mk di.b di.i (IntKind.u64.wrap ((IntKind.u64.wrap ((IntKind.u64.wrap (di.h * 1099511628211)) + (at_ code i.toNat))) + 3))).b = code ∧ (f6dice.mk di.b di.i (IntKind.u64.wrap ((IntKind.u64.wrap ((IntKind.u64.wrap (di.h * 1099511628211)) + (at_ code i.toNat))) + 3))).i = 0) ∧ True from ⟨(by omega), (by exact hd0), trivial⟩) (by show (((code.length : Int) - (i + 1)).toNat : Nat) < ((code.length : Int) - i).toNat; omega))
    ·refine x_reg [(3, .dec false)] [0, 5, 6, 19] [7002] [slU8 false code, .ref 7002 0, I i, Bv false] [some (bxf6dice di)] [¬ (i < (code.length : Int))] (by kernel_rfl) ⟨h1, trivial⟩ ?_
     refine xe_then ?_
     refine x_false rfl ?_
     refine x_exit ?_
     refine xe_exit_then ?_
     refine xe_loop_exit ?_
     refine xe_exit_same ?_
     refine xe_then ?_
     refine x_seq ?_
     refine x_reg [] [4] [7002] [.ref 7002 0] [some (bxf6dice di)] [] (by kernel_rfl) trivial ?_
     refine xe_then ?_
     refine x_ret ?_
     refine xe_end di (show (okDice di) ∧ (True) from ⟨(by exact ⟨by rw [hd0.1]; exact hc.1, by rw [hd0.1, hd0.2]; omega, by rw [hd0.1]; exact hc.2⟩), trivial⟩) (⟨.inl rfl, trivial⟩) (.ref 7002 0) (by kernel_rfl) (.inl rfl) (fun h => by cases h) (fun h => by cases h)
  obtain ⟨d', ⟨hh0, _⟩, hc⟩ := hh
  exact ⟨d', hh0, hc⟩


-- laws.f6dice).below
theorem below_ok (d : f6dice) (n : Int) (hd : okDice d) (hn : 1 ≤ n ∧ n ≤ 9000000000000000000) : ∃ (v : Int) (d' : f6dice), (0 ≤ v ∧ v < n) ∧ (okDice d') ∧ CallOK Try.prog 14 [.ref 7002 0, I n] (lookO [(7002, bxf6dice d)]) true (I v) (lookO [(7002, bxf6dice d')]) := by
  have hd1 := hd.2.1
  have hd2 := hd.2.2
  have hh : ∃ r : Int × f6dice, ((0 ≤ r.1 ∧ r.1 < n) ∧ (okDice r.2) ∧ (True)) ∧ CallOK Try.prog 14 [.ref 7002 0, I n] (lookO [(7002, bxf6dice d)]) true (I r.1) (lookO [(7002, bxf6dice r.2)]) := by
    refine fn_okX (Φ := fun r : Int × f6dice => (0 ≤ r.1 ∧ r.1 < n) ∧ (okDice r.2) ∧ (True)) [(7002, bxf6dice d)] (fun r => [(7002, bxf6dice r.2)]) (fn := Try.f14) (nt := 56) Try.func14 rfl rfl (args := [.ref 7002 0, I n]) rfl (allcons (.inr trivial) (allcons (.inl ⟨rfl, trivial⟩) allnil)) (res := fun r => I r.1) ?_
    refine x_seq ?_
    refine x_reg [] [0, 1] [7002] [.ref 7002 0, I n] [some (bxf6dice d)] [] (by kernel_rfl) trivial ?_
    refine xe_then ?_
    refine x_seq ?_
    refine x_reg [(5, .wrap), (6, .wrap)] [0, 1] [7002] [.ref 7002 0, I n] [some (.box [slU8 false d.b, I d.i, .val (.int .u64 (IntKind.u64.wrap ((IntKind.u64.wrap (d.h * 6364136223846793005)) + 1442695040888963407)))])] [] (by kernel_rfl) trivial ?_
    refine xe_then ?_
    refine x_seq ?_
    have hb1 := and_16777215 ((IntKind.u64.wrap ((IntKind.u64.wrap (d.h * 6364136223846793005)) + 1442695040888963407)) / 8589934592)
    refine x_reg [] [0, 1, 5] [7002] [.ref 7002 0, I n, I (bitsI .and .u64 ((IntKind.u64.wrap ((IntKind.u64.wrap (d.h * 6364136223846793005)) + 1442695040888963407)) / 8589934592) 16777215)] [some (.box [slU8 false d.b, I d.i, .val (.int .u64 (IntKind.u64.wrap ((IntKind.u64.wrap (d.h * 6364136223846793005)) + 1442695040888963407)))])] [(0 : Int) ≤ 33 ∧ (33 : Int) ≤ ((IntKind.bits .u64 : Nat) : Int), inR .i64 (bitsI .and .u64 ((IntKind.u64.wrap ((IntKind.u64.wrap (d.h * 6364136223846793005)) + 1442695040888963407)) / 8589934592) 16777215)] (by kernel_rfl) ⟨⟨(by decide), (by decide)⟩, (inR_i64 (by omega) (by omega)), trivial⟩ ?_
    refine xe_then ?_
    refine x_seq ?_
    refine x_seq ?_
    by_cases h1 : d.i < (d.b.length : Int)
    ·have hbt := hd.1 d.i.toNat (by omega)
     refine x_reg [(9, .dec true)] [0, 1, 5, 31] [7002] [.ref 7002 0, I n, I (bitsI .and .u64 ((IntKind.u64.wrap ((IntKind.u64.wrap (d.h * 6364136223846793005)) + 1442695040888963407)) / 8589934592) 16777215), Bv true] [some (.box [slU8 false d.b, I d.i, .val (.int .u64 (IntKind.u64.wrap ((IntKind.u64.wrap (d.h * 6364136223846793005)) + 1442695040888963407)))])] [d.i < (d.b.length : Int)] (by kernel_rfl) ⟨h1, trivial⟩ ?_
     refine xe_then ?_
     refine x_true rfl ?_
     refine x_seq ?_
     refine x_reg [] [0, 1, 5] [7002] [.ref 7002 0, I n, I ((bitsI .and .u64 ((IntKind.u64.wrap ((IntKind.u64.wrap (d.h * 6364136223846793005)) + 1442695040888963407)) / 8589934592) 16777215) + (at_ d.b d.i.toNat))] [some (.box [slU8 false d.b, I d.i, .val (.int .u64 (IntKind.u64.wrap ((IntKind.u64.wrap (d.h * 6364136223846793005)) + 1442695040888963407)))])] [(0 : Int) ≤ d.i ∧ d.i < (d.b.length : Int), inR .i64 (at_ d.b d.i.toNat), inR .i64 ((bitsI .and .u64 ((IntKind.u64.wrap ((IntKind.u64.wrap (d.h * 6364136223846793005)) + 1442695040888963407)) / 8589934592) 16777215) + (at_ d.b d.i.toNat))] (by kernel_rfl) ⟨⟨(by omega), (by omega)⟩, (inR_i64 (by omega) (by omega)), (inR_i64 (by omega) (by omega)), trivial⟩ ?_
     refine xe_then ?_
     refine x_reg [] [1, 5] [7002] [I n, I ((bitsI .and .u64 ((IntKind.u64.wrap ((IntKind.u64.wrap (d.h * 6364136223846793005)) + 1442695040888963407)) / 8589934592) 16777215) + (at_ d.b d.i.toNat))] [some (.box [slU8 false d.b, I (d.i + 1), .val (.int .u64 (IntKind.u64.wrap ((IntKind.u64.wrap (d.h * 6364136223846793005)) + 1442695040888963407)))])] [inR .i64 (d.i + 1)] (by kernel_rfl) ⟨(inR_i64 (by omega) (by omega)), trivial⟩ ?_
     refine xe_then ?_
     refine x_seq ?_
     refine x_reg [(2, .nn)] [4] [7002] [I (((bitsI .and .u64 ((IntKind.u64.wrap ((IntKind.u64.wrap (d.h * 6364136223846793005)) + 1442695040888963407)) / 8589934592) 16777215) + (at_ d.b d.i.toNat)) % n)] [some (.box [slU8 false d.b, I (d.i + 1), .val (.int .u64 (IntKind.u64.wrap ((IntKind.u64.wrap (d.h * 6364136223846793005)) + 1442695040888963407)))])] [(0 : Int) ≤ ((bitsI .and .u64 ((IntKind.u64.wrap ((IntKind.u64.wrap (d.h * 6364136223846793005)) + 1442695040888963407)) / 8589934592) 16777215) + (at_ d.b d.i.toNat)) ∧ (0 : Int) < n] (by kernel_rfl) ⟨⟨(by omega), (by omega)⟩, trivial⟩ ?_
     refine xe_then ?_
     refine x_ret ?_
     refine xe_end ((((bitsI .and .u64 ((IntKind.u64.wrap ((IntKind.u64.wrap (d.h * 6364136223846793005)) + 1442695040888963407)) / 8589934592) 16777215) + (at_ d.b d.i.toNat)) % n), (f6dice.mk d.b (d.i + 1) (IntKind.u64.wrap ((IntKind.u64.wrap (d.h * 6364136223846793005)) + 1442695040888963407)))) (show (0 ≤ (((bitsI .and .u64 ((IntKind.u64.wrap ((IntKind.u64.wrap (d.h * 6364136223846793005)) + 1442695040888963407)) / 8589934592) 16777215) + (at_ d.b d.i.toNat)) % n) ∧ (((bitsI .and .u64 ((IntKind.u64.wrap ((IntKind.u64.wrap (d.h * 6364136223846793005)) + 1442695040888963407)) / 8589934592) 16777215) + (at_ d.b d.i.toNat)) % n) < n) ∧ (okDice (f6dice.mk d.b (d.i + 1) (IntKind.u64.wrap ((IntKind.u64.wrap (d.h * 6364136223846793005)) + 1442695040888963407)))) ∧ (True) from ⟨(by first | (exact ⟨Int.emod_nonneg _ (by omega), Int.emod_lt_of_pos _ (by omega)⟩) | exact hd | exact ⟨hd.1, (by dsimp only; omega), hd2⟩), (by first | (exact ⟨Int.emod_nonneg _ (by omega), Int.emod_lt_of_pos _ (by omega)⟩) | exact hd | exact ⟨hd.1, (by dsimp only; omega), hd2⟩), trivial⟩) (⟨.inl rfl, trivial⟩) (I (((bitsI .and .u64 ((IntKind.u64.wrap ((IntKind.u64.wrap (d.h * 6364136223846793005)) + 1442695040888963407)) / 8589934592) 16777215) + (at_ d.b d.i.toNat)) % n)) (by kernel_rfl) (.inl rfl) (fun _ => rfl) (fun _ => trivial)
    ·refine x_reg [(9, .dec false)] [0, 1, 5, 31] [7002] [.ref 7002 0, I n, I (bitsI .and .u64 ((IntKind.u64.wrap ((IntKind.u64.wrap (d.h * 6364136223846793005)) + 1442695040888963407)) / 8589934592) 16777215), Bv false] [some (.box [slU8 false d.b, I d.i, .val (.int .u64 (IntKind.u64.wrap ((IntKind.u64.wrap (d.h * 6364136223846793005)) + 1442695040888963407)))])] [¬ (d.i < (d.b.length : Int))] (by kernel_rfl) ⟨h1, trivial⟩ ?_
     refine xe_then ?_
     refine x_false rfl ?_
     refine x_skip ?_
     refine xe_then ?_
     refine x_seq ?_
     refine x_reg [(2, .nn)] [4] [7002] [I ((bitsI .and .u64 ((IntKind.u64.wrap ((IntKind.u64.wrap (d.h * 6364136223846793005)) + 1442695040888963407)) / 8589934592) 16777215) % n)] [some (.box [slU8 false d.b, I d.i, .val (.int .u64 (IntKind.u64.wrap ((IntKind.u64.wrap (d.h * 6364136223846793005)) + 1442695040888963407)))])] [(0 : Int) ≤ (bitsI .and .u64 ((IntKind.u64.wrap ((IntKind.u64.wrap (d.h * 6364136223846793005)) + 1442695040888963407)) / 8589934592) 16777215) ∧ (0 : Int) < n] (by kernel_rfl) ⟨⟨(by omega), (by omega)⟩, trivial⟩ ?_
     refine xe_then ?_
     refine x_ret ?_
     refine xe_end (((bitsI .and .u64 ((IntKind.u64.wrap ((IntKind.u64.wrap (d.h * 6364136223846793005)) + 1442695040888963407)) / 8589934592) 16777215) % n), (f6dice.mk d.b d.i (IntKind.u64.wrap ((IntKind.u64.wrap (d.h * 6364136223846793005)) + 1442695040888963407)))) (show (0 ≤ ((bitsI .and .u64 ((IntKind.u64.wrap ((IntKind.u64.wrap (d.h * 6364136223846793005)) + 1442695040888963407)) / 8589934592) 16777215) % n) ∧ ((bitsI .and .u64 ((IntKind.u64.wrap ((IntKind.u64.wrap (d.h * 6364136223846793005)) + 1442695040888963407)) / 8589934592) 16777215) % n) < n) ∧ (okDice (f6dice.mk d.b d.i (IntKind.u64.wrap ((IntKind.u64.wrap (d.h * 6364136223846793005)) + 1442695040888963407)))) ∧ (True) from ⟨(by first | (exact ⟨Int.emod_nonneg _ (by omega), Int.emod_lt_of_pos _ (by omega)⟩) | exact hd | exact ⟨hd.1, (by dsimp only; omega), hd2⟩), (by first | (exact ⟨Int.emod_nonneg _ (by omega), Int.emod_lt_of_pos _ (by omega)⟩) | exact hd | exact ⟨hd.1, (by dsimp only; omega), hd2⟩), trivial⟩) (⟨.inl rfl, trivial⟩) (I ((bitsI .and .u64 ((IntKind.u64.wrap ((IntKind.u64.wrap (d.h * 6364136223846793005)) + 1442695040888963407)) / 8589934592) 16777215) % n)) (by kernel_rfl) (.inl rfl) (fun _ => rfl) (fun _ => trivial)
  obtain ⟨⟨v, d'⟩, ⟨hh0, hh1, _⟩, hc⟩ := hh
  exact ⟨v, d', hh0, hh1, hc⟩


-- spec.l02OwnStroke
theorem l02OwnStroke_ok (s : Stroke) (hl : s.Points.length ≤ 100000) : ∃ (pts : List Point), (pts = s.Points) ∧ CallOK Try.prog 165 [.ptr false [slPoint false s.Points]] (lookO []) false (.agg [.arr 8041]) (lookO [(8041, .arr 3 pts.length (fPoint pts))]) := by
  have hh : ∃ r : (List Point), ((r = s.Points) ∧ (True)) ∧ CallOK Try.prog 165 [.ptr false [slPoint false s.Points]] (lookO []) false (.agg [.arr 8041]) (lookO [(8041, .arr 3 r.length (fPoint r))]) := by
    refine fn_okX (Φ := fun r : (List Point) => (r = s.Points) ∧ (True)) [] (fun r => [(8041, .arr 3 r.length (fPoint r))]) (fn := Try.f165) (nt := 10) Try.func165 rfl rfl (args := [.ptr false [slPoint false s.Points]]) rfl (allcons (.inl ⟨rfl, by simp [tagged, taggedL, tagPoint]⟩) allnil) (res := fun r => .agg [.arr 8041]) ?_
    refine x_seq ?_
    refine x_reg [(0, .new 2)] [0, 2] [2] [.ptr false [slPoint false s.Points], .ref 2 0] [some (.box [nilA])] [] (by kernel_rfl) trivial ?_
    refine xe_then ?_
    refine x_seq ?_
    refine x_reg [(0, .new 3), (5, .new 8)] [2] [2, 8] [.ref 2 0] [some (.box [.arr 8]), some (.arr 3 (0 + s.Points.length) (catF 0 (litF [] 3) (fPoint s.Points)))] [(0 + s.Points.length) * 24 ≤ 140737488355328] (by kernel_rfl) ⟨(by omega), trivial⟩ ?_
    refine xe_then ?_
    refine x_ret ?_
    refine xe_weak [(8041, 8)] (T := [(2, .ref 2 0)]) (O := [(2, .box [.arr 8041]), (8041, .arr 3 ((([] : List Point) ++ s.Points).length) (fPoint (([] : List Point) ++ s.Points)))]) rfl (⟨.inl rfl, trivial⟩) (⟨.inl rfl, .inr ⟨rfl, (by first | rfl | (simp; done) | (simp; omega) | omega), fun i hi => .inl (by first | rfl | fail)⟩, trivial⟩) ?_
    refine xe_end (([] : List Point) ++ s.Points) (show ((([] : List Point) ++ s.Points) = s.Points) ∧ (True) from ⟨(by first | rfl | simp), trivial⟩) (⟨.inl rfl, trivial⟩) (.agg [.arr 8041]) (by kernel_rfl) (.inl rfl) (fun h => by cases h) (fun h => by cases h)
  obtain ⟨pts, ⟨hh0, _⟩, hc⟩ := hh
  exact ⟨pts, hh0, hc⟩


theorem take_succ_at {α : Type} [Inhabited α] {xs : List α} {i : Int} {y : α} (h0 : 0 ≤ i) (h : i.toNat < xs.length) (hy : y = at_ xs i.toNat) : xs.take (i + 1).toNat = xs.take i.toNat ++ [y] := by
  have e : (i + 1).toNat = i.toNat + 1 := by omega
  rw [e, List.take_succ_eq_append_getElem h, hy]
  simp [at_, h]

-- spec.l02Own
theorem l02Own_ok (ik : Ink) (hx : ∀ s ∈ ik.Strokes, s.Points.length ≤ 100000) (hl : ik.Strokes.length ≤ 100000) : ∃ (ss : List Stroke), (ss = ik.Strokes) ∧ CallOK Try.prog 105 [.ptr false [slStroke false ik.Strokes]] (lookO []) false (.agg [.arr 8031]) (lookO [(8031, .oar [8032] 1 ss.length (oStroke 8032 ss)), (8032, .fam ss.length 3 (mStroke ss) (gStroke ss))]) := by
  have hh : ∃ r : (List Stroke), ((r = ik.Strokes) ∧ (True)) ∧ CallOK Try.prog 105 [.ptr false [slStroke false ik.Strokes]] (lookO []) false (.agg [.arr 8031]) (lookO [(8031, .oar [8032] 1 r.length (oStroke 8032 r)), (8032, .fam r.length 3 (mStroke r) (gStroke r))]) := by
    refine fn_okX (Φ := fun r : (List Stroke) => (r = ik.Strokes) ∧ (True)) [] (fun r => [(8031, .oar [8032] 1 r.length (oStroke 8032 r)), (8032, .fam r.length 3 (mStroke r) (gStroke r))]) (fn := Try.f105) (nt := 28) Try.func105 rfl rfl (args := [.ptr false [slStroke false ik.Strokes]]) rfl (allcons (.inl ⟨rfl, by simp [tagged, taggedL, tagStroke]⟩) allnil) (res := fun r => .agg [.arr 8031]) ?_
    refine x_seq ?_
    refine x_reg [(0, .new 2)] [0, 2] [2] [.ptr false [slStroke false ik.Strokes], .ref 2 0] [some (.box [nilA])] [] (by kernel_rfl) trivial ?_
    refine xe_then ?_
    refine x_seq ?_
    refine x_reg [(1, .new 3)] [0, 2, 3] [2, 3] [.ptr false [slStroke false ik.Strokes], .ref 2 0, .ref 3 0] [some (.box [nilA]), some (.box [nilA])] [] (by kernel_rfl) trivial ?_
    refine xe_then ?_
    refine x_seq ?_
    refine x_seq ?_
    refine x_reg [] [0, 2, 3, 4] [2, 3] [.ptr false [slStroke false ik.Strokes], .ref 2 0, .ref 3 0, I 0] [some (.box [nilA]), some (.box [nilA])] [] (by kernel_rfl) trivial ?_
    refine xe_then ?_
    refine x_block ?_
    refine x_nilC 3 0 730 1 (fun _ => []) rfl (by kernel_rfl) ?_
    refine x_fam 8032 3 (fun _ => 0) (fun _ _ => []) (by kernel_rfl) ?_
    refine x_weak [] (T := [(0, .ptr false [slStroke false ik.Strokes]), (2, .ref 2 0), (3, .ref 3 0), (4, I 0)]) (O := [(2, .box [nilA]), (3, .box [.arr 730]), (730, .oar [8032] 1 (([] : List Stroke).length) (oStroke 8032 ([] : List Stroke))), (8032, .fam ([] : List Stroke).length 3 (mStroke ([] : List Stroke)) (gStroke ([] : List Stroke)))]) rfl (⟨.inl rfl, .inl rfl, .inl rfl, .inl rfl, trivial⟩) (⟨.inl rfl, .inl rfl, .inr ⟨rfl, rfl, fun i hi => absurd hi (Nat.not_lt_zero _)⟩, .inr ⟨rfl, rfl, fun p hp => absurd hp (Nat.not_lt_zero _)⟩, trivial⟩) ?_
    refine x_loop (X := Int × (List Stroke)) (fun x => mkS [(0, .ptr false [slStroke false ik.Strokes]), (2, .ref 2 0), (3, .ref 3 0), (4, I x.1)] [(2, .box [nilA]), (3, .box [.arr 730]), (730, .oar [8032] 1 x.2.length (oStroke 8032 x.2)), (8032, .fam x.2.length 3 (mStroke x.2) (gStroke x.2))]) (fun x => (0 ≤ x.1 ∧ x.1 ≤ (ik.Strokes.length : Int)) ∧ ((x.2.length : Int) = x.1) ∧ (x.2 = ik.Strokes.take x.1.toNat) ∧ True) (fun x => ((ik.Strokes.length : Int) - x.1).toNat) (0, ([] : List Stroke)) rfl (show (0 ≤ (0 : Int) ∧ (0 : Int) ≤ (ik.Strokes.length : Int)) ∧ ((([] : List Stroke).length : Int) = (0 : Int)) ∧ (([] : List Stroke) = ik.Strokes.take (0 : Int).toNat) ∧ True from ⟨(by omega), (by rfl), (by rfl), trivial⟩) (fun x hI => ?_)
    obtain ⟨i, ss⟩ := x
    obtain ⟨hi0, hl0, hs0, _⟩ : (0 ≤ i ∧ i ≤ (ik.Strokes.length : Int)) ∧ ((ss.length : Int) = i) ∧ (ss = ik.Strokes.take i.toNat) ∧ True := hI
    show XW _ _ _ _ (mkS [(0, .ptr false [slStroke false ik.Strokes]), (2, .ref 2 0), (3, .ref 3 0), (4, I i)] [(2, .box [nilA]), (3, .box [.arr 730]), (730, .oar [8032] 1 ss.length (oStroke 8032 ss)), (8032, .fam ss.length 3 (mStroke ss) (gStroke ss))]) _ _
    refine x_seq ?_
    refine x_seq ?_
    by_cases h1 : i < (ik.Strokes.length : Int)
    ·refine x_reg [(6, .dec true)] [0, 2, 3, 4, 12] [2, 3, 730, 8032] [.ptr false [slStroke false ik.Strokes], .ref 2 0, .ref 3 0, I i, Bv true] [some (.box [nilA]), some (.box [.arr 730]), some (.oar [8032] 1 ss.length (oStroke 8032 ss)), some (.fam ss.length 3 (mStroke ss) (gStroke ss))] [i < (ik.Strokes.length : Int)] (by kernel_rfl) ⟨h1, trivial⟩ ?_
     refine xe_then ?_
     refine x_true rfl ?_
     refine x_skip ?_
     refine xe_then ?_
     refine x_seq ?_
     refine x_block ?_
     obtain ⟨pts_1, hx1_0, hc1⟩ := l02OwnStroke_ok (at_ ik.Strokes i.toNat) (hx _ (at_mem (by omega)))
     refine x_reg [(8, .lend [] [(8041, .arr 3 pts_1.length (fPoint pts_1))] [(true, .ptr false [slPoint false ((at_ ik.Strokes i.toNat).Points)])] false (.agg [.arr 8041])), (9, .new 24), (10, .new 25)] [0, 2, 3, 4] [2, 3, 25, 8032, 8041] [.ptr false [slStroke false ik.Strokes], .ref 2 0, .ref 3 0, I i] [some (.box [nilA]), some (.box [.arr 25]), some (.oar [8032, 8041] 1 (ss.length + 1) (catF ss.length (oStroke 8032 ss) (litF [.arr 8041] 1))), some (.fam ss.length 3 (mStroke ss) (gStroke ss)), some (.arr 3 pts_1.length (fPoint pts_1))] [(0 : Int) ≤ i ∧ i < (ik.Strokes.length : Int), CallOK Try.prog 165 [.ptr false [slPoint false ((at_ ik.Strokes i.toNat).Points)]] (lookO []) false (.agg [.arr 8041]) (lookO [(8041, .arr 3 pts_1.length (fPoint pts_1))]) ∧ ((.ptr false [slPoint false ((at_ ik.Strokes i.toNat).Points)] : AV) = .ptr false [slPoint false ((at_ ik.Strokes i.toNat).Points)]) ∧ True, (ss.length + 1) * 24 ≤ 140737488355328] (by kernel_rfl) ⟨⟨(by omega), (by omega)⟩, ⟨hc1, rfl, trivial⟩, (by omega), trivial⟩ ?_
     refine xe_block 1 ?_
     refine xe_then ?_
     refine x_reg [] [0, 2, 3, 4] [2, 3, 25, 8032, 8041] [.ptr false [slStroke false ik.Strokes], .ref 2 0, .ref 3 0, I (i + 1)] [some (.box [nilA]), some (.box [.arr 25]), some (.oar [8032, 8041] 1 (ss.length + 1) (catF ss.length (oStroke 8032 ss) (litF [.arr 8041] 1))), some (.fam ss.length 3 (mStroke ss) (gStroke ss)), some (.arr 3 pts_1.length (fPoint pts_1))] [inR .i64 (i + 1)] (by kernel_rfl) ⟨(inR_i64 (by omega) (by omega)), trivial⟩ ?_
     refine xe_join 8041 8032 rfl rfl rfl ?_
     refine xe_weak [(730, 25)] (T := [(0, .ptr false [slStroke false ik.Strokes]), (2, .ref 2 0), (3, .ref 3 0), (4, I (i + 1))]) (O := [(2, .box [nilA]), (3, .box [.arr 730]), (730, .oar [8032] 1 ((ss ++ [(Stroke.mk pts_1)]).length) (oStroke 8032 (ss ++ [(Stroke.mk pts_1)]))), (8032, .fam (ss ++ [(Stroke.mk pts_1)]).length 3 (mStroke (ss ++ [(Stroke.mk pts_1)])) (gStroke (ss ++ [(Stroke.mk pts_1)])))]) rfl (⟨.inl rfl, .inl rfl, .inl rfl, .inl rfl, trivial⟩) (⟨.inl rfl, .inl rfl, .inr ⟨rfl, rfl, (by simp), fun i hi => .inl (ocatStroke rfl rfl rfl i hi)⟩, .inr (fcatStroke (Stroke.mk pts_1) (by first | rfl | (simp; done)) (fun i hi => (by first | rfl | fail))), trivial⟩) (xe_again ((i + 1), (ss ++ [(Stroke.mk pts_1)])) rfl (show (0 ≤ (i + 1) ∧ (i + 1) ≤ (ik.Strokes.length : Int)) ∧ (((ss ++ [(Stroke.mk pts_1)]).length : Int) = (i + 1)) ∧ ((ss ++ [(Stroke.mk pts_1)]) = ik.Strokes.take (i + 1).toNat) ∧ True from ⟨(by omega), (by simp; omega), (by rw [hs0]; exact (take_succ_at (by omega) (by omega) (by first | rfl | assumption | (simp only [*]; done))).symm), trivial⟩) (by show (((ik.Strokes.length : Int) - (i + 1)).toNat : Nat) < ((ik.Strokes.length : Int) - i).toNat; omega))
    ·refine x_reg [(6, .dec false)] [0, 2, 3, 4, 12] [2, 3, 730, 8032] [.ptr false [slStroke false ik.Strokes], .ref 2 0, .ref 3 0, I i, Bv false] [some (.box [nilA]), some (.box [.arr 730]), some (.oar [8032] 1 ss.length (oStroke 8032 ss)), some (.fam ss.length 3 (mStroke ss) (gStroke ss))] [¬ (i < (ik.Strokes.length : Int))] (by kernel_rfl) ⟨h1, trivial⟩ ?_
     refine xe_then ?_
     refine x_false rfl ?_
     refine x_exit ?_
     refine xe_exit_then ?_
     refine xe_loop_exit ?_
     refine xe_exit_same ?_
     refine xe_then ?_
     refine x_seq ?_
     refine x_reg [] [2] [2, 730, 8032] [.ref 2 0] [some (.box [.arr 730]), some (.oar [8032] 1 ss.length (oStroke 8032 ss)), some (.fam ss.length 3 (mStroke ss) (gStroke ss))] [] (by kernel_rfl) trivial ?_
     refine xe_then ?_
     refine x_ret ?_
     refine xe_weak [(8031, 730)] (T := [(2, .ref 2 0)]) (O := [(2, .box [.arr 8031]), (8031, .oar [8032] 1 ss.length (oStroke 8032 ss)), (8032, .fam ss.length 3 (mStroke ss) (gStroke ss))]) rfl (⟨.inl rfl, trivial⟩) (⟨.inl rfl, .inl rfl, .inl rfl, trivial⟩) ?_
     refine xe_end ss (show (ss = ik.Strokes) ∧ (True) from ⟨(by rw [hs0]; exact List.take_of_length_le (by omega)), trivial⟩) (⟨.inl rfl, .inl rfl, trivial⟩) (.agg [.arr 8031]) (by kernel_rfl) (.inl rfl) (fun h => by cases h) (fun h => by cases h)
  obtain ⟨ss, ⟨hh0, _⟩, hc⟩ := hh
  exact ⟨ss, hh0, hc⟩


theorem at_setS {α : Type} [Inhabited α] {xs : List α} {i : Nat} {y : α} (h : i < xs.length) : at_ (xs.set i y) i = y := by simp [at_, h]
section
variable {dx dy i k : Int} {xs ys : List Stroke}
theorem mvIn_next (e : ys = mvIn dx dy i.toNat k.toNat xs) (hk0 : 0 ≤ k) (hi : i.toNat < xs.length) (hk : k.toNat < (at_ xs i.toNat).Points.length) :
    ys.set i.toNat ⟨(at_ ys i.toNat).Points.set k.toNat ⟨(at_ (at_ ys i.toNat).Points k.toNat).X + dx, (at_ (at_ ys i.toNat).Points k.toNat).Y + dy, (at_ (at_ ys i.toNat).Points k.toNat).T⟩⟩ = mvIn dx dy i.toNat (k + 1).toNat xs := by
  have ek : (k + 1).toNat = k.toNat + 1 := by omega
  have hp : at_ (at_ ys i.toNat).Points k.toNat = at_ (at_ xs i.toNat).Points k.toNat := by rw [e, mvIn_at hi, mvTo_at hk]
  rw [hp, ek, mvIn_succ hi hk, ← e]; rfl
theorem mvIn_exit (e : ys = mvIn dx dy i.toNat k.toNat xs) (hi0 : 0 ≤ i) (hi : i.toNat < xs.length) (hk : (at_ xs i.toNat).Points.length ≤ k.toNat) : ys = mvFst dx dy (i + 1).toNat xs := by
  have ei : (i + 1).toNat = i.toNat + 1 := by omega
  rw [e, ei, mvIn_all hi hk]
theorem mvIn_pt (e : ys = mvIn dx dy i.toNat k.toNat xs) (hi : i.toNat < xs.length) (hk : k.toNat < (at_ xs i.toNat).Points.length) (hx : ∀ s ∈ xs, okStroke' s = true) :
    (0 ≤ (at_ (at_ ys i.toNat).Points k.toNat).X ∧ (at_ (at_ ys i.toNat).Points k.toNat).X ≤ 4095) ∧ (0 ≤ (at_ (at_ ys i.toNat).Points k.toNat).Y ∧ (at_ (at_ ys i.toNat).Points k.toNat).Y ≤ 4095) := by
  have hp : at_ (at_ ys i.toNat).Points k.toNat = at_ (at_ xs i.toNat).Points k.toNat := by rw [e, mvIn_at hi, mvTo_at hk]
  have := okP_iff.1 (okS_at (hx _ (at_mem hi)) hk)
  rw [hp]; exact ⟨this.1, this.2.1⟩
theorem mvIn_row (e : ys = mvIn dx dy i.toNat k.toNat xs) (hi : i.toNat < xs.length) : (at_ ys i.toNat).Points.length = (at_ xs i.toNat).Points.length := by rw [e, mvIn_at hi, mvTo_len]
theorem mv_hd {n : Nat} (hn : xs.length = n) (h : n = 0 ∨ (-4095 ≤ dx ∧ dx ≤ 4095 ∧ -4095 ≤ dy ∧ dy ≤ 4095)) : xs = [] ∨ (-4095 ≤ dx ∧ dx ≤ 4095 ∧ -4095 ≤ dy ∧ dy ≤ 4095) := by
  rcases h with h | h
  · left; exact List.eq_nil_of_length_eq_zero (by omega)
  · right; exact h
end

-- spec.l02Move
theorem l02Move_ok (ik : Ink) (dx : Int) (dy : Int) (hx : ∀ s ∈ ik.Strokes, okStroke' s = true) (hl : ik.Strokes.length ≤ 16) (hd : ik.Strokes = [] ∨ (-4095 ≤ dx ∧ dx ≤ 4095 ∧ -4095 ≤ dy ∧ dy ≤ 4095)) : ∃ (ss : List Stroke), (ss = (mvI dx dy ik).Strokes) ∧ CallOK Try.prog 60 [.ptr false [slStroke false ik.Strokes], I dx, I dy] (lookO []) false (.agg [.arr 8051]) (lookO [(8032, .fam ss.length 3 (mStroke ss) (gStroke ss)), (8051, .oar [8032] 1 ss.length (oStroke 8032 ss))]) := by
  have hh : ∃ r : (List Stroke), ((r = (mvI dx dy ik).Strokes) ∧ (True)) ∧ CallOK Try.prog 60 [.ptr false [slStroke false ik.Strokes], I dx, I dy] (lookO []) false (.agg [.arr 8051]) (lookO [(8032, .fam r.length 3 (mStroke r) (gStroke r)), (8051, .oar [8032] 1 r.length (oStroke 8032 r))]) := by
    refine fn_okX (Φ := fun r : (List Stroke) => (r = (mvI dx dy ik).Strokes) ∧ (True)) [] (fun r => [(8032, .fam r.length 3 (mStroke r) (gStroke r)), (8051, .oar [8032] 1 r.length (oStroke 8032 r))]) (fn := Try.f60) (nt := 59) Try.func60 rfl rfl (args := [.ptr false [slStroke false ik.Strokes], I dx, I dy]) rfl (allcons (.inl ⟨rfl, by simp [tagged, taggedL, tagStroke]⟩) (allcons (.inl ⟨rfl, trivial⟩) (allcons (.inl ⟨rfl, trivial⟩) allnil))) (res := fun r => .agg [.arr 8051]) ?_
    refine x_seq ?_
    refine x_reg [(0, .new 6)] [0, 1, 2, 6] [6] [.ptr false [slStroke false ik.Strokes], I dx, I dy, .ref 6 0] [some (.box [nilA])] [] (by kernel_rfl) trivial ?_
    refine xe_then ?_
    refine x_seq ?_
    obtain ⟨ss_1, hx1_0, hc1⟩ := l02Own_ok ik (fun s hs => by have := okS_len (hx s hs); omega) (by omega)
    refine x_reg [(1, .lend [] [(8031, .oar [8032] 1 ss_1.length (oStroke 8032 ss_1)), (8032, .fam ss_1.length 3 (mStroke ss_1) (gStroke ss_1))] [(true, .ptr false [slStroke false ik.Strokes])] false (.agg [.arr 8031])), (2, .new 7)] [1, 2, 6, 7] [6, 7, 8031, 8032] [I dx, I dy, .ref 6 0, .ref 7 0] [some (.box [nilA]), some (.box [.arr 8031]), some (.oar [8032] 1 ss_1.length (oStroke 8032 ss_1)), some (.fam ss_1.length 3 (mStroke ss_1) (gStroke ss_1))] [CallOK Try.prog 105 [.ptr false [slStroke false ik.Strokes]] (lookO []) false (.agg [.arr 8031]) (lookO [(8031, .oar [8032] 1 ss_1.length (oStroke 8032 ss_1)), (8032, .fam ss_1.length 3 (mStroke ss_1) (gStroke ss_1))]) ∧ ((.ptr false [slStroke false ik.Strokes] : AV) = .ptr false [slStroke false ik.Strokes]) ∧ True] (by kernel_rfl) ⟨⟨hc1, rfl, trivial⟩, trivial⟩ ?_
    refine xe_then ?_
    refine x_seq ?_
    refine x_seq ?_
    refine x_reg [] [1, 2, 6, 7, 8] [6, 7, 8031, 8032] [I dx, I dy, .ref 6 0, .ref 7 0, I 0] [some (.box [nilA]), some (.box [.arr 8031]), some (.oar [8032] 1 ss_1.length (oStroke 8032 ss_1)), some (.fam ss_1.length 3 (mStroke ss_1) (gStroke ss_1))] [] (by kernel_rfl) trivial ?_
    refine xe_then ?_
    refine x_block ?_
    refine x_loop (X := Int × (List Stroke)) (fun x => mkS [(1, I dx), (2, I dy), (6, .ref 6 0), (7, .ref 7 0), (8, I x.1)] [(6, .box [nilA]), (7, .box [.arr 8031]), (8031, .oar [8032] 1 x.2.length (oStroke 8032 x.2)), (8032, .fam x.2.length 3 (mStroke x.2) (gStroke x.2))]) (fun x => (0 ≤ x.1 ∧ x.1 ≤ (ik.Strokes.length : Int)) ∧ (x.2 = mvFst dx dy x.1.toNat ik.Strokes) ∧ (x.2.length = ik.Strokes.length) ∧ True) (fun x => ((ik.Strokes.length : Int) - x.1).toNat) (0, ss_1) rfl (show (0 ≤ (0 : Int) ∧ (0 : Int) ≤ (ik.Strokes.length : Int)) ∧ (ss_1 = mvFst dx dy (0 : Int).toNat ik.Strokes) ∧ (ss_1.length = ik.Strokes.length) ∧ True from ⟨(by omega), (by rw [show (0 : Int).toNat = 0 from rfl, mvFst_zero]; assumption), (by simp only [*]), trivial⟩) (fun x hI => ?_)
    obtain ⟨i, ss⟩ := x
    obtain ⟨hi0, hs0, hl0, _⟩ : (0 ≤ i ∧ i ≤ (ik.Strokes.length : Int)) ∧ (ss = mvFst dx dy i.toNat ik.Strokes) ∧ (ss.length = ik.Strokes.length) ∧ True := hI
    show XW _ _ _ _ (mkS [(1, I dx), (2, I dy), (6, .ref 6 0), (7, .ref 7 0), (8, I i)] [(6, .box [nilA]), (7, .box [.arr 8031]), (8031, .oar [8032] 1 ss.length (oStroke 8032 ss)), (8032, .fam ss.length 3 (mStroke ss) (gStroke ss))]) _ _
    refine x_seq ?_
    refine x_seq ?_
    by_cases h1 : i < (ss.length : Int)
    ·have hi : i.toNat < ik.Strokes.length := by omega
     have hdd : -4095 ≤ dx ∧ dx ≤ 4095 ∧ -4095 ≤ dy ∧ dy ≤ 4095 := by rcases hd with e | e; (rw [e] at hi; simp at hi); exact e
     refine x_reg [(4, .dec true)] [1, 2, 6, 7, 8, 16] [6, 7, 8031, 8032] [I dx, I dy, .ref 6 0, .ref 7 0, I i, Bv true] [some (.box [nilA]), some (.box [.arr 8031]), some (.oar [8032] 1 ss.length (oStroke 8032 ss)), some (.fam ss.length 3 (mStroke ss) (gStroke ss))] [i < (ss.length : Int)] (by kernel_rfl) ⟨h1, trivial⟩ ?_
     refine xe_then ?_
     refine x_true rfl ?_
     refine x_skip ?_
     refine xe_then ?_
     refine x_seq ?_
     refine x_block ?_
     refine x_seq ?_
     refine x_reg [] [1, 2, 6, 7, 8, 9] [6, 7, 8031, 8032] [I dx, I dy, .ref 6 0, .ref 7 0, I i, I 0] [some (.box [nilA]), some (.box [.arr 8031]), some (.oar [8032] 1 ss.length (oStroke 8032 ss)), some (.fam ss.length 3 (mStroke ss) (gStroke ss))] [] (by kernel_rfl) trivial ?_
     refine xe_then ?_
     refine x_block ?_
     refine x_loop (X := Int × (List Stroke)) (fun x => mkS [(1, I dx), (2, I dy), (6, .ref 6 0), (7, .ref 7 0), (8, I i), (9, I x.1)] [(6, .box [nilA]), (7, .box [.arr 8031]), (8031, .oar [8032] 1 x.2.length (oStroke 8032 x.2)), (8032, .fam x.2.length 3 (mStroke x.2) (gStroke x.2))]) (fun x => (0 ≤ x.1 ∧ x.1 ≤ ((at_ ik.Strokes i.toNat).Points.length : Int)) ∧ (x.2 = mvIn dx dy i.toNat x.1.toNat ik.Strokes) ∧ (x.2.length = ik.Strokes.length) ∧ ((at_ x.2 i.toNat).Points.length = (at_ ik.Strokes i.toNat).Points.length) ∧ True) (fun x => (((at_ ik.Strokes i.toNat).Points.length : Int) - x.1).toNat) (0, ss) rfl (show (0 ≤ (0 : Int) ∧ (0 : Int) ≤ ((at_ ik.Strokes i.toNat).Points.length : Int)) ∧ (ss = mvIn dx dy i.toNat (0 : Int).toNat ik.Strokes) ∧ (ss.length = ik.Strokes.length) ∧ ((at_ ss i.toNat).Points.length = (at_ ik.Strokes i.toNat).Points.length) ∧ True from ⟨(by omega), (by exact (show ss = mvIn dx dy i.toNat 0 ik.Strokes from hs0.trans (mvIn_zero hi).symm)), (by omega), (by exact mvIn_row (dx := dx) (dy := dy) (k := 0) (show ss = mvIn dx dy i.toNat 0 ik.Strokes from hs0.trans (mvIn_zero hi).symm) hi), trivial⟩) (fun x hI => ?_)
     obtain ⟨k, ss'⟩ := x
     obtain ⟨hk0, hs1, hl1, hr1, _⟩ : (0 ≤ k ∧ k ≤ ((at_ ik.Strokes i.toNat).Points.length : Int)) ∧ (ss' = mvIn dx dy i.toNat k.toNat ik.Strokes) ∧ (ss'.length = ik.Strokes.length) ∧ ((at_ ss' i.toNat).Points.length = (at_ ik.Strokes i.toNat).Points.length) ∧ True := hI
     show XW _ _ _ _ (mkS [(1, I dx), (2, I dy), (6, .ref 6 0), (7, .ref 7 0), (8, I i), (9, I k)] [(6, .box [nilA]), (7, .box [.arr 8031]), (8031, .oar [8032] 1 ss'.length (oStroke 8032 ss')), (8032, .fam ss'.length 3 (mStroke ss') (gStroke ss'))]) _ _
     refine x_seq ?_
     refine x_seq ?_
     by_cases h2 : k < ((((at_ ss' i.toNat).Points).length) : Int)
     ·have hk : k.toNat < (at_ ik.Strokes i.toNat).Points.length := by omega
      have hpt := mvIn_pt hs1 hi hk hx
      have hol := okS_len (hx _ (at_mem hi))
      have hlx : i.toNat < ss'.length := by omega
      have hlk : k.toNat < (at_ ss' i.toNat).Points.length := by omega
      refine x_reg [(8, .dec true)] [1, 2, 6, 7, 8, 9, 27] [6, 7, 8031, 8032] [I dx, I dy, .ref 6 0, .ref 7 0, I i, I k, Bv true] [some (.box [nilA]), some (.box [.arr 8031]), some (.oar [8032] 1 ss'.length (oStroke 8032 ss')), some (.fam ss'.length 3 (mStroke ss') (gStroke ss'))] [(0 : Int) ≤ i ∧ i < (ss'.length : Int), i.toNat < ss'.length, i.toNat < ss'.length, k < ((((at_ ss' i.toNat).Points).length) : Int)] (by kernel_rfl) ⟨⟨(by omega), (by omega)⟩, (by omega), (by omega), h2, trivial⟩ ?_
      refine xe_then ?_
      refine x_true rfl ?_
      refine x_skip ?_
      refine xe_then ?_
      refine x_seq ?_
      refine x_block ?_
      refine x_seq ?_
      refine x_reg [] [1, 2, 6, 7, 8, 9] [6, 7, 8031, 8032] [I dx, I dy, .ref 6 0, .ref 7 0, I i, I k] [some (.box [nilA]), some (.box [.arr 8031]), some (.oar [8032] 1 ss'.length (oStroke 8032 ss')), some (.fam ss'.length 3 (mStroke ss') (fun q => bif Nat.beq q i.toNat then (fun q => bif Nat.beq q k.toNat then [I (((at_ ((at_ ss' i.toNat).Points) k.toNat).X) + dx), I ((at_ ((at_ ss' i.toNat).Points) k.toNat).Y), I ((at_ ((at_ ss' i.toNat).Points) k.toNat).T)] else (gStroke ss') i.toNat q) else (gStroke ss') q))] [(0 : Int) ≤ i ∧ i < (ss'.length : Int), i.toNat < ss'.length, i.toNat < ss'.length ∧ (0 : Int) ≤ k ∧ k < ((((at_ ss' i.toNat).Points).length) : Int), i.toNat < ss'.length ∧ k.toNat < ((at_ ss' i.toNat).Points).length, inR .i64 (((at_ ((at_ ss' i.toNat).Points) k.toNat).X) + dx), i.toNat < ss'.length ∧ (0 : Int) ≤ k ∧ k < ((((at_ ss' i.toNat).Points).length) : Int), i.toNat < ss'.length ∧ k.toNat < ((at_ ss' i.toNat).Points).length] (by kernel_rfl) ⟨⟨(by omega), (by omega)⟩, (by omega), ⟨(by omega), (by omega), (by omega)⟩, ⟨(by omega), (by omega)⟩, (inR_i64 (by omega) (by omega)), ⟨(by omega), (by omega), (by omega)⟩, ⟨(by omega), (by omega)⟩, trivial⟩ ?_
      refine xe_then ?_
      refine x_weak [] (T := [(1, I dx), (2, I dy), (6, .ref 6 0), (7, .ref 7 0), (8, I i), (9, I k)]) (O := [(6, .box [nilA]), (7, .box [.arr 8031]), (8031, .oar [8032] 1 ((ss'.set i.toNat (Stroke.withPoints (at_ ss' i.toNat) (((at_ ss' i.toNat).Points).set k.toNat (Point.mk (((at_ ((at_ ss' i.toNat).Points) k.toNat).X) + dx) ((at_ ((at_ ss' i.toNat).Points) k.toNat).Y) ((at_ ((at_ ss' i.toNat).Points) k.toNat).T))))).length) (oStroke 8032 (ss'.set i.toNat (Stroke.withPoints (at_ ss' i.toNat) (((at_ ss' i.toNat).Points).set k.toNat (Point.mk (((at_ ((at_ ss' i.toNat).Points) k.toNat).X) + dx) ((at_ ((at_ ss' i.toNat).Points) k.toNat).Y) ((at_ ((at_ ss' i.toNat).Points) k.toNat).T))))))), (8032, .fam (ss'.set i.toNat (Stroke.withPoints (at_ ss' i.toNat) (((at_ ss' i.toNat).Points).set k.toNat (Point.mk (((at_ ((at_ ss' i.toNat).Points) k.toNat).X) + dx) ((at_ ((at_ ss' i.toNat).Points) k.toNat).Y) ((at_ ((at_ ss' i.toNat).Points) k.toNat).T))))).length 3 (mStroke (ss'.set i.toNat (Stroke.withPoints (at_ ss' i.toNat) (((at_ ss' i.toNat).Points).set k.toNat (Point.mk (((at_ ((at_ ss' i.toNat).Points) k.toNat).X) + dx) ((at_ ((at_ ss' i.toNat).Points) k.toNat).Y) ((at_ ((at_ ss' i.toNat).Points) k.toNat).T)))))) (gStroke (ss'.set i.toNat (Stroke.withPoints (at_ ss' i.toNat) (((at_ ss' i.toNat).Points).set k.toNat (Point.mk (((at_ ((at_ ss' i.toNat).Points) k.toNat).X) + dx) ((at_ ((at_ ss' i.toNat).Points) k.toNat).Y) ((at_ ((at_ ss' i.toNat).Points) k.toNat).T)))))))]) rfl (⟨.inl rfl, .inl rfl, .inl rfl, .inl rfl, .inl rfl, .inl rfl, trivial⟩) (⟨.inl rfl, .inl rfl, .inr ⟨rfl, rfl, (by first | rfl | (simp; done) | omega), fun i_ hi_ => .inl (osetStroke 8032 i.toNat ss' (((at_ ss' i.toNat).Points).set k.toNat (Point.mk (((at_ ((at_ ss' i.toNat).Points) k.toNat).X) + dx) ((at_ ((at_ ss' i.toNat).Points) k.toNat).Y) ((at_ ((at_ ss' i.toNat).Points) k.toNat).T))) i_)⟩, .inr (fsetStroke (P := i.toNat) (k := k.toNat) ((by omega)) ((by omega)) (by simp only [Nat.beq_refl, cond_true]; try rfl) (by intro i hi; simp only [Nat.beq_refl, cond_true, beq_ne hi, cond_false]; try rfl) (by intro p hp; simp only [beq_ne hp, cond_false])), trivial⟩) ?_
      refine x_reg [] [1, 2, 6, 7, 8, 9] [6, 7, 8031, 8032] [I dx, I dy, .ref 6 0, .ref 7 0, I i, I k] [some (.box [nilA]), some (.box [.arr 8031]), some (.oar [8032] 1 ((ss'.set i.toNat (Stroke.withPoints (at_ ss' i.toNat) (((at_ ss' i.toNat).Points).set k.toNat (Point.mk (((at_ ((at_ ss' i.toNat).Points) k.toNat).X) + dx) ((at_ ((at_ ss' i.toNat).Points) k.toNat).Y) ((at_ ((at_ ss' i.toNat).Points) k.toNat).T))))).length) (oStroke 8032 (ss'.set i.toNat (Stroke.withPoints (at_ ss' i.toNat) (((at_ ss' i.toNat).Points).set k.toNat (Point.mk (((at_ ((at_ ss' i.toNat).Points) k.toNat).X) + dx) ((at_ ((at_ ss' i.toNat).Points) k.toNat).Y) ((at_ ((at_ ss' i.toNat).Points) k.toNat).T))))))), some (.fam (ss'.set i.toNat (Stroke.withPoints (at_ ss' i.toNat) (((at_ ss' i.toNat).Points).set k.toNat (Point.mk (((at_ ((at_ ss' i.toNat).Points) k.toNat).X) + dx) ((at_ ((at_ ss' i.toNat).Points) k.toNat).Y) ((at_ ((at_ ss' i.toNat).Points) k.toNat).T))))).length 3 (mStroke (ss'.set i.toNat (Stroke.withPoints (at_ ss' i.toNat) (((at_ ss' i.toNat).Points).set k.toNat (Point.mk (((at_ ((at_ ss' i.toNat).Points) k.toNat).X) + dx) ((at_ ((at_ ss' i.toNat).Points) k.toNat).Y) ((at_ ((at_ ss' i.toNat).Points) k.toNat).T)))))) (fun q => bif Nat.beq q i.toNat then (fun q => bif Nat.beq q k.toNat then [I ((at_ ((at_ (ss'.set i.toNat (Stroke.withPoints (at_ ss' i.toNat) (((at_ ss' i.toNat).Points).set k.toNat (Point.mk (((at_ ((at_ ss' i.toNat).Points) k.toNat).X) + dx) ((at_ ((at_ ss' i.toNat).Points) k.toNat).Y) ((at_ ((at_ ss' i.toNat).Points) k.toNat).T))))) i.toNat).Points) k.toNat).X), I (((at_ ((at_ (ss'.set i.toNat (Stroke.withPoints (at_ ss' i.toNat) (((at_ ss' i.toNat).Points).set k.toNat (Point.mk (((at_ ((at_ ss' i.toNat).Points) k.toNat).X) + dx) ((at_ ((at_ ss' i.toNat).Points) k.toNat).Y) ((at_ ((at_ ss' i.toNat).Points) k.toNat).T))))) i.toNat).Points) k.toNat).Y) + dy), I ((at_ ((at_ (ss'.set i.toNat (Stroke.withPoints (at_ ss' i.toNat) (((at_ ss' i.toNat).Points).set k.toNat (Point.mk (((at_ ((at_ ss' i.toNat).Points) k.toNat).X) + dx) ((at_ ((at_ ss' i.toNat).Points) k.toNat).Y) ((at_ ((at_ ss' i.toNat).Points) k.toNat).T))))) i.toNat).Points) k.toNat).T)] else (gStroke (ss'.set i.toNat (Stroke.withPoints (at_ ss' i.toNat) (((at_ ss' i.toNat).Points).set k.toNat (Point.mk (((at_ ((at_ ss' i.toNat).Points) k.toNat).X) + dx) ((at_ ((at_ ss' i.toNat).Points) k.toNat).Y) ((at_ ((at_ ss' i.toNat).Points) k.toNat).T)))))) i.toNat q) else (gStroke (ss'.set i.toNat (Stroke.withPoints (at_ ss' i.toNat) (((at_ ss' i.toNat).Points).set k.toNat (Point.mk (((at_ ((at_ ss' i.toNat).Points) k.toNat).X) + dx) ((at_ ((at_ ss' i.toNat).Points) k.toNat).Y) ((at_ ((at_ ss' i.toNat).Points) k.toNat).T)))))) q))] [(0 : Int) ≤ i ∧ i < (((ss'.set i.toNat (Stroke.withPoints (at_ ss' i.toNat) (((at_ ss' i.toNat).Points).set k.toNat (Point.mk (((at_ ((at_ ss' i.toNat).Points) k.toNat).X) + dx) ((at_ ((at_ ss' i.toNat).Points) k.toNat).Y) ((at_ ((at_ ss' i.toNat).Points) k.toNat).T))))).length) : Int), i.toNat < (ss'.set i.toNat (Stroke.withPoints (at_ ss' i.toNat) (((at_ ss' i.toNat).Points).set k.toNat (Point.mk (((at_ ((at_ ss' i.toNat).Points) k.toNat).X) + dx) ((at_ ((at_ ss' i.toNat).Points) k.toNat).Y) ((at_ ((at_ ss' i.toNat).Points) k.toNat).T))))).length, i.toNat < (ss'.set i.toNat (Stroke.withPoints (at_ ss' i.toNat) (((at_ ss' i.toNat).Points).set k.toNat (Point.mk (((at_ ((at_ ss' i.toNat).Points) k.toNat).X) + dx) ((at_ ((at_ ss' i.toNat).Points) k.toNat).Y) ((at_ ((at_ ss' i.toNat).Points) k.toNat).T))))).length ∧ (0 : Int) ≤ k ∧ k < ((((at_ (ss'.set i.toNat (Stroke.withPoints (at_ ss' i.toNat) (((at_ ss' i.toNat).Points).set k.toNat (Point.mk (((at_ ((at_ ss' i.toNat).Points) k.toNat).X) + dx) ((at_ ((at_ ss' i.toNat).Points) k.toNat).Y) ((at_ ((at_ ss' i.toNat).Points) k.toNat).T))))) i.toNat).Points).length) : Int), i.toNat < (ss'.set i.toNat (Stroke.withPoints (at_ ss' i.toNat) (((at_ ss' i.toNat).Points).set k.toNat (Point.mk (((at_ ((at_ ss' i.toNat).Points) k.toNat).X) + dx) ((at_ ((at_ ss' i.toNat).Points) k.toNat).Y) ((at_ ((at_ ss' i.toNat).Points) k.toNat).T))))).length ∧ k.toNat < ((at_ (ss'.set i.toNat (Stroke.withPoints (at_ ss' i.toNat) (((at_ ss' i.toNat).Points).set k.toNat (Point.mk (((at_ ((at_ ss' i.toNat).Points) k.toNat).X) + dx) ((at_ ((at_ ss' i.toNat).Points) k.toNat).Y) ((at_ ((at_ ss' i.toNat).Points) k.toNat).T))))) i.toNat).Points).length, inR .i64 (((at_ ((at_ (ss'.set i.toNat (Stroke.withPoints (at_ ss' i.toNat) (((at_ ss' i.toNat).Points).set k.toNat (Point.mk (((at_ ((at_ ss' i.toNat).Points) k.toNat).X) + dx) ((at_ ((at_ ss' i.toNat).Points) k.toNat).Y) ((at_ ((at_ ss' i.toNat).Points) k.toNat).T))))) i.toNat).Points) k.toNat).Y) + dy), i.toNat < (ss'.set i.toNat (Stroke.withPoints (at_ ss' i.toNat) (((at_ ss' i.toNat).Points).set k.toNat (Point.mk (((at_ ((at_ ss' i.toNat).Points) k.toNat).X) + dx) ((at_ ((at_ ss' i.toNat).Points) k.toNat).Y) ((at_ ((at_ ss' i.toNat).Points) k.toNat).T))))).length ∧ (0 : Int) ≤ k ∧ k < ((((at_ (ss'.set i.toNat (Stroke.withPoints (at_ ss' i.toNat) (((at_ ss' i.toNat).Points).set k.toNat (Point.mk (((at_ ((at_ ss' i.toNat).Points) k.toNat).X) + dx) ((at_ ((at_ ss' i.toNat).Points) k.toNat).Y) ((at_ ((at_ ss' i.toNat).Points) k.toNat).T))))) i.toNat).Points).length) : Int), i.toNat < (ss'.set i.toNat (Stroke.withPoints (at_ ss' i.toNat) (((at_ ss' i.toNat).Points).set k.toNat (Point.mk (((at_ ((at_ ss' i.toNat).Points) k.toNat).X) + dx) ((at_ ((at_ ss' i.toNat).Points) k.toNat).Y) ((at_ ((at_ ss' i.toNat).Points) k.toNat).T))))).length ∧ k.toNat < ((at_ (ss'.set i.toNat (Stroke.withPoints (at_ ss' i.toNat) (((at_ ss' i.toNat).Points).set k.toNat (Point.mk (((at_ ((at_ ss' i.toNat).Points) k.toNat).X) + dx) ((at_ ((at_ ss' i.toNat).Points) k.toNat).Y) ((at_ ((at_ ss' i.toNat).Points) k.toNat).T))))) i.toNat).Points).length] (by kernel_rfl) ⟨⟨(by (try simp only [List.length_set, at_setS hlx, at_setS hlk, Stroke.withPoints, List.set_set]); omega), (by (try simp only [List.length_set, at_setS hlx, at_setS hlk, Stroke.withPoints, List.set_set]); omega)⟩, (by (try simp only [List.length_set, at_setS hlx, at_setS hlk, Stroke.withPoints, List.set_set]); omega), ⟨(by (try simp only [List.length_set, at_setS hlx, at_setS hlk, Stroke.withPoints, List.set_set]); omega), (by omega), (by (try simp only [List.length_set, at_setS hlx, at_setS hlk, Stroke.withPoints, List.set_set]); omega)⟩, ⟨(by (try simp only [List.length_set, at_setS hlx, at_setS hlk, Stroke.withPoints, List.set_set]); omega), (by (try simp only [List.length_set, at_setS hlx, at_setS hlk, Stroke.withPoints, List.set_set]); omega)⟩, (by (try simp only [List.length_set, at_setS hlx, at_setS hlk, Stroke.withPoints, List.set_set]); exact inR_i64 (by omega) (by omega)), ⟨(by (try simp only [List.length_set, at_setS hlx, at_setS hlk, Stroke.withPoints, List.set_set]); omega), (by omega), (by (try simp only [List.length_set, at_setS hlx, at_setS hlk, Stroke.withPoints, List.set_set]); omega)⟩, ⟨(by (try simp only [List.length_set, at_setS hlx, at_setS hlk, Stroke.withPoints, List.set_set]); omega), (by (try simp only [List.length_set, at_setS hlx, at_setS hlk, Stroke.withPoints, List.set_set]); omega)⟩, trivial⟩ ?_
      refine xe_block 3 ?_
      refine xe_then ?_
      refine x_weak [] (T := [(1, I dx), (2, I dy), (6, .ref 6 0), (7, .ref 7 0), (8, I i), (9, I k)]) (O := [(6, .box [nilA]), (7, .box [.arr 8031]), (8031, .oar [8032] 1 (((ss'.set i.toNat (Stroke.withPoints (at_ ss' i.toNat) (((at_ ss' i.toNat).Points).set k.toNat (Point.mk (((at_ ((at_ ss' i.toNat).Points) k.toNat).X) + dx) ((at_ ((at_ ss' i.toNat).Points) k.toNat).Y) ((at_ ((at_ ss' i.toNat).Points) k.toNat).T))))).set i.toNat (Stroke.withPoints (at_ (ss'.set i.toNat (Stroke.withPoints (at_ ss' i.toNat) (((at_ ss' i.toNat).Points).set k.toNat (Point.mk (((at_ ((at_ ss' i.toNat).Points) k.toNat).X) + dx) ((at_ ((at_ ss' i.toNat).Points) k.toNat).Y) ((at_ ((at_ ss' i.toNat).Points) k.toNat).T))))) i.toNat) (((at_ (ss'.set i.toNat (Stroke.withPoints (at_ ss' i.toNat) (((at_ ss' i.toNat).Points).set k.toNat (Point.mk (((at_ ((at_ ss' i.toNat).Points) k.toNat).X) + dx) ((at_ ((at_ ss' i.toNat).Points) k.toNat).Y) ((at_ ((at_ ss' i.toNat).Points) k.toNat).T))))) i.toNat).Points).set k.toNat (Point.mk ((at_ ((at_ (ss'.set i.toNat (Stroke.withPoints (at_ ss' i.toNat) (((at_ ss' i.toNat).Points).set k.toNat (Point.mk (((at_ ((at_ ss' i.toNat).Points) k.toNat).X) + dx) ((at_ ((at_ ss' i.toNat).Points) k.toNat).Y) ((at_ ((at_ ss' i.toNat).Points) k.toNat).T))))) i.toNat).Points) k.toNat).X) (((at_ ((at_ (ss'.set i.toNat (Stroke.withPoints (at_ ss' i.toNat) (((at_ ss' i.toNat).Points).set k.toNat (Point.mk (((at_ ((at_ ss' i.toNat).Points) k.toNat).X) + dx) ((at_ ((at_ ss' i.toNat).Points) k.toNat).Y) ((at_ ((at_ ss' i.toNat).Points) k.toNat).T))))) i.toNat).Points) k.toNat).Y) + dy) ((at_ ((at_ (ss'.set i.toNat (Stroke.withPoints (at_ ss' i.toNat) (((at_ ss' i.toNat).Points).set k.toNat (Point.mk (((at_ ((at_ ss' i.toNat).Points) k.toNat).X) + dx) ((at_ ((at_ ss' i.toNat).Points) k.toNat).Y) ((at_ ((at_ ss' i.toNat).Points) k.toNat).T))))) i.toNat).Points) k.toNat).T))))).length) (oStroke 8032 ((ss'.set i.toNat (Stroke.withPoints (at_ ss' i.toNat) (((at_ ss' i.toNat).Points).set k.toNat (Point.mk (((at_ ((at_ ss' i.toNat).Points) k.toNat).X) + dx) ((at_ ((at_ ss' i.toNat).Points) k.toNat).Y) ((at_ ((at_ ss' i.toNat).Points) k.toNat).T))))).set i.toNat (Stroke.withPoints (at_ (ss'.set i.toNat (Stroke.withPoints (at_ ss' i.toNat) (((at_ ss' i.toNat).Points).set k.toNat (Point.mk (((at_ ((at_ ss' i.toNat).Points) k.toNat).X) + dx) ((at_ ((at_ ss' i.toNat).Points) k.toNat).Y) ((at_ ((at_ ss' i.toNat).Points) k.toNat).T))))) i.toNat) (((at_ (ss'.set i.toNat (Stroke.withPoints (at_ ss' i.toNat) (((at_ ss' i.toNat).Points).set k.toNat (Point.mk (((at_ ((at_ ss' i.toNat).Points) k.toNat).X) + dx) ((at_ ((at_ ss' i.toNat).Points) k.toNat).Y) ((at_ ((at_ ss' i.toNat).Points) k.toNat).T))))) i.toNat).Points).set k.toNat (Point.mk ((at_ ((at_ (ss'.set i.toNat (Stroke.withPoints (at_ ss' i.toNat) (((at_ ss' i.toNat).Points).set k.toNat (Point.mk (((at_ ((at_ ss' i.toNat).Points) k.toNat).X) + dx) ((at_ ((at_ ss' i.toNat).Points) k.toNat).Y) ((at_ ((at_ ss' i.toNat).Points) k.toNat).T))))) i.toNat).Points) k.toNat).X) (((at_ ((at_ (ss'.set i.toNat (Stroke.withPoints (at_ ss' i.toNat) (((at_ ss' i.toNat).Points).set k.toNat (Point.mk (((at_ ((at_ ss' i.toNat).Points) k.toNat).X) + dx) ((at_ ((at_ ss' i.toNat).Points) k.toNat).Y) ((at_ ((at_ ss' i.toNat).Points) k.toNat).T))))) i.toNat).Points) k.toNat).Y) + dy) ((at_ ((at_ (ss'.set i.toNat (Stroke.withPoints (at_ ss' i.toNat) (((at_ ss' i.toNat).Points).set k.toNat (Point.mk (((at_ ((at_ ss' i.toNat).Points) k.toNat).X) + dx) ((at_ ((at_ ss' i.toNat).Points) k.toNat).Y) ((at_ ((at_ ss' i.toNat).Points) k.toNat).T))))) i.toNat).Points) k.toNat).T))))))), (8032, .fam ((ss'.set i.toNat (Stroke.withPoints (at_ ss' i.toNat) (((at_ ss' i.toNat).Points).set k.toNat (Point.mk (((at_ ((at_ ss' i.toNat).Points) k.toNat).X) + dx) ((at_ ((at_ ss' i.toNat).Points) k.toNat).Y) ((at_ ((at_ ss' i.toNat).Points) k.toNat).T))))).set i.toNat (Stroke.withPoints (at_ (ss'.set i.toNat (Stroke.withPoints (at_ ss' i.toNat) (((at_ ss' i.toNat).Points).set k.toNat (Point.mk (((at_ ((at_ ss' i.toNat).Points) k.toNat).X) + dx) ((at_ ((at_ ss' i.toNat).Points) k.toNat).Y) ((at_ ((at_ ss' i.toNat).Points) k.toNat).T))))) i.toNat) (((at_ (ss'.set i.toNat (Stroke.withPoints (at_ ss' i.toNat) (((at_ ss' i.toNat).Points).set k.toNat (Point.mk (((at_ ((at_ ss' i.toNat).Points) k.toNat).X) + dx) ((at_ ((at_ ss' i.toNat).Points) k.toNat).Y) ((at_ ((at_ ss' i.toNat).Points) k.toNat).T))))) i.toNat).Points).set k.toNat (Point.mk ((at_ ((at_ (ss'.set i.toNat (Stroke.withPoints (at_ ss' i.toNat) (((at_ ss' i.toNat).Points).set k.toNat (Point.mk (((at_ ((at_ ss' i.toNat).Points) k.toNat).X) + dx) ((at_ ((at_ ss' i.toNat).Points) k.toNat).Y) ((at_ ((at_ ss' i.toNat).Points) k.toNat).T))))) i.toNat).Points) k.toNat).X) (((at_ ((at_ (ss'.set i.toNat (Stroke.withPoints (at_ ss' i.toNat) (((at_ ss' i.toNat).Points).set k.toNat (Point.mk (((at_ ((at_ ss' i.toNat).Points) k.toNat).X) + dx) ((at_ ((at_ ss' i.toNat).Points) k.toNat).Y) ((at_ ((at_ ss' i.toNat).Points) k.toNat).T))))) i.toNat).Points) k.toNat).Y) + dy) ((at_ ((at_ (ss'.set i.toNat (Stroke.withPoints (at_ ss' i.toNat) (((at_ ss' i.toNat).Points).set k.toNat (Point.mk (((at_ ((at_ ss' i.toNat).Points) k.toNat).X) + dx) ((at_ ((at_ ss' i.toNat).Points) k.toNat).Y) ((at_ ((at_ ss' i.toNat).Points) k.toNat).T))))) i.toNat).Points) k.toNat).T))))).length 3 (mStroke ((ss'.set i.toNat (Stroke.withPoints (at_ ss' i.toNat) (((at_ ss' i.toNat).Points).set k.toNat (Point.mk (((at_ ((at_ ss' i.toNat).Points) k.toNat).X) + dx) ((at_ ((at_ ss' i.toNat).Points) k.toNat).Y) ((at_ ((at_ ss' i.toNat).Points) k.toNat).T))))).set i.toNat (Stroke.withPoints (at_ (ss'.set i.toNat (Stroke.withPoints (at_ ss' i.toNat) (((at_ ss' i.toNat).Points).set k.toNat (Point.mk (((at_ ((at_ ss' i.toNat).Points) k.toNat).X) + dx) ((at_ ((at_ ss' i.toNat).Points) k.toNat).Y) ((at_ ((at_ ss' i.toNat).Points) k.toNat).T))))) i.toNat) (((at_ (ss'.set i.toNat (Stroke.withPoints (at_ ss' i.toNat) (((at_ ss' i.toNat).Points).set k.toNat (Point.mk (((at_ ((at_ ss' i.toNat).Points) k.toNat).X) + dx) ((at_ ((at_ ss' i.toNat).Points) k.toNat).Y) ((at_ ((at_ ss' i.toNat).Points) k.toNat).T))))) i.toNat).Points).set k.toNat (Point.mk ((at_ ((at_ (ss'.set i.toNat (Stroke.withPoints (at_ ss' i.toNat) (((at_ ss' i.toNat).Points).set k.toNat (Point.mk (((at_ ((at_ ss' i.toNat).Points) k.toNat).X) + dx) ((at_ ((at_ ss' i.toNat).Points) k.toNat).Y) ((at_ ((at_ ss' i.toNat).Points) k.toNat).T))))) i.toNat).Points) k.toNat).X) (((at_ ((at_ (ss'.set i.toNat (Stroke.withPoints (at_ ss' i.toNat) (((at_ ss' i.toNat).Points).set k.toNat (Point.mk (((at_ ((at_ ss' i.toNat).Points) k.toNat).X) + dx) ((at_ ((at_ ss' i.toNat).Points) k.toNat).Y) ((at_ ((at_ ss' i.toNat).Points) k.toNat).T))))) i.toNat).Points) k.toNat).Y) + dy) ((at_ ((at_ (ss'.set i.toNat (Stroke.withPoints (at_ ss' i.toNat) (((at_ ss' i.toNat).Points).set k.toNat (Point.mk (((at_ ((at_ ss' i.toNat).Points) k.toNat).X) + dx) ((at_ ((at_ ss' i.toNat).Points) k.toNat).Y) ((at_ ((at_ ss' i.toNat).Points) k.toNat).T))))) i.toNat).Points) k.toNat).T)))))) (gStroke ((ss'.set i.toNat (Stroke.withPoints (at_ ss' i.toNat) (((at_ ss' i.toNat).Points).set k.toNat (Point.mk (((at_ ((at_ ss' i.toNat).Points) k.toNat).X) + dx) ((at_ ((at_ ss' i.toNat).Points) k.toNat).Y) ((at_ ((at_ ss' i.toNat).Points) k.toNat).T))))).set i.toNat (Stroke.withPoints (at_ (ss'.set i.toNat (Stroke.withPoints (at_ ss' i.toNat) (((at_ ss' i.toNat).Points).set k.toNat (Point.mk (((at_ ((at_ ss' i.toNat).Points) k.toNat).X) + dx) ((at_ ((at_ ss' i.toNat).Points) k.toNat).Y) ((at_ ((at_ ss' i.toNat).Points) k.toNat).T))))) i.toNat) (((at_ (ss'.set i.toNat (Stroke.withPoints (at_ ss' i.toNat) (((at_ ss' i.toNat).Points).set k.toNat (Point.mk (((at_ ((at_ ss' i.toNat).Points) k.toNat).X) + dx) ((at_ ((at_ ss' i.toNat).Points) k.toNat).Y) ((at_ ((at_ ss' i.toNat).Points) k.toNat).T))))) i.toNat).Points).set k.toNat (Point.mk ((at_ ((at_ (ss'.set i.toNat (Stroke.withPoints (at_ ss' i.toNat) (((at_ ss' i.toNat).Points).set k.toNat (Point.mk (((at_ ((at_ ss' i.toNat).Points) k.toNat).X) + dx) ((at_ ((at_ ss' i.toNat).Points) k.toNat).Y) ((at_ ((at_ ss' i.toNat).Points) k.toNat).T))))) i.toNat).Points) k.toNat).X) (((at_ ((at_ (ss'.set i.toNat (Stroke.withPoints (at_ ss' i.toNat) (((at_ ss' i.toNat).Points).set k.toNat (Point.mk (((at_ ((at_ ss' i.toNat).Points) k.toNat).X) + dx) ((at_ ((at_ ss' i.toNat).Points) k.toNat).Y) ((at_ ((at_ ss' i.toNat).Points) k.toNat).T))))) i.toNat).Points) k.toNat).Y) + dy) ((at_ ((at_ (ss'.set i.toNat (Stroke.withPoints (at_ ss' i.toNat) (((at_ ss' i.toNat).Points).set k.toNat (Point.mk (((at_ ((at_ ss' i.toNat).Points) k.toNat).X) + dx) ((at_ ((at_ ss' i.toNat).Points) k.toNat).Y) ((at_ ((at_ ss' i.toNat).Points) k.toNat).T))))) i.toNat).Points) k.toNat).T)))))))]) rfl (⟨.inl rfl, .inl rfl, .inl rfl, .inl rfl, .inl rfl, .inl rfl, trivial⟩) (⟨.inl rfl, .inl rfl, .inr ⟨rfl, rfl, (by first | rfl | (simp; done) | omega), fun i_ hi_ => .inl (osetStroke 8032 i.toNat (ss'.set i.toNat (Stroke.withPoints (at_ ss' i.toNat) (((at_ ss' i.toNat).Points).set k.toNat (Point.mk (((at_ ((at_ ss' i.toNat).Points) k.toNat).X) + dx) ((at_ ((at_ ss' i.toNat).Points) k.toNat).Y) ((at_ ((at_ ss' i.toNat).Points) k.toNat).T))))) (((at_ (ss'.set i.toNat (Stroke.withPoints (at_ ss' i.toNat) (((at_ ss' i.toNat).Points).set k.toNat (Point.mk (((at_ ((at_ ss' i.toNat).Points) k.toNat).X) + dx) ((at_ ((at_ ss' i.toNat).Points) k.toNat).Y) ((at_ ((at_ ss' i.toNat).Points) k.toNat).T))))) i.toNat).Points).set k.toNat (Point.mk ((at_ ((at_ (ss'.set i.toNat (Stroke.withPoints (at_ ss' i.toNat) (((at_ ss' i.toNat).Points).set k.toNat (Point.mk (((at_ ((at_ ss' i.toNat).Points) k.toNat).X) + dx) ((at_ ((at_ ss' i.toNat).Points) k.toNat).Y) ((at_ ((at_ ss' i.toNat).Points) k.toNat).T))))) i.toNat).Points) k.toNat).X) (((at_ ((at_ (ss'.set i.toNat (Stroke.withPoints (at_ ss' i.toNat) (((at_ ss' i.toNat).Points).set k.toNat (Point.mk (((at_ ((at_ ss' i.toNat).Points) k.toNat).X) + dx) ((at_ ((at_ ss' i.toNat).Points) k.toNat).Y) ((at_ ((at_ ss' i.toNat).Points) k.toNat).T))))) i.toNat).Points) k.toNat).Y) + dy) ((at_ ((at_ (ss'.set i.toNat (Stroke.withPoints (at_ ss' i.toNat) (((at_ ss' i.toNat).Points).set k.toNat (Point.mk (((at_ ((at_ ss' i.toNat).Points) k.toNat).X) + dx) ((at_ ((at_ ss' i.toNat).Points) k.toNat).Y) ((at_ ((at_ ss' i.toNat).Points) k.toNat).T))))) i.toNat).Points) k.toNat).T))) i_)⟩, .inr (fsetStroke (P := i.toNat) (k := k.toNat) ((by (try simp only [List.length_set, at_setS hlx, at_setS hlk, Stroke.withPoints, List.set_set]); omega)) ((by (try simp only [List.length_set, at_setS hlx, at_setS hlk, Stroke.withPoints, List.set_set]); omega)) (by simp only [Nat.beq_refl, cond_true]; try rfl) (by intro i hi; simp only [Nat.beq_refl, cond_true, beq_ne hi, cond_false]; try rfl) (by intro p hp; simp only [beq_ne hp, cond_false])), trivial⟩) ?_
      refine x_reg [] [1, 2, 6, 7, 8, 9] [6, 7, 8031, 8032] [I dx, I dy, .ref 6 0, .ref 7 0, I i, I (k + 1)] [some (.box [nilA]), some (.box [.arr 8031]), some (.oar [8032] 1 (((ss'.set i.toNat (Stroke.withPoints (at_ ss' i.toNat) (((at_ ss' i.toNat).Points).set k.toNat (Point.mk (((at_ ((at_ ss' i.toNat).Points) k.toNat).X) + dx) ((at_ ((at_ ss' i.toNat).Points) k.toNat).Y) ((at_ ((at_ ss' i.toNat).Points) k.toNat).T))))).set i.toNat (Stroke.withPoints (at_ (ss'.set i.toNat (Stroke.withPoints (at_ ss' i.toNat) (((at_ ss' i.toNat).Points).set k.toNat (Point.mk (((at_ ((at_ ss' i.toNat).Points) k.toNat).X) + dx) ((at_ ((at_ ss' i.toNat).Points) k.toNat).Y) ((at_ ((at_ ss' i.toNat).Points) k.toNat).T))))) i.toNat) (((at_ (ss'.set i.toNat (Stroke.withPoints (at_ ss' i.toNat) (((at_ ss' i.toNat).Points).set k.toNat (Point.mk (((at_ ((at_ ss' i.toNat).Points) k.toNat).X) + dx) ((at_ ((at_ ss' i.toNat).Points) k.toNat).Y) ((at_ ((at_ ss' i.toNat).Points) k.toNat).T))))) i.toNat).Points).set k.toNat (Point.mk ((at_ ((at_ (ss'.set i.toNat (Stroke.withPoints (at_ ss' i.toNat) (((at_ ss' i.toNat).Points).set k.toNat (Point.mk (((at_ ((at_ ss' i.toNat).Points) k.toNat).X) + dx) ((at_ ((at_ ss' i.toNat).Points) k.toNat).Y) ((at_ ((at_ ss' i.toNat).Points) k.toNat).T))))) i.toNat).Points) k.toNat).X) (((at_ ((at_ (ss'.set i.toNat (Stroke.withPoints (at_ ss' i.toNat) (((at_ ss' i.toNat).Points).set k.toNat (Point.mk (((at_ ((at_ ss' i.toNat).Points) k.toNat).X) + dx) ((at_ ((at_ ss' i.toNat).Points) k.toNat).Y) ((at_ ((at_ ss' i.toNat).Points) k.toNat).T))))) i.toNat).Points) k.toNat).Y) + dy) ((at_ ((at_ (ss'.set i.toNat (Stroke.withPoints (at_ ss' i.toNat) (((at_ ss' i.toNat).Points).set k.toNat (Point.mk (((at_ ((at_ ss' i.toNat).Points) k.toNat).X) + dx) ((at_ ((at_ ss' i.toNat).Points) k.toNat).Y) ((at_ ((at_ ss' i.toNat).Points) k.toNat).T))))) i.toNat).Points) k.toNat).T))))).length) (oStroke 8032 ((ss'.set i.toNat (Stroke.withPoints (at_ ss' i.toNat) (((at_ ss' i.toNat).Points).set k.toNat (Point.mk (((at_ ((at_ ss' i.toNat).Points) k.toNat).X) + dx) ((at_ ((at_ ss' i.toNat).Points) k.toNat).Y) ((at_ ((at_ ss' i.toNat).Points) k.toNat).T))))).set i.toNat (Stroke.withPoints (at_ (ss'.set i.toNat (Stroke.withPoints (at_ ss' i.toNat) (((at_ ss' i.toNat).Points).set k.toNat (Point.mk (((at_ ((at_ ss' i.toNat).Points) k.toNat).X) + dx) ((at_ ((at_ ss' i.toNat).Points) k.toNat).Y) ((at_ ((at_ ss' i.toNat).Points) k.toNat).T))))) i.toNat) (((at_ (ss'.set i.toNat (Stroke.withPoints (at_ ss' i.toNat) (((at_ ss' i.toNat).Points).set k.toNat (Point.mk (((at_ ((at_ ss' i.toNat).Points) k.toNat).X) + dx) ((at_ ((at_ ss' i.toNat).Points) k.toNat).Y) ((at_ ((at_ ss' i.toNat).Points) k.toNat).T))))) i.toNat).Points).set k.toNat (Point.mk ((at_ ((at_ (ss'.set i.toNat (Stroke.withPoints (at_ ss' i.toNat) (((at_ ss' i.toNat).Points).set k.toNat (Point.mk (((at_ ((at_ ss' i.toNat).Points) k.toNat).X) + dx) ((at_ ((at_ ss' i.toNat).Points) k.toNat).Y) ((at_ ((at_ ss' i.toNat).Points) k.toNat).T))))) i.toNat).Points) k.toNat).X) (((at_ ((at_ (ss'.set i.toNat (Stroke.withPoints (at_ ss' i.toNat) (((at_ ss' i.toNat).Points).set k.toNat (Point.mk (((at_ ((at_ ss' i.toNat).Points) k.toNat).X) + dx) ((at_ ((at_ ss' i.toNat).Points) k.toNat).Y) ((at_ ((at_ ss' i.toNat).Points) k.toNat).T))))) i.toNat).Points) k.toNat).Y) + dy) ((at_ ((at_ (ss'.set i.toNat (Stroke.withPoints (at_ ss' i.toNat) (((at_ ss' i.toNat).Points).set k.toNat (Point.mk (((at_ ((at_ ss' i.toNat).Points) k.toNat).X) + dx) ((at_ ((at_ ss' i.toNat).Points) k.toNat).Y) ((at_ ((at_ ss' i.toNat).Points) k.toNat).T))))) i.toNat).Points) k.toNat).T))))))), some (.fam ((ss'.set i.toNat (Stroke.withPoints (at_ ss' i.toNat) (((at_ ss' i.toNat).Points).set k.toNat (Point.mk (((at_ ((at_ ss' i.toNat).Points) k.toNat).X) + dx) ((at_ ((at_ ss' i.toNat).Points) k.toNat).Y) ((at_ ((at_ ss' i.toNat).Points) k.toNat).T))))).set i.toNat (Stroke.withPoints (at_ (ss'.set i.toNat (Stroke.withPoints (at_ ss' i.toNat) (((at_ ss' i.toNat).Points).set k.toNat (Point.mk (((at_ ((at_ ss' i.toNat).Points) k.toNat).X) + dx) ((at_ ((at_ ss' i.toNat).Points) k.toNat).Y) ((at_ ((at_ ss' i.toNat).Points) k.toNat).T))))) i.toNat) (((at_ (ss'.set i.toNat (Stroke.withPoints (at_ ss' i.toNat) (((at_ ss' i.toNat).Points).set k.toNat (Point.mk (((at_ ((at_ ss' i.toNat).Points) k.toNat).X) + dx) ((at_ ((at_ ss' i.toNat).Points) k.toNat).Y) ((at_ ((at_ ss' i.toNat).Points) k.toNat).T))))) i.toNat).Points).set k.toNat (Point.mk ((at_ ((at_ (ss'.set i.toNat (Stroke.withPoints (at_ ss' i.toNat) (((at_ ss' i.toNat).Points).set k.toNat (Point.mk (((at_ ((at_ ss' i.toNat).Points) k.toNat).X) + dx) ((at_ ((at_ ss' i.toNat).Points) k.toNat).Y) ((at_ ((at_ ss' i.toNat).Points) k.toNat).T))))) i.toNat).Points) k.toNat).X) (((at_ ((at_ (ss'.set i.toNat (Stroke.withPoints (at_ ss' i.toNat) (((at_ ss' i.toNat).Points).set k.toNat (Point.mk (((at_ ((at_ ss' i.toNat).Points) k.toNat).X) + dx) ((at_ ((at_ ss' i.toNat).Points) k.toNat).Y) ((at_ ((at_ ss' i.toNat).Points) k.toNat).T))))) i.toNat).Points) k.toNat).Y) + dy) ((at_ ((at_ (ss'.set i.toNat (Stroke.withPoints (at_ ss' i.toNat) (((at_ ss' i.toNat).Points).set k.toNat (Point.mk (((at_ ((at_ ss' i.toNat).Points) k.toNat).X) + dx) ((at_ ((at_ ss' i.toNat).Points) k.toNat).Y) ((at_ ((at_ ss' i.toNat).Points) k.toNat).T))))) i.toNat).Points) k.toNat).T))))).length 3 (mStroke ((ss'.set i.toNat (Stroke.withPoints (at_ ss' i.toNat) (((at_ ss' i.toNat).Points).set k.toNat (Point.mk (((at_ ((at_ ss' i.toNat).Points) k.toNat).X) + dx) ((at_ ((at_ ss' i.toNat).Points) k.toNat).Y) ((at_ ((at_ ss' i.toNat).Points) k.toNat).T))))).set i.toNat (Stroke.withPoints (at_ (ss'.set i.toNat (Stroke.withPoints (at_ ss' i.toNat) (((at_ ss' i.toNat).Points).set k.toNat (Point.mk (((at_ ((at_ ss' i.toNat).Points) k.toNat).X) + dx) ((at_ ((at_ ss' i.toNat).Points) k.toNat).Y) ((at_ ((at_ ss' i.toNat).Points) k.toNat).T))))) i.toNat) (((at_ (ss'.set i.toNat (Stroke.withPoints (at_ ss' i.toNat) (((at_ ss' i.toNat).Points).set k.toNat (Point.mk (((at_ ((at_ ss' i.toNat).Points) k.toNat).X) + dx) ((at_ ((at_ ss' i.toNat).Points) k.toNat).Y) ((at_ ((at_ ss' i.toNat).Points) k.toNat).T))))) i.toNat).Points).set k.toNat (Point.mk ((at_ ((at_ (ss'.set i.toNat (Stroke.withPoints (at_ ss' i.toNat) (((at_ ss' i.toNat).Points).set k.toNat (Point.mk (((at_ ((at_ ss' i.toNat).Points) k.toNat).X) + dx) ((at_ ((at_ ss' i.toNat).Points) k.toNat).Y) ((at_ ((at_ ss' i.toNat).Points) k.toNat).T))))) i.toNat).Points) k.toNat).X) (((at_ ((at_ (ss'.set i.toNat (Stroke.withPoints (at_ ss' i.toNat) (((at_ ss' i.toNat).Points).set k.toNat (Point.mk (((at_ ((at_ ss' i.toNat).Points) k.toNat).X) + dx) ((at_ ((at_ ss' i.toNat).Points) k.toNat).Y) ((at_ ((at_ ss' i.toNat).Points) k.toNat).T))))) i.toNat).Points) k.toNat).Y) + dy) ((at_ ((at_ (ss'.set i.toNat (Stroke.withPoints (at_ ss' i.toNat) (((at_ ss' i.toNat).Points).set k.toNat (Point.mk (((at_ ((at_ ss' i.toNat).Points) k.toNat).X) + dx) ((at_ ((at_ ss' i.toNat).Points) k.toNat).Y) ((at_ ((at_ ss' i.toNat).Points) k.toNat).T))))) i.toNat).Points) k.toNat).T)))))) (gStroke ((ss'.set i.toNat (Stroke.withPoints (at_ ss' i.toNat) (((at_ ss' i.toNat).Points).set k.toNat (Point.mk (((at_ ((at_ ss' i.toNat).Points) k.toNat).X) + dx) ((at_ ((at_ ss' i.toNat).Points) k.toNat).Y) ((at_ ((at_ ss' i.toNat).Points) k.toNat).T))))).set i.toNat (Stroke.withPoints (at_ (ss'.set i.toNat (Stroke.withPoints (at_ ss' i.toNat) (((at_ ss' i.toNat).Points).set k.toNat (Point.mk (((at_ ((at_ ss' i.toNat).Points) k.toNat).X) + dx) ((at_ ((at_ ss' i.toNat).Points) k.toNat).Y) ((at_ ((at_ ss' i.toNat).Points) k.toNat).T))))) i.toNat) (((at_ (ss'.set i.toNat (Stroke.withPoints (at_ ss' i.toNat) (((at_ ss' i.toNat).Points).set k.toNat (Point.mk (((at_ ((at_ ss' i.toNat).Points) k.toNat).X) + dx) ((at_ ((at_ ss' i.toNat).Points) k.toNat).Y) ((at_ ((at_ ss' i.toNat).Points) k.toNat).T))))) i.toNat).Points).set k.toNat (Point.mk ((at_ ((at_ (ss'.set i.toNat (Stroke.withPoints (at_ ss' i.toNat) (((at_ ss' i.toNat).Points).set k.toNat (Point.mk (((at_ ((at_ ss' i.toNat).Points) k.toNat).X) + dx) ((at_ ((at_ ss' i.toNat).Points) k.toNat).Y) ((at_ ((at_ ss' i.toNat).Points) k.toNat).T))))) i.toNat).Points) k.toNat).X) (((at_ ((at_ (ss'.set i.toNat (Stroke.withPoints (at_ ss' i.toNat) (((at_ ss' i.toNat).Points).set k.toNat (Point.mk (((at_ ((at_ ss' i.toNat).Points) k.toNat).X) + dx) ((at_ ((at_ ss' i.toNat).Points) k.toNat).Y) ((at_ ((at_ ss' i.toNat).Points) k.toNat).T))))) i.toNat).Points) k.toNat).Y) + dy) ((at_ ((at_ (ss'.set i.toNat (Stroke.withPoints (at_ ss' i.toNat) (((at_ ss' i.toNat).Points).set k.toNat (Point.mk (((at_ ((at_ ss' i.toNat).Points) k.toNat).X) + dx) ((at_ ((at_ ss' i.toNat).Points) k.toNat).Y) ((at_ ((at_ ss' i.toNat).Points) k.toNat).T))))) i.toNat).Points) k.toNat).T)))))))] [inR .i64 (k + 1)] (by kernel_rfl) ⟨(inR_i64 (by omega) (by omega)), trivial⟩ ?_
      exact xe_again ((k + 1), ((ss'.set i.toNat (Stroke.withPoints (at_ ss' i.toNat) (((at_ ss' i.toNat).Points).set k.toNat (Point.mk (((at_ ((at_ ss' i.toNat).Points) k.toNat).X) + dx) ((at_ ((at_ ss' i.toNat).Points) k.toNat).Y) ((at_ ((at_ ss' i.toNat).Points) k.toNat).T))))).set i.toNat (Stroke.withPoints (at_ (ss'.set i.toNat (Stroke.withPoints (at_ ss' i.toNat) (((at_ ss' i.toNat).Points).set k.toNat (Point.mk (((at_ ((at_ ss' i.toNat).Points) k.toNat).X) + dx) ((at_ ((at_ ss' i.toNat).Points) k.toNat).Y) ((at_ ((at_ ss' i.toNat).Points) k.toNat).T))))) i.toNat) (((at_ (ss'.set i.toNat (Stroke.withPoints (at_ ss' i.toNat) (((at_ ss' i.toNat).Points).set k.toNat (Point.mk (((at_ ((at_ ss' i.toNat).Points) k.toNat).X) + dx) ((at_ ((at_ ss' i.toNat).Points) k.toNat).Y) ((at_ ((at_ ss' i.toNat).Points) k.toNat).T))))) i.toNat).Points).set k.toNat (Point.mk ((at_ ((at_ (ss'.set i.toNat (Stroke.withPoints (at_ ss' i.toNat) (((at_ ss' i.toNat).Points).set k.toNat (Point.mk (((at_ ((at_ ss' i.toNat).Points) k.toNat).X) + dx) ((at_ ((at_ ss' i.toNat).Points) k.toNat).Y) ((at_ ((at_ ss' i.toNat).Points) k.toNat).T))))) i.toNat).Points) k.toNat).X) (((at_ ((at_ (ss'.set i.toNat (Stroke.withPoints (at_ ss' i.toNat) (((at_ ss' i.toNat).Points).set k.toNat (Point.mk (((at_ ((at_ ss' i.toNat).Points) k.toNat).X) + dx) ((at_ ((at_ ss' i.toNat).Points) k.toNat).Y) ((at_ ((at_ ss' i.toNat).Points) k.toNat).T))))) i.toNat).Points) k.toNat).Y) + dy) ((at_ ((at_ (ss'.set i.toNat (Stroke.withPoints (at_ ss' i.toNat) (((at_ ss' i.toNat).Points).set k.toNat (Point.mk (((at_ ((at_ ss' i.toNat).Points) k.toNat).X) + dx) ((at_ ((at_ ss' i.toNat).Points) k.toNat).Y) ((at_ ((at_ ss' i.toNat).Points) k.toNat).T))))) i.toNat).Points) k.toNat).T)))))) rfl (show (0 ≤ (k + 1) ∧ (k + 1) ≤ ((at_ ik.Strokes i.toNat).Points.length : Int)) ∧ (((ss'.set i.toNat (Stroke.withPoints (at_ ss' i.toNat) (((at_ ss' i.toNat).Points).set k.toNat (Point.mk (((at_ ((at_ ss' i.toNat).Points) k.toNat).X) + dx) ((at_ ((at_ ss' i.toNat).Points) k.toNat).Y) ((at_ ((at_ ss' i.toNat).Points) k.toNat).T))))).set i.toNat (Stroke.withPoints (at_ (ss'.set i.toNat (Stroke.withPoints (at_ ss' i.toNat) (((at_ ss' i.toNat).Points).set k.toNat (Point.mk (((at_ ((at_ ss' i.toNat).Points) k.toNat).X) + dx) ((at_ ((at_ ss' i.toNat).Points) k.toNat).Y) ((at_ ((at_ ss' i.toNat).Points) k.toNat).T))))) i.toNat) (((at_ (ss'.set i.toNat (Stroke.withPoints (at_ ss' i.toNat) (((at_ ss' i.toNat).Points).set k.toNat (Point.mk (((at_ ((at_ ss' i.toNat).Points) k.toNat).X) + dx) ((at_ ((at_ ss' i.toNat).Points) k.toNat).Y) ((at_ ((at_ ss' i.toNat).Points) k.toNat).T))))) i.toNat).Points).set k.toNat (Point.mk ((at_ ((at_ (ss'.set i.toNat (Stroke.withPoints (at_ ss' i.toNat) (((at_ ss' i.toNat).Points).set k.toNat (Point.mk (((at_ ((at_ ss' i.toNat).Points) k.toNat).X) + dx) ((at_ ((at_ ss' i.toNat).Points) k.toNat).Y) ((at_ ((at_ ss' i.toNat).Points) k.toNat).T))))) i.toNat).Points) k.toNat).X) (((at_ ((at_ (ss'.set i.toNat (Stroke.withPoints (at_ ss' i.toNat) (((at_ ss' i.toNat).Points).set k.toNat (Point.mk (((at_ ((at_ ss' i.toNat).Points) k.toNat).X) + dx) ((at_ ((at_ ss' i.toNat).Points) k.toNat).Y) ((at_ ((at_ ss' i.toNat).Points) k.toNat).T))))) i.toNat).Points) k.toNat).Y) + dy) ((at_ ((at_ (ss'.set i.toNat (Stroke.withPoints (at_ ss' i.toNat) (((at_ ss' i.toNat).Points).set k.toNat (Point.mk (((at_ ((at_ ss' i.toNat).Points) k.toNat).X) + dx) ((at_ ((at_ ss' i.toNat).Points) k.toNat).Y) ((at_ ((at_ ss' i.toNat).Points) k.toNat).T))))) i.toNat).Points) k.toNat).T))))) = mvIn dx dy i.toNat (k + 1).toNat ik.Strokes) ∧ (((ss'.set i.toNat (Stroke.withPoints (at_ ss' i.toNat) (((at_ ss' i.toNat).Points).set k.toNat (Point.mk (((at_ ((at_ ss' i.toNat).Points) k.toNat).X) + dx) ((at_ ((at_ ss' i.toNat).Points) k.toNat).Y) ((at_ ((at_ ss' i.toNat).Points) k.toNat).T))))).set i.toNat (Stroke.withPoints (at_ (ss'.set i.toNat (Stroke.withPoints (at_ ss' i.toNat) (((at_ ss' i.toNat).Points).set k.toNat (Point.mk (((at_ ((at_ ss' i.toNat).Points) k.toNat).X) + dx) ((at_ ((at_ ss' i.toNat).Points) k.toNat).Y) ((at_ ((at_ ss' i.toNat).Points) k.toNat).T))))) i.toNat) (((at_ (ss'.set i.toNat (Stroke.withPoints (at_ ss' i.toNat) (((at_ ss' i.toNat).Points).set k.toNat (Point.mk (((at_ ((at_ ss' i.toNat).Points) k.toNat).X) + dx) ((at_ ((at_ ss' i.toNat).Points) k.toNat).Y) ((at_ ((at_ ss' i.toNat).Points) k.toNat).T))))) i.toNat).Points).set k.toNat (Point.mk ((at_ ((at_ (ss'.set i.toNat (Stroke.withPoints (at_ ss' i.toNat) (((at_ ss' i.toNat).Points).set k.toNat (Point.mk (((at_ ((at_ ss' i.toNat).Points) k.toNat).X) + dx) ((at_ ((at_ ss' i.toNat).Points) k.toNat).Y) ((at_ ((at_ ss' i.toNat).Points) k.toNat).T))))) i.toNat).Points) k.toNat).X) (((at_ ((at_ (ss'.set i.toNat (Stroke.withPoints (at_ ss' i.toNat) (((at_ ss' i.toNat).Points).set k.toNat (Point.mk (((at_ ((at_ ss' i.toNat).Points) k.toNat).X) + dx) ((at_ ((at_ ss' i.toNat).Points) k.toNat).Y) ((at_ ((at_ ss' i.toNat).Points) k.toNat).T))))) i.toNat).Points) k.toNat).Y) + dy) ((at_ ((at_ (ss'.set i.toNat (Stroke.withPoints (at_ ss' i.toNat) (((at_ ss' i.toNat).Points).set k.toNat (Point.mk (((at_ ((at_ ss' i.toNat).Points) k.toNat).X) + dx) ((at_ ((at_ ss' i.toNat).Points) k.toNat).Y) ((at_ ((at_ ss' i.toNat).Points) k.toNat).T))))) i.toNat).Points) k.toNat).T))))).length = ik.Strokes.length) ∧ ((at_ ((ss'.set i.toNat (Stroke.withPoints (at_ ss' i.toNat) (((at_ ss' i.toNat).Points).set k.toNat (Point.mk (((at_ ((at_ ss' i.toNat).Points) k.toNat).X) + dx) ((at_ ((at_ ss' i.toNat).Points) k.toNat).Y) ((at_ ((at_ ss' i.toNat).Points) k.toNat).T))))).set i.toNat (Stroke.withPoints (at_ (ss'.set i.toNat (Stroke.withPoints (at_ ss' i.toNat) (((at_ ss' i.toNat).Points).set k.toNat (Point.mk (((at_ ((at_ ss' i.toNat).Points) k.toNat).X) + dx) ((at_ ((at_ ss' i.toNat).Points) k.toNat).Y) ((at_ ((at_ ss' i.toNat).Points) k.toNat).T))))) i.toNat) (((at_ (ss'.set i.toNat (Stroke.withPoints (at_ ss' i.toNat) (((at_ ss' i.toNat).Points).set k.toNat (Point.mk (((at_ ((at_ ss' i.toNat).Points) k.toNat).X) + dx) ((at_ ((at_ ss' i.toNat).Points) k.toNat).Y) ((at_ ((at_ ss' i.toNat).Points) k.toNat).T))))) i.toNat).Points).set k.toNat (Point.mk ((at_ ((at_ (ss'.set i.toNat (Stroke.withPoints (at_ ss' i.toNat) (((at_ ss' i.toNat).Points).set k.toNat (Point.mk (((at_ ((at_ ss' i.toNat).Points) k.toNat).X) + dx) ((at_ ((at_ ss' i.toNat).Points) k.toNat).Y) ((at_ ((at_ ss' i.toNat).Points) k.toNat).T))))) i.toNat).Points) k.toNat).X) (((at_ ((at_ (ss'.set i.toNat (Stroke.withPoints (at_ ss' i.toNat) (((at_ ss' i.toNat).Points).set k.toNat (Point.mk (((at_ ((at_ ss' i.toNat).Points) k.toNat).X) + dx) ((at_ ((at_ ss' i.toNat).Points) k.toNat).Y) ((at_ ((at_ ss' i.toNat).Points) k.toNat).T))))) i.toNat).Points) k.toNat).Y) + dy) ((at_ ((at_ (ss'.set i.toNat (Stroke.withPoints (at_ ss' i.toNat) (((at_ ss' i.toNat).Points).set k.toNat (Point.mk (((at_ ((at_ ss' i.toNat).Points) k.toNat).X) + dx) ((at_ ((at_ ss' i.toNat).Points) k.toNat).Y) ((at_ ((at_ ss' i.toNat).Points) k.toNat).T))))) i.toNat).Points) k.toNat).T))))) i.toNat).Points.length = (at_ ik.Strokes i.toNat).Points.length) ∧ True from ⟨(by omega), (by (try simp only [List.length_set, at_setS hlx, at_setS hlk, Stroke.withPoints, List.set_set]); exact mvIn_next hs1 hk0.1 hi hk), (by simp; omega), (by (try simp only [List.length_set, at_setS hlx, at_setS hlk, Stroke.withPoints, List.set_set]); exact hr1), trivial⟩) (by show ((((at_ ik.Strokes i.toNat).Points.length : Int) - (k + 1)).toNat : Nat) < (((at_ ik.Strokes i.toNat).Points.length : Int) - k).toNat; omega)
     ·refine x_reg [(8, .dec false)] [1, 2, 6, 7, 8, 9, 27] [6, 7, 8031, 8032] [I dx, I dy, .ref 6 0, .ref 7 0, I i, I k, Bv false] [some (.box [nilA]), some (.box [.arr 8031]), some (.oar [8032] 1 ss'.length (oStroke 8032 ss')), some (.fam ss'.length 3 (mStroke ss') (gStroke ss'))] [(0 : Int) ≤ i ∧ i < (ss'.length : Int), i.toNat < ss'.length, i.toNat < ss'.length, ¬ (k < ((((at_ ss' i.toNat).Points).length) : Int))] (by kernel_rfl) ⟨⟨(by omega), (by omega)⟩, (by omega), (by omega), h2, trivial⟩ ?_
      refine xe_then ?_
      refine x_false rfl ?_
      refine x_exit ?_
      refine xe_exit_then ?_
      refine xe_loop_exit ?_
      refine xe_exit_same ?_
      refine xe_block 1 ?_
      refine xe_then ?_
      refine x_reg [] [1, 2, 6, 7, 8] [6, 7, 8031, 8032] [I dx, I dy, .ref 6 0, .ref 7 0, I (i + 1)] [some (.box [nilA]), some (.box [.arr 8031]), some (.oar [8032] 1 ss'.length (oStroke 8032 ss')), some (.fam ss'.length 3 (mStroke ss') (gStroke ss'))] [inR .i64 (i + 1)] (by kernel_rfl) ⟨(inR_i64 (by omega) (by omega)), trivial⟩ ?_
      exact xe_again ((i + 1), ss') rfl (show (0 ≤ (i + 1) ∧ (i + 1) ≤ (ik.Strokes.length : Int)) ∧ (ss' = mvFst dx dy (i + 1).toNat ik.Strokes) ∧ (ss'.length = ik.Strokes.length) ∧ True from ⟨(by omega), (by exact mvIn_exit hs1 (by omega) hi (by omega)), (by omega), trivial⟩) (by show (((ik.Strokes.length : Int) - (i + 1)).toNat : Nat) < ((ik.Strokes.length : Int) - i).toNat; omega)
    ·refine x_reg [(4, .dec false)] [1, 2, 6, 7, 8, 16] [6, 7, 8031, 8032] [I dx, I dy, .ref 6 0, .ref 7 0, I i, Bv false] [some (.box [nilA]), some (.box [.arr 8031]), some (.oar [8032] 1 ss.length (oStroke 8032 ss)), some (.fam ss.length 3 (mStroke ss) (gStroke ss))] [¬ (i < (ss.length : Int))] (by kernel_rfl) ⟨h1, trivial⟩ ?_
     refine xe_then ?_
     refine x_false rfl ?_
     refine x_exit ?_
     refine xe_exit_then ?_
     refine xe_loop_exit ?_
     refine xe_exit_same ?_
     refine xe_then ?_
     refine x_seq ?_
     refine x_reg [] [6] [6, 8031, 8032] [.ref 6 0] [some (.box [.arr 8031]), some (.oar [8032] 1 ss.length (oStroke 8032 ss)), some (.fam ss.length 3 (mStroke ss) (gStroke ss))] [] (by kernel_rfl) trivial ?_
     refine xe_then ?_
     refine x_ret ?_
     refine xe_weak [(8051, 8031)] (T := [(6, .ref 6 0)]) (O := [(6, .box [.arr 8051]), (8032, .fam ss.length 3 (mStroke ss) (gStroke ss)), (8051, .oar [8032] 1 ss.length (oStroke 8032 ss))]) rfl (⟨.inl rfl, trivial⟩) (⟨.inl rfl, .inl rfl, .inl rfl, trivial⟩) ?_
     refine xe_end ss (show (ss = (mvI dx dy ik).Strokes) ∧ (True) from ⟨(by rw [hs0]; exact mvFst_all (by omega)), trivial⟩) (⟨.inl rfl, .inl rfl, trivial⟩) (.agg [.arr 8051]) (by kernel_rfl) (.inl rfl) (fun h => by cases h) (fun h => by cases h)
  obtain ⟨ss, ⟨hh0, _⟩, hc⟩ := hh
  exact ⟨ss, hh0, hc⟩


-- spec.MoveInk
theorem MoveInk_ok (ik : Ink) (dx : Int) (dy : Int) : ∃ (v : Ink) (c : Int), (c = 0 → v = mvI dx dy ik ∧ okInk' ik = true ∧ okInk' v = true) ∧ Con Try.prog 13 [.agg [slStroke false ik.Strokes], I dx, I dy] true (.tup [.agg [slStroke true v.Strokes], I c]) := by
  have hh : ∃ r : Ink × Int, ((r.2 = 0 → r.1 = mvI dx dy ik ∧ okInk' ik = true ∧ okInk' r.1 = true) ∧ (True)) ∧ CallOK Try.prog 13 [.agg [slStroke false ik.Strokes], I dx, I dy] (lookO []) true (.tup [.agg [slStroke true r.1.Strokes], I r.2]) (lookO []) := by
    refine fn_okX (Φ := fun r : Ink × Int => (r.2 = 0 → r.1 = mvI dx dy ik ∧ okInk' ik = true ∧ okInk' r.1 = true) ∧ (True)) [] (fun r => []) (fn := Try.f13) (nt := 36) Try.func13 rfl rfl (args := [.agg [slStroke false ik.Strokes], I dx, I dy]) rfl (allcons (.inl ⟨rfl, by simp [tagged, taggedL, tagStroke]⟩) (allcons (.inl ⟨rfl, trivial⟩) (allcons (.inl ⟨rfl, trivial⟩) allnil))) (res := fun r => .tup [.agg [slStroke true r.1.Strokes], I r.2]) ?_
    refine x_seq ?_
    refine x_reg [(0, .new 3), (1, .new 6)] [1, 2, 3, 6] [3, 6] [I dx, I dy, .ref 3 0, .ref 6 0] [some (.box [slStroke false ik.Strokes]), some (.box [nilA])] [] (by kernel_rfl) trivial ?_
    refine xe_then ?_
    refine x_seq ?_
    refine x_seq ?_
    rcases Bool.eq_false_or_eq_true (okInk' ik) with h1 | h1
    ·refine x_reg [(0, .call [(false, .ptr false [slStroke false ik.Strokes])] true (Bv true))] [1, 2, 3, 6, 11] [3, 6] [I dx, I dy, .ref 3 0, .ref 6 0, Bv false] [some (.box [slStroke false ik.Strokes]), some (.box [nilA])] [Con Try.prog 56 [.ptr false [slStroke false ik.Strokes]] true (Bv true) ∧ ((false = true → true = true) ∧ AV.idsL [slStroke false ik.Strokes] = [] ∧ ((false = true → false = true) ∧ 1 = 1 ∧ ik.Strokes.length = ik.Strokes.length ∧ ∀ i, i < ik.Strokes.length → (fStroke false ik.Strokes) i = (fStroke false ik.Strokes) i ∨ (AV.idsL ((fStroke false ik.Strokes) i) = [] ∧ leL (fun _ => none) false ((fStroke false ik.Strokes) i) ((fStroke false ik.Strokes) i))) ∧ ([] : List AV) = []) ∧ True] (by kernel_rfl) ⟨⟨(con_bool h1 (l02Ok_ok ik)), ⟨(fun h => by cases h), rfl, ⟨⟨(fun h => by cases h), rfl, rfl, fun i _ => .inl rfl⟩, rfl⟩⟩, trivial⟩, trivial⟩ ?_
     refine xe_then ?_
     refine x_false rfl ?_
     refine x_skip ?_
     refine xe_then ?_
     refine x_seq ?_
     rcases Bool.eq_false_or_eq_true (inB dx (-4095) 4095) with h2 | h2
     ·rcases Bool.eq_false_or_eq_true (inB dy (-4095) 4095) with h3 | h3
      ·refine x_reg [(1, .call [(true, I dx), (true, I (-4095)), (true, I 4095)] true (Bv true)), (5, .call [(true, I dy), (true, I (-4095)), (true, I 4095)] true (Bv true))] [1, 2, 3, 6, 8] [3, 6] [I dx, I dy, .ref 3 0, .ref 6 0, Bv false] [some (.box [slStroke false ik.Strokes]), some (.box [nilA])] [Con Try.prog 57 [I dx, I (-4095), I 4095] true (Bv true) ∧ ((I dx : AV) = I dx) ∧ ((I (-4095) : AV) = I (-4095)) ∧ ((I 4095 : AV) = I 4095) ∧ True, Con Try.prog 57 [I dy, I (-4095), I 4095] true (Bv true) ∧ ((I dy : AV) = I dy) ∧ ((I (-4095) : AV) = I (-4095)) ∧ ((I 4095 : AV) = I 4095) ∧ True] (by kernel_rfl) ⟨⟨(con_bool h2 (l00In_ok dx (-4095) 4095)), rfl, rfl, rfl, trivial⟩, ⟨(con_bool h3 (l00In_ok dy (-4095) 4095)), rfl, rfl, rfl, trivial⟩, trivial⟩ ?_
       refine xe_then ?_
       refine x_seq ?_
       refine x_seq ?_
       refine x_reg [] [1, 2, 3, 6, 27] [3, 6] [I dx, I dy, .ref 3 0, .ref 6 0, Bv false] [some (.box [slStroke false ik.Strokes]), some (.box [nilA])] [] (by kernel_rfl) trivial ?_
       refine xe_then ?_
       refine x_false rfl ?_
       refine x_skip ?_
       refine xe_then ?_
       refine x_seq ?_
       refine x_weak [] (T := [(1, I dx), (2, I dy), (3, .ptr true [slStroke false ik.Strokes]), (6, .ref 6 0), (27, Bv false)]) (O := [(6, .box [nilA])]) rfl (⟨.inl rfl, .inl rfl, .inr ⟨(fun _ => rfl), rfl, ⟨⟨(fun h => by cases h), rfl, rfl, fun i _ => .inl rfl⟩, rfl⟩⟩, .inl rfl, .inl rfl, trivial⟩) (⟨.inl rfl, trivial⟩) ?_
       obtain ⟨ss_1, hx1_0, hc1⟩ := l02Move_ok ik dx dy (okI_mem h1) (by have := okI_len h1; omega) (by first | (exact mv_hd rfl (by simp only [inB, decide_eq_true_eq, decide_eq_false_iff_not] at *; omega)))
       refine x_reg [(2, .lend [] [(8032, .fam ss_1.length 3 (mStroke ss_1) (gStroke ss_1)), (8051, .oar [8032] 1 ss_1.length (oStroke 8032 ss_1))] [(false, .ptr false [slStroke false ik.Strokes]), (true, I dx), (true, I dy)] false (.agg [.arr 8051])), (3, .new 9)] [6, 9] [6, 9, 8032, 8051] [.ref 6 0, .ref 9 0] [some (.box [nilA]), some (.box [.arr 8051]), some (.fam ss_1.length 3 (mStroke ss_1) (gStroke ss_1)), some (.oar [8032] 1 ss_1.length (oStroke 8032 ss_1))] [CallOK Try.prog 60 [.ptr false [slStroke false ik.Strokes], I dx, I dy] (lookO []) false (.agg [.arr 8051]) (lookO [(8032, .fam ss_1.length 3 (mStroke ss_1) (gStroke ss_1)), (8051, .oar [8032] 1 ss_1.length (oStroke 8032 ss_1))]) ∧ ((false = true → true = true) ∧ AV.idsL [slStroke false ik.Strokes] = [] ∧ ((false = true → false = true) ∧ 1 = 1 ∧ ik.Strokes.length = ik.Strokes.length ∧ ∀ i, i < ik.Strokes.length → (fStroke false ik.Strokes) i = (fStroke false ik.Strokes) i ∨ (AV.idsL ((fStroke false ik.Strokes) i) = [] ∧ leL (fun _ => none) false ((fStroke false ik.Strokes) i) ((fStroke false ik.Strokes) i))) ∧ ([] : List AV) = []) ∧ ((I dx : AV) = I dx) ∧ ((I dy : AV) = I dy) ∧ True] (by kernel_rfl) ⟨⟨hc1, ⟨(fun h => by cases h), rfl, ⟨⟨(fun h => by cases h), rfl, rfl, fun i _ => .inl rfl⟩, rfl⟩⟩, rfl, rfl, trivial⟩, trivial⟩ ?_
       refine xe_then ?_
       refine x_seq ?_
       refine x_seq ?_
       rcases Bool.eq_false_or_eq_true (okInk' (Ink.mk ss_1)) with h4 | h4
       ·refine x_reg [(0, .call [(false, .ptr false [slStroke false ss_1])] true (Bv true))] [6, 9, 33] [6, 9, 8032, 8051] [.ref 6 0, .ref 9 0, Bv false] [some (.box [nilA]), some (.box [.arr 8051]), some (.fam ss_1.length 3 (mStroke ss_1) (gStroke ss_1)), some (.oar [8032] 1 ss_1.length (oStroke 8032 ss_1))] [Con Try.prog 56 [.ptr false [slStroke false ss_1]] true (Bv true) ∧ ((false = true → true = true) ∧ AV.idsL [slStroke false ss_1] = [] ∧ ((false = true → true = true) ∧ 1 = 1 ∧ ss_1.length = ss_1.length ∧ ∀ i, i < ss_1.length → AV.idsL ((fStroke false ss_1) i) = [] ∧ leL (lookO [(8032, .fam ss_1.length 3 (mStroke ss_1) (gStroke ss_1))]) true ((oStroke 8032 ss_1) i) ((fStroke false ss_1) i)) ∧ ([] : List AV) = []) ∧ True] (by kernel_rfl) ⟨⟨(con_bool h4 (l02Ok_ok (Ink.mk ss_1))), ⟨(fun h => by cases h), rfl, ⟨⟨(fun h => by cases h), rfl, rfl, oleStroke _ _ rfl⟩, rfl⟩⟩, trivial⟩, trivial⟩ ?_
        refine xe_then ?_
        refine x_false rfl ?_
        refine x_skip ?_
        refine xe_then ?_
        refine x_seq ?_
        refine x_reg [] [6, 7] [6, 8032, 8051] [.ref 6 0, I 0] [some (.box [.arr 8051]), some (.fam ss_1.length 3 (mStroke ss_1) (gStroke ss_1)), some (.oar [8032] 1 ss_1.length (oStroke 8032 ss_1))] [] (by kernel_rfl) trivial ?_
        refine xe_then ?_
        refine x_ret ?_
        refine xe_end ((Ink.mk ss_1), 0) (show (0 = 0 → (Ink.mk ss_1) = mvI dx dy ik ∧ okInk' ik = true ∧ okInk' (Ink.mk ss_1) = true) ∧ (True) from ⟨(by first | (intro hc0; exact absurd hc0 (by decide)) | (intro _; simp only [*]; exact ⟨trivial, trivial, trivial⟩) | (intro _; refine ⟨by simp only [*], by assumption, by assumption⟩)), trivial⟩) (trivial) (.tup [.agg [.arr 8051], I 0]) (by kernel_rfl) (.inr ⟨⟨⟨(fun _ => rfl), rfl, rfl, oleStroke _ _ rfl⟩, rfl⟩, ⟨rfl, rfl⟩⟩) (fun _ => rfl) (fun _ => (by simp [tagged, taggedL, tagStroke]))
       ·refine x_reg [(0, .call [(false, .ptr false [slStroke false ss_1])] true (Bv false))] [6, 9, 33] [6, 9, 8032, 8051] [.ref 6 0, .ref 9 0, Bv true] [some (.box [nilA]), some (.box [.arr 8051]), some (.fam ss_1.length 3 (mStroke ss_1) (gStroke ss_1)), some (.oar [8032] 1 ss_1.length (oStroke 8032 ss_1))] [Con Try.prog 56 [.ptr false [slStroke false ss_1]] true (Bv false) ∧ ((false = true → true = true) ∧ AV.idsL [slStroke false ss_1] = [] ∧ ((false = true → true = true) ∧ 1 = 1 ∧ ss_1.length = ss_1.length ∧ ∀ i, i < ss_1.length → AV.idsL ((fStroke false ss_1) i) = [] ∧ leL (lookO [(8032, .fam ss_1.length 3 (mStroke ss_1) (gStroke ss_1))]) true ((oStroke 8032 ss_1) i) ((fStroke false ss_1) i)) ∧ ([] : List AV) = []) ∧ True] (by kernel_rfl) ⟨⟨(con_bool h4 (l02Ok_ok (Ink.mk ss_1))), ⟨(fun h => by cases h), rfl, ⟨⟨(fun h => by cases h), rfl, rfl, oleStroke _ _ rfl⟩, rfl⟩⟩, trivial⟩, trivial⟩ ?_
        refine xe_then ?_
        refine x_true rfl ?_
        refine x_seq ?_
        refine x_reg [] [6, 7] [6] [.ref 6 0, I 2] [some (.box [nilA])] [] (by kernel_rfl) trivial ?_
        refine xe_then ?_
        refine x_ret ?_
        refine xe_ret_then ?_
        refine xe_end ((Ink.mk ([] : List Stroke)), 2) (show (2 = 0 → (Ink.mk ([] : List Stroke)) = mvI dx dy ik ∧ okInk' ik = true ∧ okInk' (Ink.mk ([] : List Stroke)) = true) ∧ (True) from ⟨(by first | (intro hc0; exact absurd hc0 (by decide)) | (intro _; simp only [*]; exact ⟨trivial, trivial, trivial⟩) | (intro _; refine ⟨by simp only [*], by assumption, by assumption⟩)), trivial⟩) (trivial) (.tup [.agg [nilA], I 2]) (by kernel_rfl) (.inr ⟨⟨⟨rfl, rfl⟩, rfl⟩, ⟨rfl, rfl⟩⟩) (fun _ => rfl) (fun _ => (by simp [tagged, taggedL, tagStroke]))
      ·refine x_reg [(1, .call [(true, I dx), (true, I (-4095)), (true, I 4095)] true (Bv true)), (5, .call [(true, I dy), (true, I (-4095)), (true, I 4095)] true (Bv false))] [1, 2, 3, 6, 8] [3, 6] [I dx, I dy, .ref 3 0, .ref 6 0, Bv true] [some (.box [slStroke false ik.Strokes]), some (.box [nilA])] [Con Try.prog 57 [I dx, I (-4095), I 4095] true (Bv true) ∧ ((I dx : AV) = I dx) ∧ ((I (-4095) : AV) = I (-4095)) ∧ ((I 4095 : AV) = I 4095) ∧ True, Con Try.prog 57 [I dy, I (-4095), I 4095] true (Bv false) ∧ ((I dy : AV) = I dy) ∧ ((I (-4095) : AV) = I (-4095)) ∧ ((I 4095 : AV) = I 4095) ∧ True] (by kernel_rfl) ⟨⟨(con_bool h2 (l00In_ok dx (-4095) 4095)), rfl, rfl, rfl, trivial⟩, ⟨(con_bool h3 (l00In_ok dy (-4095) 4095)), rfl, rfl, rfl, trivial⟩, trivial⟩ ?_
       refine xe_then ?_
       refine x_seq ?_
       refine x_seq ?_
       by_cases h5 : 0 < (ik.Strokes.length : Int)
       ·refine x_reg [(5, .dec true)] [1, 2, 3, 6, 27] [3, 6] [I dx, I dy, .ref 3 0, .ref 6 0, Bv true] [some (.box [slStroke false ik.Strokes]), some (.box [nilA])] [0 < (ik.Strokes.length : Int)] (by kernel_rfl) ⟨h5, trivial⟩ ?_
        refine xe_then ?_
        refine x_true rfl ?_
        refine x_seq ?_
        refine x_reg [] [6, 7] [6] [.ref 6 0, I 2] [some (.box [nilA])] [] (by kernel_rfl) trivial ?_
        refine xe_then ?_
        refine x_ret ?_
        refine xe_ret_then ?_
        refine xe_end ((Ink.mk ([] : List Stroke)), 2) (show (2 = 0 → (Ink.mk ([] : List Stroke)) = mvI dx dy ik ∧ okInk' ik = true ∧ okInk' (Ink.mk ([] : List Stroke)) = true) ∧ (True) from ⟨(by first | (intro hc0; exact absurd hc0 (by decide)) | (intro _; simp only [*]; exact ⟨trivial, trivial, trivial⟩) | (intro _; refine ⟨by simp only [*], by assumption, by assumption⟩)), trivial⟩) (trivial) (.tup [.agg [nilA], I 2]) (by kernel_rfl) (.inr ⟨⟨⟨rfl, rfl⟩, rfl⟩, ⟨rfl, rfl⟩⟩) (fun _ => rfl) (fun _ => (by simp [tagged, taggedL, tagStroke]))
       ·refine x_reg [(5, .dec false)] [1, 2, 3, 6, 27] [3, 6] [I dx, I dy, .ref 3 0, .ref 6 0, Bv false] [some (.box [slStroke false ik.Strokes]), some (.box [nilA])] [¬ (0 < (ik.Strokes.length : Int))] (by kernel_rfl) ⟨h5, trivial⟩ ?_
        refine xe_then ?_
        refine x_false rfl ?_
        refine x_skip ?_
        refine xe_then ?_
        refine x_seq ?_
        refine x_weak [] (T := [(1, I dx), (2, I dy), (3, .ptr true [slStroke false ik.Strokes]), (6, .ref 6 0), (27, Bv false)]) (O := [(6, .box [nilA])]) rfl (⟨.inl rfl, .inl rfl, .inr ⟨(fun _ => rfl), rfl, ⟨⟨(fun h => by cases h), rfl, rfl, fun i _ => .inl rfl⟩, rfl⟩⟩, .inl rfl, .inl rfl, trivial⟩) (⟨.inl rfl, trivial⟩) ?_
        obtain ⟨ss_2, hx2_0, hc2⟩ := l02Move_ok ik dx dy (okI_mem h1) (by have := okI_len h1; omega) (by first | (exact mv_hd rfl (by simp only [inB, decide_eq_true_eq, decide_eq_false_iff_not] at *; omega)))
        refine x_reg [(2, .lend [] [(8032, .fam ss_2.length 3 (mStroke ss_2) (gStroke ss_2)), (8051, .oar [8032] 1 ss_2.length (oStroke 8032 ss_2))] [(false, .ptr false [slStroke false ik.Strokes]), (true, I dx), (true, I dy)] false (.agg [.arr 8051])), (3, .new 9)] [6, 9] [6, 9, 8032, 8051] [.ref 6 0, .ref 9 0] [some (.box [nilA]), some (.box [.arr 8051]), some (.fam ss_2.length 3 (mStroke ss_2) (gStroke ss_2)), some (.oar [8032] 1 ss_2.length (oStroke 8032 ss_2))] [CallOK Try.prog 60 [.ptr false [slStroke false ik.Strokes], I dx, I dy] (lookO []) false (.agg [.arr 8051]) (lookO [(8032, .fam ss_2.length 3 (mStroke ss_2) (gStroke ss_2)), (8051, .oar [8032] 1 ss_2.length (oStroke 8032 ss_2))]) ∧ ((false = true → true = true) ∧ AV.idsL [slStroke false ik.Strokes] = [] ∧ ((false = true → false = true) ∧ 1 = 1 ∧ ik.Strokes.length = ik.Strokes.length ∧ ∀ i, i < ik.Strokes.length → (fStroke false ik.Strokes) i = (fStroke false ik.Strokes) i ∨ (AV.idsL ((fStroke false ik.Strokes) i) = [] ∧ leL (fun _ => none) false ((fStroke false ik.Strokes) i) ((fStroke false ik.Strokes) i))) ∧ ([] : List AV) = []) ∧ ((I dx : AV) = I dx) ∧ ((I dy : AV) = I dy) ∧ True] (by kernel_rfl) ⟨⟨hc2, ⟨(fun h => by cases h), rfl, ⟨⟨(fun h => by cases h), rfl, rfl, fun i _ => .inl rfl⟩, rfl⟩⟩, rfl, rfl, trivial⟩, trivial⟩ ?_
        refine xe_then ?_
        refine x_seq ?_
        refine x_seq ?_
        rcases Bool.eq_false_or_eq_true (okInk' (Ink.mk ss_2)) with h6 | h6
        ·refine x_reg [(0, .call [(false, .ptr false [slStroke false ss_2])] true (Bv true))] [6, 9, 33] [6, 9, 8032, 8051] [.ref 6 0, .ref 9 0, Bv false] [some (.box [nilA]), some (.box [.arr 8051]), some (.fam ss_2.length 3 (mStroke ss_2) (gStroke ss_2)), some (.oar [8032] 1 ss_2.length (oStroke 8032 ss_2))] [Con Try.prog 56 [.ptr false [slStroke false ss_2]] true (Bv true) ∧ ((false = true → true = true) ∧ AV.idsL [slStroke false ss_2] = [] ∧ ((false = true → true = true) ∧ 1 = 1 ∧ ss_2.length = ss_2.length ∧ ∀ i, i < ss_2.length → AV.idsL ((fStroke false ss_2) i) = [] ∧ leL (lookO [(8032, .fam ss_2.length 3 (mStroke ss_2) (gStroke ss_2))]) true ((oStroke 8032 ss_2) i) ((fStroke false ss_2) i)) ∧ ([] : List AV) = []) ∧ True] (by kernel_rfl) ⟨⟨(con_bool h6 (l02Ok_ok (Ink.mk ss_2))), ⟨(fun h => by cases h), rfl, ⟨⟨(fun h => by cases h), rfl, rfl, oleStroke _ _ rfl⟩, rfl⟩⟩, trivial⟩, trivial⟩ ?_
         refine xe_then ?_
         refine x_false rfl ?_
         refine x_skip ?_
         refine xe_then ?_
         refine x_seq ?_
         refine x_reg [] [6, 7] [6, 8032, 8051] [.ref 6 0, I 0] [some (.box [.arr 8051]), some (.fam ss_2.length 3 (mStroke ss_2) (gStroke ss_2)), some (.oar [8032] 1 ss_2.length (oStroke 8032 ss_2))] [] (by kernel_rfl) trivial ?_
         refine xe_then ?_
         refine x_ret ?_
         refine xe_end ((Ink.mk ss_2), 0) (show (0 = 0 → (Ink.mk ss_2) = mvI dx dy ik ∧ okInk' ik = true ∧ okInk' (Ink.mk ss_2) = true) ∧ (True) from ⟨(by first | (intro hc0; exact absurd hc0 (by decide)) | (intro _; simp only [*]; exact ⟨trivial, trivial, trivial⟩) | (intro _; refine ⟨by simp only [*], by assumption, by assumption⟩)), trivial⟩) (trivial) (.tup [.agg [.arr 8051], I 0]) (by kernel_rfl) (.inr ⟨⟨⟨(fun _ => rfl), rfl, rfl, oleStroke _ _ rfl⟩, rfl⟩, ⟨rfl, rfl⟩⟩) (fun _ => rfl) (fun _ => (by simp [tagged, taggedL, tagStroke]))
        ·refine x_reg [(0, .call [(false, .ptr false [slStroke false ss_2])] true (Bv false))] [6, 9, 33] [6, 9, 8032, 8051] [.ref 6 0, .ref 9 0, Bv true] [some (.box [nilA]), some (.box [.arr 8051]), some (.fam ss_2.length 3 (mStroke ss_2) (gStroke ss_2)), some (.oar [8032] 1 ss_2.length (oStroke 8032 ss_2))] [Con Try.prog 56 [.ptr false [slStroke false ss_2]] true (Bv false) ∧ ((false = true → true = true) ∧ AV.idsL [slStroke false ss_2] = [] ∧ ((false = true → true = true) ∧ 1 = 1 ∧ ss_2.length = ss_2.length ∧ ∀ i, i < ss_2.length → AV.idsL ((fStroke false ss_2) i) = [] ∧ leL (lookO [(8032, .fam ss_2.length 3 (mStroke ss_2) (gStroke ss_2))]) true ((oStroke 8032 ss_2) i) ((fStroke false ss_2) i)) ∧ ([] : List AV) = []) ∧ True] (by kernel_rfl) ⟨⟨(con_bool h6 (l02Ok_ok (Ink.mk ss_2))), ⟨(fun h => by cases h), rfl, ⟨⟨(fun h => by cases h), rfl, rfl, oleStroke _ _ rfl⟩, rfl⟩⟩, trivial⟩, trivial⟩ ?_
         refine xe_then ?_
         refine x_true rfl ?_
         refine x_seq ?_
         refine x_reg [] [6, 7] [6] [.ref 6 0, I 2] [some (.box [nilA])] [] (by kernel_rfl) trivial ?_
         refine xe_then ?_
         refine x_ret ?_
         refine xe_ret_then ?_
         refine xe_end ((Ink.mk ([] : List Stroke)), 2) (show (2 = 0 → (Ink.mk ([] : List Stroke)) = mvI dx dy ik ∧ okInk' ik = true ∧ okInk' (Ink.mk ([] : List Stroke)) = true) ∧ (True) from ⟨(by first | (intro hc0; exact absurd hc0 (by decide)) | (intro _; simp only [*]; exact ⟨trivial, trivial, trivial⟩) | (intro _; refine ⟨by simp only [*], by assumption, by assumption⟩)), trivial⟩) (trivial) (.tup [.agg [nilA], I 2]) (by kernel_rfl) (.inr ⟨⟨⟨rfl, rfl⟩, rfl⟩, ⟨rfl, rfl⟩⟩) (fun _ => rfl) (fun _ => (by simp [tagged, taggedL, tagStroke]))
     ·refine x_reg [(1, .call [(true, I dx), (true, I (-4095)), (true, I 4095)] true (Bv false))] [1, 2, 3, 6, 8] [3, 6] [I dx, I dy, .ref 3 0, .ref 6 0, Bv true] [some (.box [slStroke false ik.Strokes]), some (.box [nilA])] [Con Try.prog 57 [I dx, I (-4095), I 4095] true (Bv false) ∧ ((I dx : AV) = I dx) ∧ ((I (-4095) : AV) = I (-4095)) ∧ ((I 4095 : AV) = I 4095) ∧ True] (by kernel_rfl) ⟨⟨(con_bool h2 (l00In_ok dx (-4095) 4095)), rfl, rfl, rfl, trivial⟩, trivial⟩ ?_
      refine xe_then ?_
      refine x_seq ?_
      refine x_seq ?_
      by_cases h7 : 0 < (ik.Strokes.length : Int)
      ·refine x_reg [(5, .dec true)] [1, 2, 3, 6, 27] [3, 6] [I dx, I dy, .ref 3 0, .ref 6 0, Bv true] [some (.box [slStroke false ik.Strokes]), some (.box [nilA])] [0 < (ik.Strokes.length : Int)] (by kernel_rfl) ⟨h7, trivial⟩ ?_
       refine xe_then ?_
       refine x_true rfl ?_
       refine x_seq ?_
       refine x_reg [] [6, 7] [6] [.ref 6 0, I 2] [some (.box [nilA])] [] (by kernel_rfl) trivial ?_
       refine xe_then ?_
       refine x_ret ?_
       refine xe_ret_then ?_
       refine xe_end ((Ink.mk ([] : List Stroke)), 2) (show (2 = 0 → (Ink.mk ([] : List Stroke)) = mvI dx dy ik ∧ okInk' ik = true ∧ okInk' (Ink.mk ([] : List Stroke)) = true) ∧ (True) from ⟨(by first | (intro hc0; exact absurd hc0 (by decide)) | (intro _; simp only [*]; exact ⟨trivial, trivial, trivial⟩) | (intro _; refine ⟨by simp only [*], by assumption, by assumption⟩)), trivial⟩) (trivial) (.tup [.agg [nilA], I 2]) (by kernel_rfl) (.inr ⟨⟨⟨rfl, rfl⟩, rfl⟩, ⟨rfl, rfl⟩⟩) (fun _ => rfl) (fun _ => (by simp [tagged, taggedL, tagStroke]))
      ·refine x_reg [(5, .dec false)] [1, 2, 3, 6, 27] [3, 6] [I dx, I dy, .ref 3 0, .ref 6 0, Bv false] [some (.box [slStroke false ik.Strokes]), some (.box [nilA])] [¬ (0 < (ik.Strokes.length : Int))] (by kernel_rfl) ⟨h7, trivial⟩ ?_
       refine xe_then ?_
       refine x_false rfl ?_
       refine x_skip ?_
       refine xe_then ?_
       refine x_seq ?_
       refine x_weak [] (T := [(1, I dx), (2, I dy), (3, .ptr true [slStroke false ik.Strokes]), (6, .ref 6 0), (27, Bv false)]) (O := [(6, .box [nilA])]) rfl (⟨.inl rfl, .inl rfl, .inr ⟨(fun _ => rfl), rfl, ⟨⟨(fun h => by cases h), rfl, rfl, fun i _ => .inl rfl⟩, rfl⟩⟩, .inl rfl, .inl rfl, trivial⟩) (⟨.inl rfl, trivial⟩) ?_
       obtain ⟨ss_3, hx3_0, hc3⟩ := l02Move_ok ik dx dy (okI_mem h1) (by have := okI_len h1; omega) (by first | (exact mv_hd rfl (by simp only [inB, decide_eq_true_eq, decide_eq_false_iff_not] at *; omega)))
       refine x_reg [(2, .lend [] [(8032, .fam ss_3.length 3 (mStroke ss_3) (gStroke ss_3)), (8051, .oar [8032] 1 ss_3.length (oStroke 8032 ss_3))] [(false, .ptr false [slStroke false ik.Strokes]), (true, I dx), (true, I dy)] false (.agg [.arr 8051])), (3, .new 9)] [6, 9] [6, 9, 8032, 8051] [.ref 6 0, .ref 9 0] [some (.box [nilA]), some (.box [.arr 8051]), some (.fam ss_3.length 3 (mStroke ss_3) (gStroke ss_3)), some (.oar [8032] 1 ss_3.length (oStroke 8032 ss_3))] [CallOK Try.prog 60 [.ptr false [slStroke false ik.Strokes], I dx, I dy] (lookO []) false (.agg [.arr 8051]) (lookO [(8032, .fam ss_3.length 3 (mStroke ss_3) (gStroke ss_3)), (8051, .oar [8032] 1 ss_3.length (oStroke 8032 ss_3))]) ∧ ((false = true → true = true) ∧ AV.idsL [slStroke false ik.Strokes] = [] ∧ ((false = true → false = true) ∧ 1 = 1 ∧ ik.Strokes.length = ik.Strokes.length ∧ ∀ i, i < ik.Strokes.length → (fStroke false ik.Strokes) i = (fStroke false ik.Strokes) i ∨ (AV.idsL ((fStroke false ik.Strokes) i) = [] ∧ leL (fun _ => none) false ((fStroke false ik.Strokes) i) ((fStroke false ik.Strokes) i))) ∧ ([] : List AV) = []) ∧ ((I dx : AV) = I dx) ∧ ((I dy : AV) = I dy) ∧ True] (by kernel_rfl) ⟨⟨hc3, ⟨(fun h => by cases h), rfl, ⟨⟨(fun h => by cases h), rfl, rfl, fun i _ => .inl rfl⟩, rfl⟩⟩, rfl, rfl, trivial⟩, trivial⟩ ?_
       refine xe_then ?_
       refine x_seq ?_
       refine x_seq ?_
       rcases Bool.eq_false_or_eq_true (okInk' (Ink.mk ss_3)) with h8 | h8
       ·refine x_reg [(0, .call [(false, .ptr false [slStroke false ss_3])] true (Bv true))] [6, 9, 33] [6, 9, 8032, 8051] [.ref 6 0, .ref 9 0, Bv false] [some (.box [nilA]), some (.box [.arr 8051]), some (.fam ss_3.length 3 (mStroke ss_3) (gStroke ss_3)), some (.oar [8032] 1 ss_3.length (oStroke 8032 ss_3))] [Con Try.prog 56 [.ptr false [slStroke false ss_3]] true (Bv true) ∧ ((false = true → true = true) ∧ AV.idsL [slStroke false ss_3] = [] ∧ ((false = true → true = true) ∧ 1 = 1 ∧ ss_3.length = ss_3.length ∧ ∀ i, i < ss_3.length → AV.idsL ((fStroke false ss_3) i) = [] ∧ leL (lookO [(8032, .fam ss_3.length 3 (mStroke ss_3) (gStroke ss_3))]) true ((oStroke 8032 ss_3) i) ((fStroke false ss_3) i)) ∧ ([] : List AV) = []) ∧ True] (by kernel_rfl) ⟨⟨(con_bool h8 (l02Ok_ok (Ink.mk ss_3))), ⟨(fun h => by cases h), rfl, ⟨⟨(fun h => by cases h), rfl, rfl, oleStroke _ _ rfl⟩, rfl⟩⟩, trivial⟩, trivial⟩ ?_
        refine xe_then ?_
        refine x_false rfl ?_
        refine x_skip ?_
        refine xe_then ?_
        refine x_seq ?_
        refine x_reg [] [6, 7] [6, 8032, 8051] [.ref 6 0, I 0] [some (.box [.arr 8051]), some (.fam ss_3.length 3 (mStroke ss_3) (gStroke ss_3)), some (.oar [8032] 1 ss_3.length (oStroke 8032 ss_3))] [] (by kernel_rfl) trivial ?_
        refine xe_then ?_
        refine x_ret ?_
        refine xe_end ((Ink.mk ss_3), 0) (show (0 = 0 → (Ink.mk ss_3) = mvI dx dy ik ∧ okInk' ik = true ∧ okInk' (Ink.mk ss_3) = true) ∧ (True) from ⟨(by first | (intro hc0; exact absurd hc0 (by decide)) | (intro _; simp only [*]; exact ⟨trivial, trivial, trivial⟩) | (intro _; refine ⟨by simp only [*], by assumption, by assumption⟩)), trivial⟩) (trivial) (.tup [.agg [.arr 8051], I 0]) (by kernel_rfl) (.inr ⟨⟨⟨(fun _ => rfl), rfl, rfl, oleStroke _ _ rfl⟩, rfl⟩, ⟨rfl, rfl⟩⟩) (fun _ => rfl) (fun _ => (by simp [tagged, taggedL, tagStroke]))
       ·refine x_reg [(0, .call [(false, .ptr false [slStroke false ss_3])] true (Bv false))] [6, 9, 33] [6, 9, 8032, 8051] [.ref 6 0, .ref 9 0, Bv true] [some (.box [nilA]), some (.box [.arr 8051]), some (.fam ss_3.length 3 (mStroke ss_3) (gStroke ss_3)), some (.oar [8032] 1 ss_3.length (oStroke 8032 ss_3))] [Con Try.prog 56 [.ptr false [slStroke false ss_3]] true (Bv false) ∧ ((false = true → true = true) ∧ AV.idsL [slStroke false ss_3] = [] ∧ ((false = true → true = true) ∧ 1 = 1 ∧ ss_3.length = ss_3.length ∧ ∀ i, i < ss_3.length → AV.idsL ((fStroke false ss_3) i) = [] ∧ leL (lookO [(8032, .fam ss_3.length 3 (mStroke ss_3) (gStroke ss_3))]) true ((oStroke 8032 ss_3) i) ((fStroke false ss_3) i)) ∧ ([] : List AV) = []) ∧ True] (by kernel_rfl) ⟨⟨(con_bool h8 (l02Ok_ok (Ink.mk ss_3))), ⟨(fun h => by cases h), rfl, ⟨⟨(fun h => by cases h), rfl, rfl, oleStroke _ _ rfl⟩, rfl⟩⟩, trivial⟩, trivial⟩ ?_
        refine xe_then ?_
        refine x_true rfl ?_
        refine x_seq ?_
        refine x_reg [] [6, 7] [6] [.ref 6 0, I 2] [some (.box [nilA])] [] (by kernel_rfl) trivial ?_
        refine xe_then ?_
        refine x_ret ?_
        refine xe_ret_then ?_
        refine xe_end ((Ink.mk ([] : List Stroke)), 2) (show (2 = 0 → (Ink.mk ([] : List Stroke)) = mvI dx dy ik ∧ okInk' ik = true ∧ okInk' (Ink.mk ([] : List Stroke)) = true) ∧ (True) from ⟨(by first | (intro hc0; exact absurd hc0 (by decide)) | (intro _; simp only [*]; exact ⟨trivial, trivial, trivial⟩) | (intro _; refine ⟨by simp only [*], by assumption, by assumption⟩)), trivial⟩) (trivial) (.tup [.agg [nilA], I 2]) (by kernel_rfl) (.inr ⟨⟨⟨rfl, rfl⟩, rfl⟩, ⟨rfl, rfl⟩⟩) (fun _ => rfl) (fun _ => (by simp [tagged, taggedL, tagStroke]))
    ·refine x_reg [(0, .call [(false, .ptr false [slStroke false ik.Strokes])] true (Bv false))] [1, 2, 3, 6, 11] [3, 6] [I dx, I dy, .ref 3 0, .ref 6 0, Bv true] [some (.box [slStroke false ik.Strokes]), some (.box [nilA])] [Con Try.prog 56 [.ptr false [slStroke false ik.Strokes]] true (Bv false) ∧ ((false = true → true = true) ∧ AV.idsL [slStroke false ik.Strokes] = [] ∧ ((false = true → false = true) ∧ 1 = 1 ∧ ik.Strokes.length = ik.Strokes.length ∧ ∀ i, i < ik.Strokes.length → (fStroke false ik.Strokes) i = (fStroke false ik.Strokes) i ∨ (AV.idsL ((fStroke false ik.Strokes) i) = [] ∧ leL (fun _ => none) false ((fStroke false ik.Strokes) i) ((fStroke false ik.Strokes) i))) ∧ ([] : List AV) = []) ∧ True] (by kernel_rfl) ⟨⟨(con_bool h1 (l02Ok_ok ik)), ⟨(fun h => by cases h), rfl, ⟨⟨(fun h => by cases h), rfl, rfl, fun i _ => .inl rfl⟩, rfl⟩⟩, trivial⟩, trivial⟩ ?_
     refine xe_then ?_
     refine x_true rfl ?_
     refine x_seq ?_
     refine x_reg [] [6, 7] [6] [.ref 6 0, I 1] [some (.box [nilA])] [] (by kernel_rfl) trivial ?_
     refine xe_then ?_
     refine x_ret ?_
     refine xe_ret_then ?_
     refine xe_end ((Ink.mk ([] : List Stroke)), 1) (show (1 = 0 → (Ink.mk ([] : List Stroke)) = mvI dx dy ik ∧ okInk' ik = true ∧ okInk' (Ink.mk ([] : List Stroke)) = true) ∧ (True) from ⟨(by first | (intro hc0; exact absurd hc0 (by decide)) | (intro _; simp only [*]; exact ⟨trivial, trivial, trivial⟩) | (intro _; refine ⟨by simp only [*], by assumption, by assumption⟩)), trivial⟩) (trivial) (.tup [.agg [nilA], I 1]) (by kernel_rfl) (.inr ⟨⟨⟨rfl, rfl⟩, rfl⟩, ⟨rfl, rfl⟩⟩) (fun _ => rfl) (fun _ => (by simp [tagged, taggedL, tagStroke]))
  obtain ⟨⟨v, c⟩, ⟨hh0, _⟩, hc⟩ := hh
  exact ⟨v, c, hh0, hc⟩


-- impl.ValidFeat
theorem ValidFeat_ok (f : Feat) : Con Try.prog 130 [agFeat f] true (Bv (okF f)) := by
  refine fn_ok (fn := Try.f130) (nt := 16) Try.func130 rfl rfl rfl rfl (by simp [taggedL, tagged]) fun B hB => ?_
  refine aw_seq ?_
  refine aw_reg [(0, .new 1)] [1] [1] [.ref 1 0] [some (bxFeat f)] [] (by kernel_rfl) hB trivial ?_
  refine ae_then ?_
  refine aw_seq ?_
  rcases Bool.eq_false_or_eq_true (inB f.X 0 255) with h1 | h1
  ·rcases Bool.eq_false_or_eq_true (inB f.Y 0 255) with h2 | h2
   ·refine aw_reg [(2, .call [(true, I f.X), (true, I 0), (true, I 255)] true (Bv true)), (6, .call [(true, I f.Y), (true, I 0), (true, I 255)] true (Bv true)), (11, .call [(true, I f.D), (true, I 0), (true, I 7)] true (Bv (inB f.D 0 7)))] [2] [] [Bv (inB f.D 0 7)] [] [Con Try.prog 53 [I f.X, I 0, I 255] true (Bv true) ∧ ((I f.X : AV) = I f.X) ∧ ((I 0 : AV) = I 0) ∧ ((I 255 : AV) = I 255) ∧ True, Con Try.prog 53 [I f.Y, I 0, I 255] true (Bv true) ∧ ((I f.Y : AV) = I f.Y) ∧ ((I 0 : AV) = I 0) ∧ ((I 255 : AV) = I 255) ∧ True, Con Try.prog 53 [I f.D, I 0, I 7] true (Bv (inB f.D 0 7)) ∧ ((I f.D : AV) = I f.D) ∧ ((I 0 : AV) = I 0) ∧ ((I 7 : AV) = I 7) ∧ True] (by kernel_rfl) hB ⟨⟨(con_bool h1 (within_ok f.X 0 255)), rfl, rfl, rfl, trivial⟩, ⟨(con_bool h2 (within_ok f.Y 0 255)), rfl, rfl, rfl, trivial⟩, ⟨(within_ok f.D 0 7), rfl, rfl, rfl, trivial⟩, trivial⟩ ?_
    refine ae_then ?_
    refine aw_ret ?_
    refine ae_ret hB (Bv (inB f.D 0 7)) (by kernel_rfl) (.inl (by first | rfl | (refine congrArg Bv ?_; simp [okF, *]; done) | (refine congrArg Bv ?_; simp [okF, *]; omega) | (refine congrArg Bv ?_; simp_all [okF]; done) | (refine congrArg Bv ?_; simp_all [okF]; omega))) rfl (fun _ => trivial)
   ·refine aw_reg [(2, .call [(true, I f.X), (true, I 0), (true, I 255)] true (Bv true)), (6, .call [(true, I f.Y), (true, I 0), (true, I 255)] true (Bv false))] [2] [] [Bv false] [] [Con Try.prog 53 [I f.X, I 0, I 255] true (Bv true) ∧ ((I f.X : AV) = I f.X) ∧ ((I 0 : AV) = I 0) ∧ ((I 255 : AV) = I 255) ∧ True, Con Try.prog 53 [I f.Y, I 0, I 255] true (Bv false) ∧ ((I f.Y : AV) = I f.Y) ∧ ((I 0 : AV) = I 0) ∧ ((I 255 : AV) = I 255) ∧ True] (by kernel_rfl) hB ⟨⟨(con_bool h1 (within_ok f.X 0 255)), rfl, rfl, rfl, trivial⟩, ⟨(con_bool h2 (within_ok f.Y 0 255)), rfl, rfl, rfl, trivial⟩, trivial⟩ ?_
    refine ae_then ?_
    refine aw_ret ?_
    refine ae_ret hB (Bv false) (by kernel_rfl) (.inl (by first | rfl | (refine congrArg Bv ?_; simp [okF, *]; done) | (refine congrArg Bv ?_; simp [okF, *]; omega) | (refine congrArg Bv ?_; simp_all [okF]; done) | (refine congrArg Bv ?_; simp_all [okF]; omega))) rfl (fun _ => trivial)
  ·refine aw_reg [(2, .call [(true, I f.X), (true, I 0), (true, I 255)] true (Bv false))] [2] [] [Bv false] [] [Con Try.prog 53 [I f.X, I 0, I 255] true (Bv false) ∧ ((I f.X : AV) = I f.X) ∧ ((I 0 : AV) = I 0) ∧ ((I 255 : AV) = I 255) ∧ True] (by kernel_rfl) hB ⟨⟨(con_bool h1 (within_ok f.X 0 255)), rfl, rfl, rfl, trivial⟩, trivial⟩ ?_
   refine ae_then ?_
   refine aw_ret ?_
   refine ae_ret hB (Bv false) (by kernel_rfl) (.inl (by first | rfl | (refine congrArg Bv ?_; simp [okF, *]; done) | (refine congrArg Bv ?_; simp [okF, *]; omega) | (refine congrArg Bv ?_; simp_all [okF]; done) | (refine congrArg Bv ?_; simp_all [okF]; omega))) rfl (fun _ => trivial)


-- impl.areFeats$1
theorem areFeats1_ok (f : Feat) : Con Try.prog 129 [agFeat f] true (Bv (!(okF f))) := by
  refine fn_ok (fn := Try.f129) (nt := 6) Try.func129 rfl rfl rfl rfl (by simp [taggedL, tagged]) fun B hB => ?_
  refine aw_seq ?_
  refine aw_reg [(0, .new 1)] [1] [1] [.ref 1 0] [some (bxFeat f)] [] (by kernel_rfl) hB trivial ?_
  refine ae_then ?_
  refine aw_seq ?_
  refine aw_reg [(1, .call [(true, agFeat f)] true (Bv (okF f)))] [2] [] [Bv (!(okF f))] [] [Con Try.prog 130 [agFeat f] true (Bv (okF f)) ∧ ((agFeat f : AV) = agFeat f) ∧ True] (by kernel_rfl) hB ⟨⟨(ValidFeat_ok f), rfl, trivial⟩, trivial⟩ ?_
  refine ae_then ?_
  refine aw_ret ?_
  refine ae_ret hB (Bv (!(okF f))) (by kernel_rfl) (.inl rfl) rfl (fun _ => trivial)


-- impl.areFeats
theorem containsFeat_ok_idx (s : List Feat) : Con Try.prog 178 [slFeat false s, .fn 129 []] true (I (firstN s.length (fun j => (!(okF (at_ s j)))))) := by
  refine fn_ok (fn := Try.f178) (nt := 19) Try.func178 rfl rfl rfl rfl (by simp [taggedL, tagged, tagFeat]) fun B hB => ?_
  refine aw_lens (x := slFeat false s) 0 rfl (fun len_s => ?_)
  simp [LenOK, LenL, cFeat, fFeat, slFeat] at len_s
  refine aw_seq ?_
  refine aw_reg [] [0, 1] [] [slFeat false s, .fn 129 []] [] [] (by kernel_rfl) hB trivial ?_
  refine ae_then ?_
  refine aw_seq ?_
  refine aw_seq ?_
  refine aw_reg [] [0, 1, 7, 8] [] [slFeat false s, .fn 129 [], I (s.length : Int), I 0] [] [] (by kernel_rfl) hB trivial ?_
  refine ae_then ?_
  refine aw_block ?_
  refine aw_loop (fun gn gσ => ∃ (t8 : Int), gn = ((s.length : Int) - t8).toNat ∧ (0 ≤ t8 ∧ t8 ≤ (s.length : Int)) ∧ (∀ j : Nat, (j : Int) < t8 → (!(okF (at_ s j))) = false) ∧ gσ = mkS [(0, slFeat false s), (1, .fn 129 []), (7, I (s.length : Int)), (8, I t8)] []) (((s.length : Int) - 0).toNat) ⟨0, rfl, (by omega), (by intro j hj; omega), rfl⟩ (fun gn gσ hI => ?_)
  obtain ⟨t8, rfl, hi0, hall0, rfl⟩ := hI
  refine aw_seq ?_
  by_cases h1 : t8 < (s.length : Int)
  ·have hi : t8.toNat < s.length := by omega
   refine aw_reg [(0, .dec true)] [0, 1, 7, 8, 9] [] [slFeat false s, .fn 129 [], I (s.length : Int), I t8, Bv true] [] [t8 < (s.length : Int)] (by kernel_rfl) hB ⟨h1, trivial⟩ ?_
   refine ae_then ?_
   refine aw_seq ?_
   refine aw_true rfl ?_
   refine aw_skip ?_
   refine ae_then ?_
   refine aw_seq ?_
   refine aw_block ?_
   refine aw_seq ?_
   refine aw_reg [] [0, 1, 5, 7, 8] [] [slFeat false s, .fn 129 [], I t8, I (s.length : Int), I t8] [] [] (by kernel_rfl) hB trivial ?_
   refine ae_then ?_
   refine aw_seq ?_
   rcases Bool.eq_false_or_eq_true (!(okF (at_ s t8.toNat))) with h2 | h2
   ·have hfin : firstN s.length (fun j => (!(okF (at_ s j)))) = t8.toNat := firstN_hit hi h2 (fun j hj => hall0 j (by omega))
    refine aw_reg [(5, .call [(true, agFeat (at_ s t8.toNat))] true (Bv true))] [0, 1, 5, 7, 8, 16] [] [slFeat false s, .fn 129 [], I t8, I (s.length : Int), I t8, Bv true] [] [(0 : Int) ≤ t8 ∧ t8 < (s.length : Int), Con Try.prog 129 [agFeat (at_ s t8.toNat)] true (Bv true) ∧ ((agFeat (at_ s t8.toNat) : AV) = agFeat (at_ s t8.toNat)) ∧ True] (by kernel_rfl) hB ⟨⟨(by omega), (by omega)⟩, ⟨(con_bool h2 (areFeats1_ok (at_ s t8.toNat))), rfl, trivial⟩, trivial⟩ ?_
    refine ae_then ?_
    refine aw_true rfl ?_
    refine aw_seq ?_
    refine aw_reg [] [4] [] [I t8] [] [] (by kernel_rfl) hB trivial ?_
    refine ae_then ?_
    refine aw_ret ?_
    refine ae_ret_block (ae_ret_then (ae_ret_then (ae_ret_block (ae_ret_then ?_))))
    refine ae_ret hB (I t8) (by kernel_rfl) (.inl (by refine congrArg I ?_; first | (rw [hfin]; done) | (rw [hfin]; omega))) rfl (fun _ => trivial)
   ·refine aw_reg [(5, .call [(true, agFeat (at_ s t8.toNat))] true (Bv false))] [0, 1, 5, 7, 8, 16] [] [slFeat false s, .fn 129 [], I t8, I (s.length : Int), I t8, Bv false] [] [(0 : Int) ≤ t8 ∧ t8 < (s.length : Int), Con Try.prog 129 [agFeat (at_ s t8.toNat)] true (Bv false) ∧ ((agFeat (at_ s t8.toNat) : AV) = agFeat (at_ s t8.toNat)) ∧ True] (by kernel_rfl) hB ⟨⟨(by omega), (by omega)⟩, ⟨(con_bool h2 (areFeats1_ok (at_ s t8.toNat))), rfl, trivial⟩, trivial⟩ ?_
    refine ae_then ?_
    refine aw_false rfl ?_
    refine aw_skip ?_
    refine ae_block 1 ?_
    refine ae_then ?_
    refine aw_reg [] [0, 1, 7, 8] [] [slFeat false s, .fn 129 [], I (s.length : Int), I (t8 + 1)] [] [inR .i64 (t8 + 1)] (by kernel_rfl) hB ⟨(inR_i64 (by omega) (by omega)), trivial⟩ ?_
    exact ae_again _ (by omega) ⟨(t8 + 1), rfl, (by omega), (by intro j hj; by_cases ej : j = t8.toNat; (subst ej; assumption); exact hall0 j (by omega)), rfl⟩
  ·have hfin : firstN s.length (fun j => (!(okF (at_ s j)))) = -1 := firstN_none (fun j hj => hall0 j (by omega))
   refine aw_reg [(0, .dec false)] [0, 1, 7, 8, 9] [] [slFeat false s, .fn 129 [], I (s.length : Int), I t8, Bv false] [] [¬ (t8 < (s.length : Int))] (by kernel_rfl) hB ⟨h1, trivial⟩ ?_
   refine ae_then ?_
   refine aw_seq ?_
   refine aw_false rfl ?_
   refine aw_exit ?_
   refine ae_exit_then ?_
   refine ae_exit_then ?_
   refine ae_exit_same ?_
   refine ae_then ?_
   refine aw_seq ?_
   refine aw_reg [] [4] [] [I (-1)] [] [] (by kernel_rfl) hB trivial ?_
   refine ae_then ?_
   refine aw_ret ?_
   refine ae_ret hB (I (-1)) (by kernel_rfl) (.inl (by refine congrArg I ?_; first | (rw [hfin]; done) | (rw [hfin]; omega))) rfl (fun _ => trivial)

theorem containsFeat_ok (s : List Feat) : Con Try.prog 128 [slFeat false s, .fn 129 []] true (Bv (anyN s.length (fun j => (!(okF (at_ s j)))))) := by
  refine fn_ok (fn := Try.f128) (nt := 9) Try.func128 rfl rfl rfl rfl (by simp [taggedL, tagged, tagFeat]) fun B hB => ?_
  refine aw_lens (x := slFeat false s) 0 rfl (fun len_s => ?_)
  simp [LenOK, LenL, cFeat, fFeat, slFeat] at len_s
  refine aw_seq ?_
  refine aw_reg [] [0, 1] [] [slFeat false s, .fn 129 []] [] [] (by kernel_rfl) hB trivial ?_
  refine ae_then ?_
  refine aw_seq ?_
  refine aw_reg [(2, .call [(true, slFeat false s), (true, .fn 129 [])] true (I (firstN s.length (fun j => (!(okF (at_ s j)))))))] [4] [] [Bv (decide (0 ≤ (firstN s.length (fun j => (!(okF (at_ s j)))))))] [] [Con Try.prog 178 [slFeat false s, .fn 129 []] true (I (firstN s.length (fun j => (!(okF (at_ s j)))))) ∧ ((slFeat false s : AV) = slFeat false s) ∧ ((.fn 129 [] : AV) = .fn 129 []) ∧ True] (by kernel_rfl) hB ⟨⟨(containsFeat_ok_idx s), rfl, rfl, trivial⟩, trivial⟩ ?_
  refine ae_then ?_
  refine aw_ret ?_
  refine ae_ret hB (Bv (decide (0 ≤ (firstN s.length (fun j => (!(okF (at_ s j)))))))) (by kernel_rfl) (.inl (by exact congrArg Bv (firstN_any _ _))) rfl (fun _ => trivial)

theorem areFeats_ok (list : List Feat) (most : Int) : Con Try.prog 61 [slFeat false list, I most] true (Bv (okFeats list most)) := by
  refine fn_ok (fn := Try.f61) (nt := 19) Try.func61 rfl rfl rfl rfl (by simp [taggedL, tagged, tagFeat]) fun B hB => ?_
  refine aw_lens (x := slFeat false list) 0 rfl (fun len_list => ?_)
  simp [LenOK, LenL, cFeat, fFeat, slFeat] at len_list
  refine aw_seq ?_
  refine aw_reg [] [0, 1] [] [slFeat false list, I most] [] [] (by kernel_rfl) hB trivial ?_
  refine ae_then ?_
  refine aw_seq ?_
  by_cases h1 : 1 ≤ (list.length : Int)
  ·by_cases h2 : (list.length : Int) ≤ most
   ·refine aw_reg [(2, .dec true), (7, .dec true), (11, .call [(true, slFeat false list), (true, .fn 129 [])] true (Bv (anyN list.length (fun j => (!(okF (at_ list j)))))))] [4] [] [Bv (!(anyN list.length (fun j => (!(okF (at_ list j))))))] [] [1 ≤ (list.length : Int), (list.length : Int) ≤ most, Con Try.prog 128 [slFeat false list, .fn 129 []] true (Bv (anyN list.length (fun j => (!(okF (at_ list j)))))) ∧ ((slFeat false list : AV) = slFeat false list) ∧ ((.fn 129 [] : AV) = .fn 129 []) ∧ True] (by kernel_rfl) hB ⟨h1, h2, ⟨(containsFeat_ok list), rfl, rfl, trivial⟩, trivial⟩ ?_
    refine ae_then ?_
    refine aw_ret ?_
    refine ae_ret hB (Bv (!(anyN list.length (fun j => (!(okF (at_ list j))))))) (by kernel_rfl) (.inl (by first | rfl | (refine congrArg Bv ?_; simp [okFeats, anyN_not, *]; done) | (refine congrArg Bv ?_; simp [okFeats, anyN_not, *]; omega) | (refine congrArg Bv ?_; simp_all [okFeats, anyN_not]; done) | (refine congrArg Bv ?_; simp_all [okFeats, anyN_not]; omega))) rfl (fun _ => trivial)
   ·refine aw_reg [(2, .dec true), (7, .dec false)] [4] [] [Bv false] [] [1 ≤ (list.length : Int), ¬ ((list.length : Int) ≤ most)] (by kernel_rfl) hB ⟨h1, h2, trivial⟩ ?_
    refine ae_then ?_
    refine aw_ret ?_
    refine ae_ret hB (Bv false) (by kernel_rfl) (.inl (by first | rfl | (refine congrArg Bv ?_; simp [okFeats, anyN_not, *]; done) | (refine congrArg Bv ?_; simp [okFeats, anyN_not, *]; omega) | (refine congrArg Bv ?_; simp_all [okFeats, anyN_not]; done) | (refine congrArg Bv ?_; simp_all [okFeats, anyN_not]; omega))) rfl (fun _ => trivial)
  ·refine aw_reg [(2, .dec false)] [4] [] [Bv false] [] [¬ (1 ≤ (list.length : Int))] (by kernel_rfl) hB ⟨h1, trivial⟩ ?_
   refine ae_then ?_
   refine aw_ret ?_
   refine ae_ret hB (Bv false) (by kernel_rfl) (.inl (by first | rfl | (refine congrArg Bv ?_; simp [okFeats, anyN_not, *]; done) | (refine congrArg Bv ?_; simp [okFeats, anyN_not, *]; omega) | (refine congrArg Bv ?_; simp_all [okFeats, anyN_not]; done) | (refine congrArg Bv ?_; simp_all [okFeats, anyN_not]; omega))) rfl (fun _ => trivial)


-- impl.ValidFeats
theorem ValidFeats_ok (list : List Feat) : Con Try.prog 15 [slFeat false list] true (Bv (okFeats list 384)) := by
  refine fn_ok (fn := Try.f15) (nt := 5) Try.func15 rfl rfl rfl rfl (by simp [taggedL, tagged, tagFeat]) fun B hB => ?_
  refine aw_lens (x := slFeat false list) 0 rfl (fun len_list => ?_)
  simp [LenOK, LenL, cFeat, fFeat, slFeat] at len_list
  refine aw_seq ?_
  refine aw_reg [] [0] [] [slFeat false list] [] [] (by kernel_rfl) hB trivial ?_
  refine ae_then ?_
  refine aw_seq ?_
  refine aw_reg [(1, .call [(true, slFeat false list), (true, I 384)] true (Bv (okFeats list 384)))] [2] [] [Bv (okFeats list 384)] [] [Con Try.prog 61 [slFeat false list, I 384] true (Bv (okFeats list 384)) ∧ ((slFeat false list : AV) = slFeat false list) ∧ ((I 384 : AV) = I 384) ∧ True] (by kernel_rfl) hB ⟨⟨(areFeats_ok list 384), rfl, rfl, trivial⟩, trivial⟩ ?_
  refine ae_then ?_
  refine aw_ret ?_
  refine ae_ret hB (Bv (okFeats list 384)) (by kernel_rfl) (.inl rfl) rfl (fun _ => trivial)

end Go.Proofs.Ytebcbkejkpjeoaa.Ax
