/- Contracts that the statement FnGuesses reaches, part 3. No conditions. -/
import Derived.Test.YtinncgigkiclpaaGreatAxLGuesses2
import Derived.Lib.IndexBytes
import Derived.Lib.ItoaNum
import Derived.Lib.ParseIntBCases
import Derived.Lib.SplitLaws
import Derived.Test.YtinncgigkiclpaaGreatAxR
import Derived.Test.YtinncgigkiclpaaGreatAxS
import Derived.Test.YtinncgigkiclpaaGreatAxY
namespace Go.Proofs.YtinncgigkiclpaaGreat.Ax
open Go.RowKit Go.ChangeShapes Go.WideShapes
set_option linter.unusedVariables false
set_option linter.unusedSimpArgs false


-- impl.floorDiv
theorem floorDiv_ok (n : Int) (d : Int) (hn : (-4611686018427387904 ≤ n ∧ n ≤ 4611686018427387904) ∧ 0 < d) : Con Tryz.prog 187 [I n, I d] true (I (n / d)) := by
  have hq := tdiv_bd n d
  have hs := down_spec n hn.2
  refine fn_ok (fn := Tryz.f187) (nt := 16) Tryz.func187 rfl rfl rfl rfl (by simp [taggedL, tagged]) fun B hB => ?_
  refine aR [] [0, 1] [] [I n, I d] [] [] hB trivial ?_
  refine aR [] [0, 1, 5] [] [I n, I d, I (Int.tdiv n d)] [] [(d : Int) ≠ 0 ∧ inR .i64 (Int.tdiv n d)] hB ⟨⟨by omega, (inR_i64 (by omega) (by omega))⟩, trivial⟩ ?_
  refine aw_seq ?_
  refine aw_seq ?_
  by_cases h1 : (Int.tmod n d) < 0
  ·refine aw_r [(3, .dec true)] [5, 12] [] [I (Int.tdiv n d), Bv true] [] [(d : Int) ≠ 0, (Int.tmod n d) < 0] hB ⟨(by omega), h1, trivial⟩ ?_
   refine ae_then ?_
   refine aw_true rfl ?_
   refine aw_r [] [5] [] [I ((Int.tdiv n d) - 1)] [] [inR .i64 ((Int.tdiv n d) - 1)] hB ⟨(inR_i64 (by omega) (by omega)), trivial⟩ ?_
   refine ae_then ?_
   refine aR [] [4] [] [I ((Int.tdiv n d) - 1)] [] [] hB trivial ?_
   refine aw_ret ?_
   refine ae_ret hB (I ((Int.tdiv n d) - 1)) (by kernel_rfl) (.inl (by refine congrArg I ?_; first | exact hs.1 (by assumption) | exact hs.2 (by assumption))) rfl (fun _ => trivial)
  refine aw_r [(3, .dec false)] [5, 12] [] [I (Int.tdiv n d), Bv false] [] [(d : Int) ≠ 0, ¬ ((Int.tmod n d) < 0)] hB ⟨(by omega), h1, trivial⟩ ?_
  refine ae_then ?_
  refine aw_false rfl ?_
  refine aw_skip ?_
  refine ae_then ?_
  refine aR [] [4] [] [I (Int.tdiv n d)] [] [] hB trivial ?_
  refine aw_ret ?_
  refine ae_ret hB (I (Int.tdiv n d)) (by kernel_rfl) (.inl (by refine congrArg I ?_; first | exact hs.1 (by assumption) | exact hs.2 (by assumption))) rfl (fun _ => trivial)



-- impl.nearestDiv
theorem nearestDiv_ok (n : Int) (d : Int) (hn : (-1000000000000000000 ≤ n ∧ n ≤ 1000000000000000000) ∧ 0 < d ∧ d ≤ 1000000000000000000) : Con Tryz.prog 165 [I n, I d] true (I (nearI n d)) := by
  have hs := near_spec n hn.2.1
  have hrb := rest_bd n hn.2.1
  have heb := ediv_bd n hn.2.1
  refine fn_ok (fn := Tryz.f165) (nt := 23) Tryz.func165 rfl rfl rfl rfl (by simp [taggedL, tagged]) fun B hB => ?_
  refine aR [] [0, 1] [] [I n, I d] [] [] hB trivial ?_
  refine aR [(2, .call [(true, .any), (true, .any)] true (I (n / d)))] [0, 1, 5] [] [I n, I d, I (n / d)] [] [Con Tryz.prog 187 [I n, I d] true (I (n / d)) ∧ True] hB ⟨⟨(floorDiv_ok n d (by omega)), trivial⟩, trivial⟩ ?_
  refine aw_seq ?_
  refine aR [] [1, 5, 6] [] [I d, I (n / d), I (n - ((n / d) * d))] [] [inR .i64 ((n / d) * d), inR .i64 (n - ((n / d) * d))] hB ⟨(inR_i64 (by omega) (by omega)), (inR_i64 (by omega) (by omega)), trivial⟩ ?_
  refine aw_seq ?_
  by_cases h1 : (d - (n - ((n / d) * d))) ≤ (n - ((n / d) * d))
  ·refine aw_r [(4, .dec true)] [5, 19] [] [I (n / d), Bv true] [] [inR .i64 (d - (n - ((n / d) * d))), (d - (n - ((n / d) * d))) ≤ (n - ((n / d) * d))] hB ⟨(inR_i64 (by omega) (by omega)), h1, trivial⟩ ?_
   refine ae_then ?_
   refine aw_true rfl ?_
   refine aw_r [] [5] [] [I ((n / d) + 1)] [] [inR .i64 ((n / d) + 1)] hB ⟨(inR_i64 (by omega) (by omega)), trivial⟩ ?_
   refine ae_then ?_
   refine aR [] [4] [] [I ((n / d) + 1)] [] [] hB trivial ?_
   refine aw_ret ?_
   refine ae_ret hB (I ((n / d) + 1)) (by kernel_rfl) (.inl (by refine congrArg I ?_; first | exact hs.1 (by assumption) | exact hs.2 (by assumption))) rfl (fun _ => trivial)
  refine aw_r [(4, .dec false)] [5, 19] [] [I (n / d), Bv false] [] [inR .i64 (d - (n - ((n / d) * d))), ¬ ((d - (n - ((n / d) * d))) ≤ (n - ((n / d) * d)))] hB ⟨(inR_i64 (by omega) (by omega)), h1, trivial⟩ ?_
  refine ae_then ?_
  refine aw_false rfl ?_
  refine aw_skip ?_
  refine ae_then ?_
  refine aR [] [4] [] [I (n / d)] [] [] hB trivial ?_
  refine aw_ret ?_
  refine ae_ret hB (I (n / d)) (by kernel_rfl) (.inl (by refine congrArg I ?_; first | exact hs.1 (by assumption) | exact hs.2 (by assumption))) rfl (fun _ => trivial)



-- impl.spotOf
theorem spotOf_ok (p : Point) : Con Tryz.prog 186 [agPoint p] true (.agg [I p.X, I p.Y]) := by
  refine fn_ok (fn := Tryz.f186) (nt := 8) Tryz.func186 rfl rfl rfl rfl (by simp [taggedL, tagged]) fun B hB => ?_
  refine aR [(0, .new 1), (1, .new 2)] [1, 2] [1, 2] [.ref 1 0, .ref 2 0] [some (bxPoint p), some (.box [I 0, I 0])] [] hB trivial ?_
  refine aR [] [2] [2] [.ref 2 0] [some (.box [I p.X, I p.Y])] [] hB trivial ?_
  refine aw_ret ?_
  refine ae_ret hB (.agg [I p.X, I p.Y]) (by kernel_rfl) (.inl rfl) rfl (fun _ => (by simp [tagged, taggedL]))



-- impl.spotAt
theorem spotAt_ok (s : Stroke) (arcs : List Int) (part : Int) (parts : Int) (ok : okStroke' s = true) (ha : arcs = arcsL s.Points s.Points.length) (hp : (0 ≤ part ∧ part ≤ parts) ∧ (1 ≤ parts ∧ parts ≤ 1000)) : Con Tryz.prog 163 [.agg [slPoint false s.Points], slI false arcs, I part, I parts] true (.agg [I ((spotI s part parts).X), I ((spotI s part parts).Y)]) := by
  have hln := okS_len ok
  have hal : arcs.length = s.Points.length := by rw [ha, arcsL_len]
  have hat : ∀ j, j < s.Points.length → at_ arcs j = arcI s j := by intro j hj; rw [ha]; exact arcsL_at hj
  have e0 : at_ arcs ((arcs.length : Int) - 1).toNat = arcI s (s.Points.length - 1) := (hat _ (by omega)).trans (by congr 1; omega)
  have hb0 := arcI_bd ok (k := s.Points.length - 1) (by omega)
  rw [← e0] at hb0
  have hm0 := mulP_bd hb0.1 hb0.2 hp.1.1 (by omega : part ≤ 1000)
  refine fn_ok (fn := Tryz.f163) (nt := 103) Tryz.func163 rfl rfl rfl rfl (by simp [taggedL, tagged, tagI, tagPoint]) fun B hB => ?_
  refine aw_lens (x := .agg [slPoint false s.Points]) 0 rfl (fun len_s => ?_)
  simp [LenOK, LenL, cPoint, fPoint, slPoint] at len_s
  refine aw_lens (x := slI false arcs) 1 rfl (fun len_arcs => ?_)
  simp [LenOK, LenL, cI, fI, slI] at len_arcs
  refine aR [(0, .new 4), (1, .new 8)] [1, 2, 3, 4, 8] [4, 8] [slI false arcs, I part, I parts, .ref 4 0, .ref 8 0] [some (.box [slPoint false s.Points]), some (.box [I 0, I 0])] [] hB trivial ?_
  refine aR [] [1, 3, 4, 8, 9] [4, 8] [slI false arcs, I parts, .ref 4 0, .ref 8 0, I ((at_ arcs (((arcs.length : Int) - 1).toNat)) * part)] [some (.box [slPoint false s.Points]), some (.box [I 0, I 0])] [inR .i64 ((arcs.length : Int) - 1), (0 : Int) ≤ ((arcs.length : Int) - 1) ∧ ((arcs.length : Int) - 1) < (arcs.length : Int), inR .i64 ((at_ arcs (((arcs.length : Int) - 1).toNat)) * part)] hB ⟨(inR_i64 (by omega) (by omega)), ⟨(by omega), (by omega)⟩, (inR_i64 (by omega) (by omega)), trivial⟩ ?_
  refine aw_seq ?_
  refine aR [] [1, 3, 4, 8, 9, 10] [4, 8] [slI false arcs, I parts, .ref 4 0, .ref 8 0, I ((at_ arcs (((arcs.length : Int) - 1).toNat)) * part), I 1] [some (.box [slPoint false s.Points]), some (.box [I 0, I 0])] [] hB trivial ?_
  refine aw_block ?_
  refine aw_loop (fun gn gσ => ∃ (k : Int), gn = ((arcs.length : Int) - k).toNat ∧ (1 ≤ k ∧ k ≤ (arcs.length : Int)) ∧ (∀ j : Nat, (j : Int) < k → stopB s part parts j = false) ∧ gσ = mkS [(1, slI false arcs), (3, I parts), (4, .ref 4 0), (8, .ref 8 0), (9, I ((at_ arcs (((arcs.length : Int) - 1).toNat)) * part)), (10, I k)] [(4, .box [slPoint false s.Points]), (8, .box [I 0, I 0])]) (((arcs.length : Int) - 1).toNat) ⟨1, rfl, (by omega), (by intro j hj; exact stop_no (fun q => by omega)), rfl⟩ (fun gn gσ hI => ?_)
  obtain ⟨k, rfl, hi0, hn0, rfl⟩ := hI
  refine aw_seq ?_
  refine aw_seq ?_
  by_cases h1 : k < (arcs.length : Int)
  ·have hi : k.toNat < s.Points.length := by omega
   have ei : (k - 1).toNat = k.toNat - 1 := by omega
   have e1 := hat k.toNat hi
   have e2 : at_ arcs (k - 1).toNat = arcI s (k.toNat - 1) := (hat _ (by omega)).trans (by rw [ei])
   have hb1 := arcI_bd ok hi
   have hb2 := arcI_bd ok (k := k.toNat - 1) (by omega)
   have hup := arcI_up ok hi (by omega)
   rw [← e1] at hb1
   rw [← e2] at hb2
   rw [← e1, ← e2] at hup
   have hm1 := mulP_bd hb1.1 hb1.2 (by omega : 0 ≤ parts) hp.2.2
   have hm2 := mulP_bd hb2.1 hb2.2 (by omega : 0 ≤ parts) hp.2.2
   have hm3 := mulP_bd (x := at_ arcs k.toNat - at_ arcs (k - 1).toNat) (A := 5559540) (by omega) (by omega) (by omega : 0 ≤ parts) hp.2.2
   refine aw_r [(3, .dec true)] [1, 3, 4, 8, 9, 10, 27] [4, 8] [slI false arcs, I parts, .ref 4 0, .ref 8 0, I ((at_ arcs (((arcs.length : Int) - 1).toNat)) * part), I k, Bv true] [some (.box [slPoint false s.Points]), some (.box [I 0, I 0])] [k < (arcs.length : Int)] hB ⟨h1, trivial⟩ ?_
   refine ae_then ?_
   refine aw_true rfl ?_
   refine aw_skip ?_
   refine ae_then ?_
   refine aw_seq ?_
   refine aw_block ?_
   refine aR [] [1, 3, 4, 8, 9, 10, 11] [4, 8] [slI false arcs, I parts, .ref 4 0, .ref 8 0, I ((at_ arcs (((arcs.length : Int) - 1).toNat)) * part), I k, I ((at_ arcs k.toNat) - (at_ arcs ((k - 1).toNat)))] [some (.box [slPoint false s.Points]), some (.box [I 0, I 0])] [(0 : Int) ≤ k ∧ k < (arcs.length : Int), inR .i64 (k - 1), (0 : Int) ≤ (k - 1) ∧ (k - 1) < (arcs.length : Int), inR .i64 ((at_ arcs k.toNat) - (at_ arcs ((k - 1).toNat)))] hB ⟨⟨(by omega), (by omega)⟩, (inR_i64 (by omega) (by omega)), ⟨(by omega), (by omega)⟩, (inR_i64 (by omega) (by omega)), trivial⟩ ?_
   refine aw_seq ?_
   refine aw_seq ?_
   by_cases h2 : ((at_ arcs k.toNat) - (at_ arcs ((k - 1).toNat))) = 0
   ·have hst : stopB s part parts k.toNat = false := stop_no (by rintro ⟨_, q, _⟩; rw [← e1, ← e2] at q; omega)
    refine aw_r [(1, .dec true)] [1, 3, 4, 8, 9, 10, 11, 51] [4, 8] [slI false arcs, I parts, .ref 4 0, .ref 8 0, I ((at_ arcs (((arcs.length : Int) - 1).toNat)) * part), I k, I ((at_ arcs k.toNat) - (at_ arcs ((k - 1).toNat))), Bv true] [some (.box [slPoint false s.Points]), some (.box [I 0, I 0])] [((at_ arcs k.toNat) - (at_ arcs ((k - 1).toNat))) = 0] hB ⟨h2, trivial⟩ ?_
    refine ae_then ?_
    refine aw_true rfl ?_
    refine aw_exit ?_
    refine ae_exit_then ?_
    refine ae_exit_same ?_
    refine ae_then ?_
    refine aw_r [] [1, 3, 4, 8, 9, 10] [4, 8] [slI false arcs, I parts, .ref 4 0, .ref 8 0, I ((at_ arcs (((arcs.length : Int) - 1).toNat)) * part), I (k + 1)] [some (.box [slPoint false s.Points]), some (.box [I 0, I 0])] [inR .i64 (k + 1)] hB ⟨(inR_i64 (by omega) (by omega)), trivial⟩ ?_
    exact ae_again _ (by omega) ⟨(k + 1), rfl, (by omega), (by exact up_to (n := 0) (by omega) hn0 hst), rfl⟩
   by_cases h3 : ((at_ arcs k.toNat) * parts) < ((at_ arcs (((arcs.length : Int) - 1).toNat)) * part)
   ·have hst : stopB s part parts k.toNat = false := stop_no (by rintro ⟨_, _, q⟩; rw [← e1, ← e0] at q; omega)
    refine aw_r [(1, .dec false), (10, .dec true)] [1, 3, 4, 8, 9, 10, 11, 51] [4, 8] [slI false arcs, I parts, .ref 4 0, .ref 8 0, I ((at_ arcs (((arcs.length : Int) - 1).toNat)) * part), I k, I ((at_ arcs k.toNat) - (at_ arcs ((k - 1).toNat))), Bv true] [some (.box [slPoint false s.Points]), some (.box [I 0, I 0])] [¬ (((at_ arcs k.toNat) - (at_ arcs ((k - 1).toNat))) = 0), (0 : Int) ≤ k ∧ k < (arcs.length : Int), inR .i64 ((at_ arcs k.toNat) * parts), ((at_ arcs k.toNat) * parts) < ((at_ arcs (((arcs.length : Int) - 1).toNat)) * part)] hB ⟨h2, ⟨(by omega), (by omega)⟩, (inR_i64 (by omega) (by omega)), h3, trivial⟩ ?_
    refine ae_then ?_
    refine aw_true rfl ?_
    refine aw_exit ?_
    refine ae_exit_then ?_
    refine ae_exit_same ?_
    refine ae_then ?_
    refine aw_r [] [1, 3, 4, 8, 9, 10] [4, 8] [slI false arcs, I parts, .ref 4 0, .ref 8 0, I ((at_ arcs (((arcs.length : Int) - 1).toNat)) * part), I (k + 1)] [some (.box [slPoint false s.Points]), some (.box [I 0, I 0])] [inR .i64 (k + 1)] hB ⟨(inR_i64 (by omega) (by omega)), trivial⟩ ?_
    exact ae_again _ (by omega) ⟨(k + 1), rfl, (by omega), (by exact up_to (n := 0) (by omega) hn0 hst), rfl⟩
   have hst : stopB s part parts k.toNat = true := stop_iff.2 (by rw [← e1, ← e0, ← e2]; omega)
   have hn1 : ∀ j, j < k.toNat → stopB s part parts j = false := fun j hj => hn0 j (by omega)
   have hr := spot_rest ok (by omega) hi hst hn1
   rw [← e0, ← e1, ← e2] at hr
   have hpa := okP_iff.1 (okS_at ok (j := (k - 1).toNat) (by omega))
   have hpb := okP_iff.1 (okS_at ok hi)
   have hmx := mulS_bd (x := (at_ s.Points k.toNat).X - (at_ s.Points (k - 1).toNat).X) (A := 4095) (B := 5559540000) (by omega) (by omega) hr.1.1 (by omega)
   have hmy := mulS_bd (x := (at_ s.Points k.toNat).Y - (at_ s.Points (k - 1).toNat).Y) (A := 4095) (B := 5559540000) (by omega) (by omega) hr.1.1 (by omega)
   have hnx := near_between (x := (at_ s.Points k.toNat).X - (at_ s.Points (k - 1).toNat).X) hr.2 hr.1.1 hr.1.2
   have hny := near_between (x := (at_ s.Points k.toNat).Y - (at_ s.Points (k - 1).toNat).Y) hr.2 hr.1.1 hr.1.2
   have hsp := spotI_at hi hst hn1
   refine aw_r [(1, .dec false), (10, .dec false)] [1, 3, 4, 8, 9, 10, 11, 51] [4, 8] [slI false arcs, I parts, .ref 4 0, .ref 8 0, I ((at_ arcs (((arcs.length : Int) - 1).toNat)) * part), I k, I ((at_ arcs k.toNat) - (at_ arcs ((k - 1).toNat))), Bv false] [some (.box [slPoint false s.Points]), some (.box [I 0, I 0])] [¬ (((at_ arcs k.toNat) - (at_ arcs ((k - 1).toNat))) = 0), (0 : Int) ≤ k ∧ k < (arcs.length : Int), inR .i64 ((at_ arcs k.toNat) * parts), ¬ (((at_ arcs k.toNat) * parts) < ((at_ arcs (((arcs.length : Int) - 1).toNat)) * part))] hB ⟨h2, ⟨(by omega), (by omega)⟩, (inR_i64 (by omega) (by omega)), h3, trivial⟩ ?_
   refine ae_then ?_
   refine aw_false rfl ?_
   refine aw_skip ?_
   refine ae_then ?_
   refine aR [(11, .new 12), (12, .new 13)] [1, 3, 8, 9, 10, 11, 12, 13] [8, 12, 13] [slI false arcs, I parts, .ref 8 0, I ((at_ arcs (((arcs.length : Int) - 1).toNat)) * part), I k, I ((at_ arcs k.toNat) - (at_ arcs ((k - 1).toNat))), .ref 12 0, .ref 13 0] [some (.box [I 0, I 0]), some (bxPoint (at_ s.Points ((k - 1).toNat))), some (bxPoint (at_ s.Points k.toNat))] [inR .i64 (k - 1), (0 : Int) ≤ (k - 1) ∧ (k - 1) < (s.Points.length : Int), (0 : Int) ≤ k ∧ k < (s.Points.length : Int)] hB ⟨(inR_i64 (by omega) (by omega)), ⟨(by omega), (by omega)⟩, ⟨(by omega), (by omega)⟩, trivial⟩ ?_
   refine aR [] [8, 12, 13, 14, 15] [8, 12, 13] [.ref 8 0, .ref 12 0, .ref 13 0, I (((at_ arcs (((arcs.length : Int) - 1).toNat)) * part) - ((at_ arcs ((k - 1).toNat)) * parts)), I (((at_ arcs k.toNat) - (at_ arcs ((k - 1).toNat))) * parts)] [some (.box [I 0, I 0]), some (bxPoint (at_ s.Points ((k - 1).toNat))), some (bxPoint (at_ s.Points k.toNat))] [inR .i64 (k - 1), (0 : Int) ≤ (k - 1) ∧ (k - 1) < (arcs.length : Int), inR .i64 ((at_ arcs ((k - 1).toNat)) * parts), inR .i64 (((at_ arcs (((arcs.length : Int) - 1).toNat)) * part) - ((at_ arcs ((k - 1).toNat)) * parts)), inR .i64 (((at_ arcs k.toNat) - (at_ arcs ((k - 1).toNat))) * parts)] hB ⟨(inR_i64 (by omega) (by omega)), ⟨(by omega), (by omega)⟩, (inR_i64 (by omega) (by omega)), (inR_i64 (by omega) (by omega)), (inR_i64 (by omega) (by omega)), trivial⟩ ?_
   refine aR [(10, .call [(true, .any), (true, .any)] true (I (nearI ((((at_ s.Points k.toNat).X) - ((at_ s.Points ((k - 1).toNat)).X)) * (((at_ arcs (((arcs.length : Int) - 1).toNat)) * part) - ((at_ arcs ((k - 1).toNat)) * parts))) (((at_ arcs k.toNat) - (at_ arcs ((k - 1).toNat))) * parts)))), (22, .call [(true, .any), (true, .any)] true (I (nearI ((((at_ s.Points k.toNat).Y) - ((at_ s.Points ((k - 1).toNat)).Y)) * (((at_ arcs (((arcs.length : Int) - 1).toNat)) * part) - ((at_ arcs ((k - 1).toNat)) * parts))) (((at_ arcs k.toNat) - (at_ arcs ((k - 1).toNat))) * parts))))] [8] [8] [.ref 8 0] [some (.box [I (((at_ s.Points ((k - 1).toNat)).X) + (nearI ((((at_ s.Points k.toNat).X) - ((at_ s.Points ((k - 1).toNat)).X)) * (((at_ arcs (((arcs.length : Int) - 1).toNat)) * part) - ((at_ arcs ((k - 1).toNat)) * parts))) (((at_ arcs k.toNat) - (at_ arcs ((k - 1).toNat))) * parts))), I (((at_ s.Points ((k - 1).toNat)).Y) + (nearI ((((at_ s.Points k.toNat).Y) - ((at_ s.Points ((k - 1).toNat)).Y)) * (((at_ arcs (((arcs.length : Int) - 1).toNat)) * part) - ((at_ arcs ((k - 1).toNat)) * parts))) (((at_ arcs k.toNat) - (at_ arcs ((k - 1).toNat))) * parts)))])] [inR .i64 (((at_ s.Points k.toNat).X) - ((at_ s.Points ((k - 1).toNat)).X)), inR .i64 ((((at_ s.Points k.toNat).X) - ((at_ s.Points ((k - 1).toNat)).X)) * (((at_ arcs (((arcs.length : Int) - 1).toNat)) * part) - ((at_ arcs ((k - 1).toNat)) * parts))), Con Tryz.prog 165 [I ((((at_ s.Points k.toNat).X) - ((at_ s.Points ((k - 1).toNat)).X)) * (((at_ arcs (((arcs.length : Int) - 1).toNat)) * part) - ((at_ arcs ((k - 1).toNat)) * parts))), I (((at_ arcs k.toNat) - (at_ arcs ((k - 1).toNat))) * parts)] true (I (nearI ((((at_ s.Points k.toNat).X) - ((at_ s.Points ((k - 1).toNat)).X)) * (((at_ arcs (((arcs.length : Int) - 1).toNat)) * part) - ((at_ arcs ((k - 1).toNat)) * parts))) (((at_ arcs k.toNat) - (at_ arcs ((k - 1).toNat))) * parts))) ∧ True, inR .i64 (((at_ s.Points ((k - 1).toNat)).X) + (nearI ((((at_ s.Points k.toNat).X) - ((at_ s.Points ((k - 1).toNat)).X)) * (((at_ arcs (((arcs.length : Int) - 1).toNat)) * part) - ((at_ arcs ((k - 1).toNat)) * parts))) (((at_ arcs k.toNat) - (at_ arcs ((k - 1).toNat))) * parts))), inR .i64 (((at_ s.Points k.toNat).Y) - ((at_ s.Points ((k - 1).toNat)).Y)), inR .i64 ((((at_ s.Points k.toNat).Y) - ((at_ s.Points ((k - 1).toNat)).Y)) * (((at_ arcs (((arcs.length : Int) - 1).toNat)) * part) - ((at_ arcs ((k - 1).toNat)) * parts))), Con Tryz.prog 165 [I ((((at_ s.Points k.toNat).Y) - ((at_ s.Points ((k - 1).toNat)).Y)) * (((at_ arcs (((arcs.length : Int) - 1).toNat)) * part) - ((at_ arcs ((k - 1).toNat)) * parts))), I (((at_ arcs k.toNat) - (at_ arcs ((k - 1).toNat))) * parts)] true (I (nearI ((((at_ s.Points k.toNat).Y) - ((at_ s.Points ((k - 1).toNat)).Y)) * (((at_ arcs (((arcs.length : Int) - 1).toNat)) * part) - ((at_ arcs ((k - 1).toNat)) * parts))) (((at_ arcs k.toNat) - (at_ arcs ((k - 1).toNat))) * parts))) ∧ True, inR .i64 (((at_ s.Points ((k - 1).toNat)).Y) + (nearI ((((at_ s.Points k.toNat).Y) - ((at_ s.Points ((k - 1).toNat)).Y)) * (((at_ arcs (((arcs.length : Int) - 1).toNat)) * part) - ((at_ arcs ((k - 1).toNat)) * parts))) (((at_ arcs k.toNat) - (at_ arcs ((k - 1).toNat))) * parts)))] hB ⟨(inR_i64 (by omega) (by omega)), (inR_i64 (by omega) (by omega)), ⟨(nearestDiv_ok ((((at_ s.Points k.toNat).X) - ((at_ s.Points ((k - 1).toNat)).X)) * (((at_ arcs (((arcs.length : Int) - 1).toNat)) * part) - ((at_ arcs ((k - 1).toNat)) * parts))) (((at_ arcs k.toNat) - (at_ arcs ((k - 1).toNat))) * parts) (by omega)), trivial⟩, (inR_i64 (by omega) (by omega)), (inR_i64 (by omega) (by omega)), (inR_i64 (by omega) (by omega)), ⟨(nearestDiv_ok ((((at_ s.Points k.toNat).Y) - ((at_ s.Points ((k - 1).toNat)).Y)) * (((at_ arcs (((arcs.length : Int) - 1).toNat)) * part) - ((at_ arcs ((k - 1).toNat)) * parts))) (((at_ arcs k.toNat) - (at_ arcs ((k - 1).toNat))) * parts) (by omega)), trivial⟩, (inR_i64 (by omega) (by omega)), trivial⟩ ?_
   refine aw_ret ?_
   refine ae_ret_block (ae_ret_then (ae_ret_then (ae_ret_block (ae_ret_then ?_))))
   refine ae_ret hB (.agg [I (((at_ s.Points ((k - 1).toNat)).X) + (nearI ((((at_ s.Points k.toNat).X) - ((at_ s.Points ((k - 1).toNat)).X)) * (((at_ arcs (((arcs.length : Int) - 1).toNat)) * part) - ((at_ arcs ((k - 1).toNat)) * parts))) (((at_ arcs k.toNat) - (at_ arcs ((k - 1).toNat))) * parts))), I (((at_ s.Points ((k - 1).toNat)).Y) + (nearI ((((at_ s.Points k.toNat).Y) - ((at_ s.Points ((k - 1).toNat)).Y)) * (((at_ arcs (((arcs.length : Int) - 1).toNat)) * part) - ((at_ arcs ((k - 1).toNat)) * parts))) (((at_ arcs k.toNat) - (at_ arcs ((k - 1).toNat))) * parts)))]) (by kernel_rfl) (.inl (by first | (rw [hnone]; done) | (rw [hnone]; rfl) | (rw [hsp]; simp only [spotK, e0, e1, e2]; simp only [ei]))) rfl (fun _ => (by simp [tagged, taggedL]))
  have hnone := spotI_none (s := s) (part := part) (parts := parts) (fun j hj => hn0 j (by omega))
  refine aw_r [(3, .dec false)] [1, 3, 4, 8, 9, 10, 27] [4, 8] [slI false arcs, I parts, .ref 4 0, .ref 8 0, I ((at_ arcs (((arcs.length : Int) - 1).toNat)) * part), I k, Bv false] [some (.box [slPoint false s.Points]), some (.box [I 0, I 0])] [¬ (k < (arcs.length : Int))] hB ⟨h1, trivial⟩ ?_
  refine ae_then ?_
  refine aw_false rfl ?_
  refine aw_exit ?_
  refine ae_exit_then ?_
  refine ae_exit_then ?_
  refine ae_exit_same ?_
  refine ae_then ?_
  refine aR [(1, .call [(true, .any)] true (agPoint (at_ s.Points 0))), (2, .call [(true, .any)] true (.agg [I ((at_ s.Points 0).X), I ((at_ s.Points 0).Y)]))] [8] [8] [.ref 8 0] [some (.box [I ((at_ s.Points 0).X), I ((at_ s.Points 0).Y)])] [Con Tryz.prog 48 [.agg [slPoint false s.Points]] true (agPoint (at_ s.Points 0)) ∧ True, Con Tryz.prog 186 [agPoint (at_ s.Points 0)] true (.agg [I ((at_ s.Points 0).X), I ((at_ s.Points 0).Y)]) ∧ True] hB ⟨⟨(firstOf_ok s ok), trivial⟩, ⟨(spotOf_ok (at_ s.Points 0)), trivial⟩, trivial⟩ ?_
  refine aw_ret ?_
  refine ae_ret hB (.agg [I ((at_ s.Points 0).X), I ((at_ s.Points 0).Y)]) (by kernel_rfl) (.inl (by first | (rw [hnone]; done) | (rw [hnone]; rfl) | (rw [hsp]; simp only [spotK, e0, e1, e2]; simp only [ei]))) rfl (fun _ => (by simp [tagged, taggedL]))



-- impl.resample
theorem resample_ok (s : Stroke) (n : Int) (ok : okStroke' s = true) (hn : 2 ≤ n ∧ n ≤ 24) : Con Tryz.prog 127 [.agg [slPoint false s.Points], I n] true (slSpot true (resQ s n)) := by
  refine fn_ok (fn := Tryz.f127) (nt := 25) Tryz.func127 rfl rfl rfl rfl (by simp [taggedL, tagged, tagPoint]) fun B hB => ?_
  refine aw_lens (x := .agg [slPoint false s.Points]) 0 rfl (fun len_s => ?_)
  simp [LenOK, LenL, cPoint, fPoint, slPoint] at len_s
  refine aR [(0, .new 2)] [1, 2] [2] [I n, .ref 2 0] [some (.box [slPoint false s.Points])] [] hB trivial ?_
  refine aR [(1, .call [(true, .any)] true (slI true (arcsL s.Points s.Points.length)))] [1, 2, 5] [2] [I n, .ref 2 0, slI true (arcsL s.Points s.Points.length)] [some (.box [slPoint false s.Points])] [Con Tryz.prog 162 [.agg [slPoint false s.Points]] true (slI true (arcsL s.Points s.Points.length)) ∧ True] hB ⟨⟨(arcsOf_ok s ok), trivial⟩, trivial⟩ ?_
  refine aR [] [1, 2, 5, 6] [2] [I n, .ref 2 0, slI true (arcsL s.Points s.Points.length), nilA] [some (.box [slPoint false s.Points])] [] hB trivial ?_
  refine aw_seq ?_
  refine aR [] [1, 2, 5, 6, 7] [2] [I n, .ref 2 0, slI true (arcsL s.Points s.Points.length), nilA, I 0] [some (.box [slPoint false s.Points])] [] hB trivial ?_
  refine aw_block ?_
  refine aw_nil hB 6 706 2 (fun _ => []) (by kernel_rfl) ?_
  refine aw_weak hB [] (T := [(1, I n), (2, .ref 2 0), (5, slI true (arcsL s.Points s.Points.length)), (6, .arr 706), (7, I 0)]) (O := [(2, .box [slPoint false s.Points]), (706, tASpot ([] : List Spot))]) rfl (⟨.inl rfl, .inl rfl, .inl rfl, .inl rfl, .inl rfl, trivial⟩) (⟨.inl rfl, .inr ⟨rfl, (by first | rfl | (simp; done) | (simp; omega) | omega), fun i_ hi_ => absurd hi_ (Nat.not_lt_zero _)⟩, trivial⟩) ?_
  refine aw_loop (fun gn gσ => ∃ (list : List Spot) (k : Int), gn = (n - k).toNat ∧ (0 ≤ k ∧ k ≤ n) ∧ ((list.length : Int) = k) ∧ (list = resK s n k.toNat) ∧ gσ = mkS [(1, I n), (2, .ref 2 0), (5, slI true (arcsL s.Points s.Points.length)), (6, .arr 706), (7, I k)] [(2, .box [slPoint false s.Points]), (706, tASpot list)]) ((n - 0).toNat) ⟨([] : List Spot), 0, rfl, (by omega), (by rfl), (by rfl), rfl⟩ (fun gn gσ hI => ?_)
  obtain ⟨list, k, rfl, hk0, hll, hl0, rfl⟩ := hI
  refine aw_seq ?_
  refine aw_seq ?_
  by_cases h1 : k < n
  ·refine aw_r [(2, .dec true)] [1, 2, 5, 6, 7, 12] [2, 706] [I n, .ref 2 0, slI true (arcsL s.Points s.Points.length), .arr 706, I k, Bv true] [some (.box [slPoint false s.Points]), some (tASpot list)] [k < n] hB ⟨h1, trivial⟩ ?_
   refine ae_then ?_
   refine aw_true rfl ?_
   refine aw_skip ?_
   refine ae_then ?_
   refine aw_seq ?_
   refine aw_block ?_
   refine aw_r [(6, .call [(true, .any), (false, slI false (arcsL s.Points s.Points.length)), (true, .any), (true, .any)] true (.agg [I ((spotI s k (n - 1)).X), I ((spotI s k (n - 1)).Y)])), (7, .new 22), (8, .new 23)] [1, 2, 5, 6, 7] [2, 23] [I n, .ref 2 0, slI true (arcsL s.Points s.Points.length), .arr 23, I k] [some (.box [slPoint false s.Points]), some (.arr 2 (list.length + 1) (catF list.length (fSpot list) (litF [I ((spotI s k (n - 1)).X), I ((spotI s k (n - 1)).Y)] 2)))] [inR .i64 (n - 1), Con Tryz.prog 163 [.agg [slPoint false s.Points], slI false (arcsL s.Points s.Points.length), I k, I (n - 1)] true (.agg [I ((spotI s k (n - 1)).X), I ((spotI s k (n - 1)).Y)]) ∧ ((false = true → true = true) ∧ 1 = 1 ∧ ((arcsL s.Points s.Points.length).length) = ((arcsL s.Points s.Points.length).length) ∧ ∀ i_, i_ < ((arcsL s.Points s.Points.length).length) → (fI (arcsL s.Points s.Points.length)) i_ = (fI (arcsL s.Points s.Points.length)) i_ ∨ (AV.idsL ((fI (arcsL s.Points s.Points.length)) i_) = [] ∧ leL (fun _ => none) false ((fI (arcsL s.Points s.Points.length)) i_) ((fI (arcsL s.Points s.Points.length)) i_))) ∧ True, (list.length + 1) * 16 ≤ 140737488355328] hB ⟨(inR_i64 (by omega) (by omega)), ⟨(spotAt_ok s (arcsL s.Points s.Points.length) k (n - 1) ok (by first | rfl | assumption) (by omega)), ⟨(fun h => by cases h), rfl, rfl, fun i _ => .inl rfl⟩, trivial⟩, (by omega), trivial⟩ ?_
   refine ae_block 1 ?_
   refine ae_then ?_
   refine aw_r [] [1, 2, 5, 6, 7] [2, 23] [I n, .ref 2 0, slI true (arcsL s.Points s.Points.length), .arr 23, I (k + 1)] [some (.box [slPoint false s.Points]), some (.arr 2 (list.length + 1) (catF list.length (fSpot list) (litF [I ((spotI s k (n - 1)).X), I ((spotI s k (n - 1)).Y)] 2)))] [inR .i64 (k + 1)] hB ⟨(inR_i64 (by omega) (by omega)), trivial⟩ ?_
   refine ae_weak hB [(706, 23)] (T := [(1, I n), (2, .ref 2 0), (5, slI true (arcsL s.Points s.Points.length)), (6, .arr 706), (7, I (k + 1))]) (O := [(2, .box [slPoint false s.Points]), (706, tASpot (list ++ [(spotI s k (n - 1))]))]) rfl (⟨.inl rfl, .inl rfl, .inl rfl, .inl rfl, .inl rfl, trivial⟩) (⟨.inl rfl, .inr ⟨rfl, (by first | rfl | (simp; done) | (simp; omega) | omega), fun i_ hi_ => .inl (cat_snoc (enc := cSpot) (xs := list) rfl i_ hi_)⟩, trivial⟩) (ae_again _ (by omega) ⟨(list ++ [(spotI s k (n - 1))]), (k + 1), rfl, (by omega), (by simp; omega), (by rw [resK_succ (by omega), ← hl0]), rfl⟩)
  have hke : k.toNat = n.toNat := by omega
  rw [hke] at hl0
  have hl1 : list = resQ s n := hl0
  clear hl0
  subst hl1
  refine aw_r [(2, .dec false)] [1, 2, 5, 6, 7, 12] [2, 706] [I n, .ref 2 0, slI true (arcsL s.Points s.Points.length), .arr 706, I k, Bv false] [some (.box [slPoint false s.Points]), some (tASpot (resQ s n))] [¬ (k < n)] hB ⟨h1, trivial⟩ ?_
  refine ae_then ?_
  refine aw_false rfl ?_
  refine aw_exit ?_
  refine ae_exit_then ?_
  refine ae_exit_then ?_
  refine ae_exit_same ?_
  refine ae_then ?_
  refine aR [] [4] [706] [.arr 706] [some (tASpot (resQ s n))] [] hB trivial ?_
  refine aw_ret ?_
  refine ae_ret hB (.arr 706) (by kernel_rfl) (.inr ⟨(fun _ => rfl), rfl, rfl, fun i _ => .inl rfl⟩) rfl (fun _ => (tagSpot true _))



-- impl.abs
theorem abs_ok (n : Int) (hn : -9223372036854775807 ≤ n ∧ n ≤ 9223372036854775807) : Con Tryz.prog 130 [I n] true (I (n.natAbs : Int)) := by
  refine fn_ok (fn := Tryz.f130) (nt := 8) Tryz.func130 rfl rfl rfl rfl (by simp [taggedL, tagged]) fun B hB => ?_
  refine aR [] [0] [] [I n] [] [] hB trivial ?_
  refine aw_seq ?_
  refine aw_seq ?_
  by_cases h1 : n < 0
  ·refine aw_r [(1, .dec true)] [0, 4] [] [I n, Bv true] [] [n < 0] hB ⟨h1, trivial⟩ ?_
   refine ae_then ?_
   refine aw_true rfl ?_
   refine aR [] [2] [] [I (-n)] [] [inR .i64 (-n)] hB ⟨(inR_i64 (by omega) (by omega)), trivial⟩ ?_
   refine aw_ret ?_
   refine ae_ret_then ?_
   refine ae_ret hB (I (-n)) (by kernel_rfl) (.inl (by refine congrArg I ?_; omega)) rfl (fun _ => trivial)
  refine aw_r [(1, .dec false)] [0, 4] [] [I n, Bv false] [] [¬ (n < 0)] hB ⟨h1, trivial⟩ ?_
  refine ae_then ?_
  refine aw_false rfl ?_
  refine aw_skip ?_
  refine ae_then ?_
  refine aR [] [2] [] [I n] [] [] hB trivial ?_
  refine aw_ret ?_
  refine ae_ret hB (I n) (by kernel_rfl) (.inl (by refine congrArg I ?_; omega)) rfl (fun _ => trivial)



-- impl.directionOf
theorem directionOf_ok (dx : Int) (dy : Int) (hd : (-4095 ≤ dx ∧ dx ≤ 4095) ∧ -4095 ≤ dy ∧ dy ≤ 4095) : Con Tryz.prog 128 [I dx, I dy] true (I (dirI dx dy)) := by
  have hx2 := two_sq (x := (dx.natAbs : Int)) (by omega) (by omega)
  have hy2 := two_sq (x := (dy.natAbs : Int)) (by omega) (by omega)
  have hs2 := sq_bd (x := (dx.natAbs : Int) + (dy.natAbs : Int)) (B := 8190) (by omega) (by omega)
  have hz := @dir_zero dx dy
  refine fn_ok (fn := Tryz.f128) (nt := 68) Tryz.func128 rfl rfl rfl rfl (by simp [taggedL, tagged]) fun B hB => ?_
  refine aR [] [0, 1] [] [I dx, I dy] [] [] hB trivial ?_
  refine aR [(1, .call [(true, .any)] true (I (dx.natAbs : Int))), (3, .call [(true, .any)] true (I (dy.natAbs : Int)))] [0, 1, 5, 6] [] [I dx, I dy, I (dx.natAbs : Int), I (dy.natAbs : Int)] [] [Con Tryz.prog 130 [I dx] true (I (dx.natAbs : Int)) ∧ True, Con Tryz.prog 130 [I dy] true (I (dy.natAbs : Int)) ∧ True] hB ⟨⟨(abs_ok dx (by omega)), trivial⟩, ⟨(abs_ok dy (by omega)), trivial⟩, trivial⟩ ?_
  refine aR [] [0, 1, 5, 6, 7] [] [I dx, I dy, I (dx.natAbs : Int), I (dy.natAbs : Int), I (((dx.natAbs : Int) + (dy.natAbs : Int)) * ((dx.natAbs : Int) + (dy.natAbs : Int)))] [] [inR .i64 ((dx.natAbs : Int) + (dy.natAbs : Int)), inR .i64 ((dx.natAbs : Int) + (dy.natAbs : Int)), inR .i64 (((dx.natAbs : Int) + (dy.natAbs : Int)) * ((dx.natAbs : Int) + (dy.natAbs : Int)))] hB ⟨(inR_i64 (by omega) (by omega)), (inR_i64 (by omega) (by omega)), (inR_i64 (by omega) (by omega)), trivial⟩ ?_
  refine aw_seq ?_
  refine aw_block ?_
  refine aw_seq ?_
  by_cases h1 : (((dx.natAbs : Int) + (dy.natAbs : Int)) * ((dx.natAbs : Int) + (dy.natAbs : Int))) ≤ ((2 * (dx.natAbs : Int)) * (dx.natAbs : Int))
  ·by_cases h2 : 0 < dx
   ·refine aw_r [(5, .dec true), (8, .dec true)] [0, 1, 5, 6, 7, 19] [] [I dx, I dy, I (dx.natAbs : Int), I (dy.natAbs : Int), I (((dx.natAbs : Int) + (dy.natAbs : Int)) * ((dx.natAbs : Int) + (dy.natAbs : Int))), Bv true] [] [inR .i64 (2 * (dx.natAbs : Int)), inR .i64 ((2 * (dx.natAbs : Int)) * (dx.natAbs : Int)), (((dx.natAbs : Int) + (dy.natAbs : Int)) * ((dx.natAbs : Int) + (dy.natAbs : Int))) ≤ ((2 * (dx.natAbs : Int)) * (dx.natAbs : Int)), 0 < dx] hB ⟨(inR_i64 (by omega) (by omega)), (inR_i64 (by omega) (by omega)), h1, h2, trivial⟩ ?_
    refine ae_then ?_
    refine aw_true rfl ?_
    refine aR [] [4] [] [I 0] [] [] hB trivial ?_
    refine aw_ret ?_
    refine ae_ret_block (ae_ret_then ?_)
    refine ae_ret hB (I 0) (by kernel_rfl) (.inl (by refine congrArg I ?_; unfold dirI; (repeat' split) <;> first | rfl | omega)) rfl (fun _ => trivial)
   refine aw_r [(5, .dec true), (8, .dec false)] [0, 1, 5, 6, 7, 19] [] [I dx, I dy, I (dx.natAbs : Int), I (dy.natAbs : Int), I (((dx.natAbs : Int) + (dy.natAbs : Int)) * ((dx.natAbs : Int) + (dy.natAbs : Int))), Bv false] [] [inR .i64 (2 * (dx.natAbs : Int)), inR .i64 ((2 * (dx.natAbs : Int)) * (dx.natAbs : Int)), (((dx.natAbs : Int) + (dy.natAbs : Int)) * ((dx.natAbs : Int) + (dy.natAbs : Int))) ≤ ((2 * (dx.natAbs : Int)) * (dx.natAbs : Int)), ¬ (0 < dx)] hB ⟨(inR_i64 (by omega) (by omega)), (inR_i64 (by omega) (by omega)), h1, h2, trivial⟩ ?_
   refine ae_then ?_
   refine aw_false rfl ?_
   refine aR [(5, .dec true)] [0, 1, 6, 7, 30] [] [I dx, I dy, I (dy.natAbs : Int), I (((dx.natAbs : Int) + (dy.natAbs : Int)) * ((dx.natAbs : Int) + (dy.natAbs : Int))), Bv true] [] [inR .i64 (2 * (dx.natAbs : Int)), inR .i64 ((2 * (dx.natAbs : Int)) * (dx.natAbs : Int)), (((dx.natAbs : Int) + (dy.natAbs : Int)) * ((dx.natAbs : Int) + (dy.natAbs : Int))) ≤ ((2 * (dx.natAbs : Int)) * (dx.natAbs : Int))] hB ⟨(inR_i64 (by omega) (by omega)), (inR_i64 (by omega) (by omega)), h1, trivial⟩ ?_
   refine aw_true rfl ?_
   refine aR [] [4] [] [I 4] [] [] hB trivial ?_
   refine aw_ret ?_
   refine ae_ret_block (ae_ret_then ?_)
   refine ae_ret hB (I 4) (by kernel_rfl) (.inl (by refine congrArg I ?_; unfold dirI; (repeat' split) <;> first | rfl | omega)) rfl (fun _ => trivial)
  refine aw_r [(5, .dec false)] [0, 1, 5, 6, 7, 19] [] [I dx, I dy, I (dx.natAbs : Int), I (dy.natAbs : Int), I (((dx.natAbs : Int) + (dy.natAbs : Int)) * ((dx.natAbs : Int) + (dy.natAbs : Int))), Bv false] [] [inR .i64 (2 * (dx.natAbs : Int)), inR .i64 ((2 * (dx.natAbs : Int)) * (dx.natAbs : Int)), ¬ ((((dx.natAbs : Int) + (dy.natAbs : Int)) * ((dx.natAbs : Int) + (dy.natAbs : Int))) ≤ ((2 * (dx.natAbs : Int)) * (dx.natAbs : Int)))] hB ⟨(inR_i64 (by omega) (by omega)), (inR_i64 (by omega) (by omega)), h1, trivial⟩ ?_
  refine ae_then ?_
  refine aw_false rfl ?_
  refine aR [(5, .dec false)] [0, 1, 6, 7, 30] [] [I dx, I dy, I (dy.natAbs : Int), I (((dx.natAbs : Int) + (dy.natAbs : Int)) * ((dx.natAbs : Int) + (dy.natAbs : Int))), Bv false] [] [inR .i64 (2 * (dx.natAbs : Int)), inR .i64 ((2 * (dx.natAbs : Int)) * (dx.natAbs : Int)), ¬ ((((dx.natAbs : Int) + (dy.natAbs : Int)) * ((dx.natAbs : Int) + (dy.natAbs : Int))) ≤ ((2 * (dx.natAbs : Int)) * (dx.natAbs : Int)))] hB ⟨(inR_i64 (by omega) (by omega)), (inR_i64 (by omega) (by omega)), h1, trivial⟩ ?_
  refine aw_false rfl ?_
  refine aw_seq ?_
  by_cases h3 : (((dx.natAbs : Int) + (dy.natAbs : Int)) * ((dx.natAbs : Int) + (dy.natAbs : Int))) ≤ ((2 * (dy.natAbs : Int)) * (dy.natAbs : Int))
  ·by_cases h4 : 0 < dy
   ·refine aw_r [(5, .dec true), (8, .dec true)] [0, 1, 6, 7, 37] [] [I dx, I dy, I (dy.natAbs : Int), I (((dx.natAbs : Int) + (dy.natAbs : Int)) * ((dx.natAbs : Int) + (dy.natAbs : Int))), Bv true] [] [inR .i64 (2 * (dy.natAbs : Int)), inR .i64 ((2 * (dy.natAbs : Int)) * (dy.natAbs : Int)), (((dx.natAbs : Int) + (dy.natAbs : Int)) * ((dx.natAbs : Int) + (dy.natAbs : Int))) ≤ ((2 * (dy.natAbs : Int)) * (dy.natAbs : Int)), 0 < dy] hB ⟨(inR_i64 (by omega) (by omega)), (inR_i64 (by omega) (by omega)), h3, h4, trivial⟩ ?_
    refine ae_then ?_
    refine aw_true rfl ?_
    refine aR [] [4] [] [I 2] [] [] hB trivial ?_
    refine aw_ret ?_
    refine ae_ret_block (ae_ret_then ?_)
    refine ae_ret hB (I 2) (by kernel_rfl) (.inl (by refine congrArg I ?_; unfold dirI; (repeat' split) <;> first | rfl | omega)) rfl (fun _ => trivial)
   refine aw_r [(5, .dec true), (8, .dec false)] [0, 1, 6, 7, 37] [] [I dx, I dy, I (dy.natAbs : Int), I (((dx.natAbs : Int) + (dy.natAbs : Int)) * ((dx.natAbs : Int) + (dy.natAbs : Int))), Bv false] [] [inR .i64 (2 * (dy.natAbs : Int)), inR .i64 ((2 * (dy.natAbs : Int)) * (dy.natAbs : Int)), (((dx.natAbs : Int) + (dy.natAbs : Int)) * ((dx.natAbs : Int) + (dy.natAbs : Int))) ≤ ((2 * (dy.natAbs : Int)) * (dy.natAbs : Int)), ¬ (0 < dy)] hB ⟨(inR_i64 (by omega) (by omega)), (inR_i64 (by omega) (by omega)), h3, h4, trivial⟩ ?_
   refine ae_then ?_
   refine aw_false rfl ?_
   refine aR [(5, .dec true)] [0, 1, 48] [] [I dx, I dy, Bv true] [] [inR .i64 (2 * (dy.natAbs : Int)), inR .i64 ((2 * (dy.natAbs : Int)) * (dy.natAbs : Int)), (((dx.natAbs : Int) + (dy.natAbs : Int)) * ((dx.natAbs : Int) + (dy.natAbs : Int))) ≤ ((2 * (dy.natAbs : Int)) * (dy.natAbs : Int))] hB ⟨(inR_i64 (by omega) (by omega)), (inR_i64 (by omega) (by omega)), h3, trivial⟩ ?_
   refine aw_true rfl ?_
   refine aR [] [4] [] [I 6] [] [] hB trivial ?_
   refine aw_ret ?_
   refine ae_ret_block (ae_ret_then ?_)
   refine ae_ret hB (I 6) (by kernel_rfl) (.inl (by refine congrArg I ?_; unfold dirI; (repeat' split) <;> first | rfl | omega)) rfl (fun _ => trivial)
  refine aw_r [(5, .dec false)] [0, 1, 6, 7, 37] [] [I dx, I dy, I (dy.natAbs : Int), I (((dx.natAbs : Int) + (dy.natAbs : Int)) * ((dx.natAbs : Int) + (dy.natAbs : Int))), Bv false] [] [inR .i64 (2 * (dy.natAbs : Int)), inR .i64 ((2 * (dy.natAbs : Int)) * (dy.natAbs : Int)), ¬ ((((dx.natAbs : Int) + (dy.natAbs : Int)) * ((dx.natAbs : Int) + (dy.natAbs : Int))) ≤ ((2 * (dy.natAbs : Int)) * (dy.natAbs : Int)))] hB ⟨(inR_i64 (by omega) (by omega)), (inR_i64 (by omega) (by omega)), h3, trivial⟩ ?_
  refine ae_then ?_
  refine aw_false rfl ?_
  refine aR [(5, .dec false)] [0, 1, 48] [] [I dx, I dy, Bv false] [] [inR .i64 (2 * (dy.natAbs : Int)), inR .i64 ((2 * (dy.natAbs : Int)) * (dy.natAbs : Int)), ¬ ((((dx.natAbs : Int) + (dy.natAbs : Int)) * ((dx.natAbs : Int) + (dy.natAbs : Int))) ≤ ((2 * (dy.natAbs : Int)) * (dy.natAbs : Int)))] hB ⟨(inR_i64 (by omega) (by omega)), (inR_i64 (by omega) (by omega)), h3, trivial⟩ ?_
  refine aw_false rfl ?_
  refine aw_seq ?_
  by_cases h5 : 0 < dx
  ·by_cases h6 : 0 < dy
   ·refine aw_r [(1, .dec true), (4, .dec true)] [0, 1, 55] [] [I dx, I dy, Bv true] [] [0 < dx, 0 < dy] hB ⟨h5, h6, trivial⟩ ?_
    refine ae_then ?_
    refine aw_true rfl ?_
    refine aR [] [4] [] [I 1] [] [] hB trivial ?_
    refine aw_ret ?_
    refine ae_ret_block (ae_ret_then ?_)
    refine ae_ret hB (I 1) (by kernel_rfl) (.inl (by refine congrArg I ?_; unfold dirI; (repeat' split) <;> first | rfl | omega)) rfl (fun _ => trivial)
   refine aw_r [(1, .dec true), (4, .dec false)] [0, 1, 55] [] [I dx, I dy, Bv false] [] [0 < dx, ¬ (0 < dy)] hB ⟨h5, h6, trivial⟩ ?_
   refine ae_then ?_
   refine aw_false rfl ?_
   refine aR [(1, .dec false)] [0, 62] [] [I dx, Bv false] [] [¬ (0 < dy)] hB ⟨h6, trivial⟩ ?_
   refine aw_false rfl ?_
   refine aw_seq ?_
   by_cases h7 : dx < 0
   ·refine aw_r [(1, .dec true)] [65] [] [Bv true] [] [dx < 0] hB ⟨h7, trivial⟩ ?_
    refine ae_then ?_
    refine aw_true rfl ?_
    refine aR [] [4] [] [I 5] [] [] hB trivial ?_
    refine aw_ret ?_
    refine ae_ret_block (ae_ret_then ?_)
    refine ae_ret hB (I 5) (by kernel_rfl) (.inl (by refine congrArg I ?_; unfold dirI; (repeat' split) <;> first | rfl | omega)) rfl (fun _ => trivial)
   refine aw_r [(1, .dec false)] [65] [] [Bv false] [] [¬ (dx < 0)] hB ⟨h7, trivial⟩ ?_
   refine ae_then ?_
   refine aw_false rfl ?_
   refine aw_skip ?_
   refine ae_block 0 ?_
   refine ae_then ?_
   refine aR [] [4] [] [I 7] [] [] hB trivial ?_
   refine aw_ret ?_
   refine ae_ret hB (I 7) (by kernel_rfl) (.inl (by refine congrArg I ?_; unfold dirI; (repeat' split) <;> first | rfl | omega)) rfl (fun _ => trivial)
  refine aw_r [(1, .dec false)] [0, 1, 55] [] [I dx, I dy, Bv false] [] [¬ (0 < dx)] hB ⟨h5, trivial⟩ ?_
  refine ae_then ?_
  refine aw_false rfl ?_
  refine aw_seq ?_
  by_cases h8 : 0 < dy
  ·refine aw_r [(1, .dec true)] [0, 62] [] [I dx, Bv true] [] [0 < dy] hB ⟨h8, trivial⟩ ?_
   refine ae_then ?_
   refine aw_true rfl ?_
   refine aR [] [4] [] [I 3] [] [] hB trivial ?_
   refine aw_ret ?_
   refine ae_ret_block (ae_ret_then ?_)
   refine ae_ret hB (I 3) (by kernel_rfl) (.inl (by refine congrArg I ?_; unfold dirI; (repeat' split) <;> first | rfl | omega)) rfl (fun _ => trivial)
  refine aw_r [(1, .dec false)] [0, 62] [] [I dx, Bv false] [] [¬ (0 < dy)] hB ⟨h8, trivial⟩ ?_
  refine ae_then ?_
  refine aw_false rfl ?_
  refine aw_seq ?_
  by_cases h9 : dx < 0
  ·refine aw_r [(1, .dec true)] [65] [] [Bv true] [] [dx < 0] hB ⟨h9, trivial⟩ ?_
   refine ae_then ?_
   refine aw_true rfl ?_
   refine aR [] [4] [] [I 5] [] [] hB trivial ?_
   refine aw_ret ?_
   refine ae_ret_block (ae_ret_then ?_)
   refine ae_ret hB (I 5) (by kernel_rfl) (.inl (by refine congrArg I ?_; unfold dirI; (repeat' split) <;> first | rfl | omega)) rfl (fun _ => trivial)
  refine aw_r [(1, .dec false)] [65] [] [Bv false] [] [¬ (dx < 0)] hB ⟨h9, trivial⟩ ?_
  refine ae_then ?_
  refine aw_false rfl ?_
  refine aw_skip ?_
  refine ae_block 0 ?_
  refine ae_then ?_
  refine aR [] [4] [] [I 7] [] [] hB trivial ?_
  refine aw_ret ?_
  refine ae_ret hB (I 7) (by kernel_rfl) (.inl (by refine congrArg I ?_; unfold dirI; (repeat' split) <;> first | rfl | omega)) rfl (fun _ => trivial)



-- impl.sideOfBox
theorem sideOfBox_ok (b : Box) (hb : okBox b) : Con Tryz.prog 164 [agBox b] true (I (sideB b)) := by
  unfold okBox at hb
  refine fn_ok (fn := Tryz.f164) (nt := 14) Tryz.func164 rfl rfl rfl rfl (by simp [taggedL, tagged]) fun B hB => ?_
  refine aR [(0, .new 1)] [1] [1] [.ref 1 0] [some (bxBox b)] [] hB trivial ?_
  refine aR [] [2] [] [I (max (max (b.X2 - b.X1) (b.Y2 - b.Y1)) 1)] [] [inR .i64 (b.X2 - b.X1), inR .i64 (b.Y2 - b.Y1)] hB ⟨(inR_i64 (by omega) (by omega)), (inR_i64 (by omega) (by omega)), trivial⟩ ?_
  refine aw_ret ?_
  refine ae_ret hB (I (max (max (b.X2 - b.X1) (b.Y2 - b.Y1)) 1)) (by kernel_rfl) (.inl (by refine congrArg I ?_; unfold sideB; omega)) rfl (fun _ => trivial)



-- impl.normalSpot
theorem normalSpot_ok (p : Spot) (b : Box) (hb : okBox b) (hp : (b.X1 ≤ p.X ∧ p.X ≤ b.X2) ∧ b.Y1 ≤ p.Y ∧ p.Y ≤ b.Y2) : Con Tryz.prog 129 [.agg [I p.X, I p.Y], agBox b] true (.agg [I ((normP p b).X), I ((normP p b).Y)]) := by
  have hb0 := hb
  have hs := side_bd hb
  unfold okBox at hb
  have hqx := quo255 (w := b.X2 - b.X1) (d := sideB b) (by omega) (by omega) (by omega)
  have hqy := quo255 (w := b.Y2 - b.Y1) (d := sideB b) (by omega) (by omega) (by omega)
  have hnx := norm1 (x := p.X - b.X1) (w := b.X2 - b.X1) (d := sideB b) (by omega) (by omega) (by omega)
  have hny := norm1 (x := p.Y - b.Y1) (w := b.Y2 - b.Y1) (d := sideB b) (by omega) (by omega) (by omega)
  refine fn_ok (fn := Tryz.f129) (nt := 51) Tryz.func129 rfl rfl rfl rfl (by simp [taggedL, tagged]) fun B hB => ?_
  refine aR [(0, .new 2), (1, .new 3), (2, .new 4)] [2, 3, 4] [2, 3, 4] [.ref 2 0, .ref 3 0, .ref 4 0] [some (.box [I p.X, I p.Y]), some (bxBox b), some (.box [I 0, I 0])] [] hB trivial ?_
  refine aR [(1, .call [(true, .any)] true (I (sideB b)))] [2, 3, 4, 5] [2, 3, 4] [.ref 2 0, .ref 3 0, .ref 4 0, I (sideB b)] [some (.box [I p.X, I p.Y]), some (bxBox b), some (.box [I 0, I 0])] [Con Tryz.prog 164 [agBox b] true (I (sideB b)) ∧ True] hB ⟨⟨(sideOfBox_ok b hb0), trivial⟩, trivial⟩ ?_
  refine aR [(7, .nn), (9, .nn)] [2, 3, 4, 5, 6] [2, 3, 4] [.ref 2 0, .ref 3 0, .ref 4 0, I (sideB b), I ((255 - (((b.X2 - b.X1) * 255) / (sideB b))) / 2)] [some (.box [I p.X, I p.Y]), some (bxBox b), some (.box [I 0, I 0])] [inR .i64 (b.X2 - b.X1), inR .i64 ((b.X2 - b.X1) * 255), (0 : Int) ≤ ((b.X2 - b.X1) * 255) ∧ (0 : Int) < (sideB b) ∧ inR .i64 ((b.X2 - b.X1) * 255), inR .i64 (255 - (((b.X2 - b.X1) * 255) / (sideB b))), (0 : Int) ≤ (255 - (((b.X2 - b.X1) * 255) / (sideB b))) ∧ (0 : Int) < 2 ∧ inR .i64 (255 - (((b.X2 - b.X1) * 255) / (sideB b)))] hB ⟨(inR_i64 (by omega) (by omega)), (inR_i64 (by omega) (by omega)), ⟨(by omega), (by omega), (inR_i64 (by omega) (by omega))⟩, (inR_i64 (by omega) (by omega)), ⟨(by omega), (by omega), (inR_i64 (by omega) (by omega))⟩, trivial⟩ ?_
  refine aR [(7, .nn), (9, .nn)] [2, 3, 4, 5, 6, 7] [2, 3, 4] [.ref 2 0, .ref 3 0, .ref 4 0, I (sideB b), I ((255 - (((b.X2 - b.X1) * 255) / (sideB b))) / 2), I ((255 - (((b.Y2 - b.Y1) * 255) / (sideB b))) / 2)] [some (.box [I p.X, I p.Y]), some (bxBox b), some (.box [I 0, I 0])] [inR .i64 (b.Y2 - b.Y1), inR .i64 ((b.Y2 - b.Y1) * 255), (0 : Int) ≤ ((b.Y2 - b.Y1) * 255) ∧ (0 : Int) < (sideB b) ∧ inR .i64 ((b.Y2 - b.Y1) * 255), inR .i64 (255 - (((b.Y2 - b.Y1) * 255) / (sideB b))), (0 : Int) ≤ (255 - (((b.Y2 - b.Y1) * 255) / (sideB b))) ∧ (0 : Int) < 2 ∧ inR .i64 (255 - (((b.Y2 - b.Y1) * 255) / (sideB b)))] hB ⟨(inR_i64 (by omega) (by omega)), (inR_i64 (by omega) (by omega)), ⟨(by omega), (by omega), (inR_i64 (by omega) (by omega))⟩, (inR_i64 (by omega) (by omega)), ⟨(by omega), (by omega), (inR_i64 (by omega) (by omega))⟩, trivial⟩ ?_
  refine aR [(8, .call [(true, .any), (true, .any)] true (I (nearI ((p.X - b.X1) * 255) (sideB b)))), (18, .call [(true, .any), (true, .any)] true (I (nearI ((p.Y - b.Y1) * 255) (sideB b))))] [4] [4] [.ref 4 0] [some (.box [I (((255 - (((b.X2 - b.X1) * 255) / (sideB b))) / 2) + (nearI ((p.X - b.X1) * 255) (sideB b))), I (((255 - (((b.Y2 - b.Y1) * 255) / (sideB b))) / 2) + (nearI ((p.Y - b.Y1) * 255) (sideB b)))])] [inR .i64 (p.X - b.X1), inR .i64 ((p.X - b.X1) * 255), Con Tryz.prog 165 [I ((p.X - b.X1) * 255), I (sideB b)] true (I (nearI ((p.X - b.X1) * 255) (sideB b))) ∧ True, inR .i64 (((255 - (((b.X2 - b.X1) * 255) / (sideB b))) / 2) + (nearI ((p.X - b.X1) * 255) (sideB b))), inR .i64 (p.Y - b.Y1), inR .i64 ((p.Y - b.Y1) * 255), Con Tryz.prog 165 [I ((p.Y - b.Y1) * 255), I (sideB b)] true (I (nearI ((p.Y - b.Y1) * 255) (sideB b))) ∧ True, inR .i64 (((255 - (((b.Y2 - b.Y1) * 255) / (sideB b))) / 2) + (nearI ((p.Y - b.Y1) * 255) (sideB b)))] hB ⟨(inR_i64 (by omega) (by omega)), (inR_i64 (by omega) (by omega)), ⟨(nearestDiv_ok ((p.X - b.X1) * 255) (sideB b) (by omega)), trivial⟩, (inR_i64 (by omega) (by omega)), (inR_i64 (by omega) (by omega)), (inR_i64 (by omega) (by omega)), ⟨(nearestDiv_ok ((p.Y - b.Y1) * 255) (sideB b) (by omega)), trivial⟩, (inR_i64 (by omega) (by omega)), trivial⟩ ?_
  refine aw_ret ?_
  refine ae_ret hB (.agg [I (((255 - (((b.X2 - b.X1) * 255) / (sideB b))) / 2) + (nearI ((p.X - b.X1) * 255) (sideB b))), I (((255 - (((b.Y2 - b.Y1) * 255) / (sideB b))) / 2) + (nearI ((p.Y - b.Y1) * 255) (sideB b)))]) (by kernel_rfl) (.inl (by rfl)) rfl (fun _ => (by simp [tagged, taggedL]))



-- impl.featsOfStroke
theorem featsOfStroke_ok (s : Stroke) (b : Box) (n : Int) (ok : okStroke' s = true) (hn : 2 ≤ n ∧ n ≤ 24) (hb : okBox b ∧ inBox (skB s) b) : Con Tryz.prog 84 [.agg [slPoint false s.Points], agBox b, I n] true (slFeat true (featQ s n b)) := by
  have hrl := resQ_len s n
  have hbb := hb.1
  unfold okBox at hbb
  refine fn_ok (fn := Tryz.f84) (nt := 70) Tryz.func84 rfl rfl rfl rfl (by simp [taggedL, tagged, tagPoint]) fun B hB => ?_
  refine aw_lens (x := .agg [slPoint false s.Points]) 0 rfl (fun len_s => ?_)
  simp [LenOK, LenL, cPoint, fPoint, slPoint] at len_s
  refine aR [(0, .new 3), (1, .new 4)] [2, 3, 4] [3, 4] [I n, .ref 3 0, .ref 4 0] [some (.box [slPoint false s.Points]), some (bxBox b)] [] hB trivial ?_
  refine aR [(2, .call [(true, .any), (true, .any)] true (slSpot true (resQ s n)))] [4, 7] [4] [.ref 4 0, slSpot true (resQ s n)] [some (bxBox b)] [Con Tryz.prog 127 [.agg [slPoint false s.Points], I n] true (slSpot true (resQ s n)) ∧ True] hB ⟨⟨(resample_ok s n ok (by omega)), trivial⟩, trivial⟩ ?_
  refine aR [] [4, 7, 8] [4] [.ref 4 0, slSpot true (resQ s n), nilA] [some (bxBox b)] [] hB trivial ?_
  refine aR [] [4, 7, 8, 9] [4] [.ref 4 0, slSpot true (resQ s n), nilA, I 0] [some (bxBox b)] [] hB trivial ?_
  refine aw_seq ?_
  refine aR [] [4, 7, 8, 9, 16, 17, 18] [4] [.ref 4 0, slSpot true (resQ s n), nilA, I 0, slSpot true (resQ s n), I (((resQ s n).length) : Int), I 0] [some (bxBox b)] [] hB trivial ?_
  refine aw_block ?_
  refine aw_nil hB 8 708 3 (fun _ => []) (by kernel_rfl) ?_
  refine aw_weak hB [] (T := [(4, .ref 4 0), (7, slSpot true (resQ s n)), (8, .arr 708), (9, I 0), (16, slSpot true (resQ s n)), (17, I (((resQ s n).length) : Int)), (18, I 0)]) (O := [(4, bxBox b), (708, tAFeat ([] : List Feat))]) rfl (⟨.inl rfl, .inl rfl, .inl rfl, .inl rfl, .inl rfl, .inl rfl, .inl rfl, trivial⟩) (⟨.inl rfl, .inr ⟨rfl, (by first | rfl | (simp; done) | (simp; omega) | omega), fun i_ hi_ => absurd hi_ (Nat.not_lt_zero _)⟩, trivial⟩) ?_
  refine aw_loop (fun gn gσ => ∃ (list : List Feat) (d : Int) (t18 : Int), gn = (((resQ s n).length : Int) - t18).toNat ∧ (0 ≤ t18 ∧ t18 ≤ ((resQ s n).length : Int)) ∧ ((list.length : Int) = t18) ∧ (list = featK (resQ s n) b t18.toNat) ∧ (d = dirQ (resQ s n) t18.toNat ∧ 0 ≤ d ∧ d ≤ 7) ∧ gσ = mkS [(4, .ref 4 0), (7, slSpot true (resQ s n)), (8, .arr 708), (9, I d), (16, slSpot true (resQ s n)), (17, I (((resQ s n).length) : Int)), (18, I t18)] [(4, bxBox b), (708, tAFeat list)]) ((((resQ s n).length : Int) - 0).toNat) ⟨([] : List Feat), 0, 0, rfl, (by omega), (by rfl), (by rfl), (by exact ⟨rfl, by omega⟩), rfl⟩ (fun gn gσ hI => ?_)
  obtain ⟨list, d, t18, rfl, hk0, hll, hl0, hd0, rfl⟩ := hI
  refine aw_seq ?_
  by_cases h1 : t18 < (((resQ s n).length) : Int)
  ·have hk : t18.toNat < (resQ s n).length := by omega
   have hbk := resQ_box ok hn.1 hb.2 hk
   refine aw_r [(0, .dec true)] [4, 7, 8, 9, 16, 17, 18, 19] [4, 708] [.ref 4 0, slSpot true (resQ s n), .arr 708, I d, slSpot true (resQ s n), I (((resQ s n).length) : Int), I t18, Bv true] [some (bxBox b), some (tAFeat list)] [t18 < (((resQ s n).length) : Int)] hB ⟨h1, trivial⟩ ?_
   refine ae_then ?_
   refine aw_seq ?_
   refine aw_true rfl ?_
   refine aw_skip ?_
   refine ae_then ?_
   refine aw_seq ?_
   refine aw_block ?_
   refine aR [(3, .new 11)] [4, 7, 8, 9, 10, 11, 16, 17, 18] [4, 11, 708] [.ref 4 0, slSpot true (resQ s n), .arr 708, I d, I t18, .ref 11 0, slSpot true (resQ s n), I (((resQ s n).length) : Int), I t18] [some (bxBox b), some (.box [I ((at_ (resQ s n) t18.toNat).X), I ((at_ (resQ s n) t18.toNat).Y)]), some (tAFeat list)] [(0 : Int) ≤ t18 ∧ t18 < (((resQ s n).length) : Int)] hB ⟨⟨(by omega), (by omega)⟩, trivial⟩ ?_
   refine aw_seq ?_
   refine aw_seq ?_
   by_cases h2 : (t18 + 1) < (((resQ s n).length) : Int)
   ·have hbk1 := resQ_box ok hn.1 hb.2 (j := (t18 + 1).toNat) (by omega)
    by_cases h3 : ((at_ (resQ s n) ((t18 + 1).toNat)).X) = ((at_ (resQ s n) t18.toNat).X) ∧ ((at_ (resQ s n) ((t18 + 1).toNat)).Y) = ((at_ (resQ s n) t18.toNat).Y) ∧ True
    ·have hdq := (dirQ_no (l := (resQ s n)) (k := t18) (by omega) (fun q => q.2 ⟨by omega, by omega⟩)).trans hd0.1.symm
     refine aw_r [(4, .dec true), (12, .dec false)] [4, 7, 8, 9, 10, 11, 16, 17, 18, 36] [4, 11, 708] [.ref 4 0, slSpot true (resQ s n), .arr 708, I d, I t18, .ref 11 0, slSpot true (resQ s n), I (((resQ s n).length) : Int), I t18, Bv false] [some (bxBox b), some (.box [I ((at_ (resQ s n) t18.toNat).X), I ((at_ (resQ s n) t18.toNat).Y)]), some (tAFeat list)] [inR .i64 (t18 + 1), (t18 + 1) < (((resQ s n).length) : Int), inR .i64 (t18 + 1), (0 : Int) ≤ (t18 + 1) ∧ (t18 + 1) < (((resQ s n).length) : Int), ¬ (¬ (((at_ (resQ s n) ((t18 + 1).toNat)).X) = ((at_ (resQ s n) t18.toNat).X) ∧ ((at_ (resQ s n) ((t18 + 1).toNat)).Y) = ((at_ (resQ s n) t18.toNat).Y) ∧ True))] hB ⟨(inR_i64 (by omega) (by omega)), h2, (inR_i64 (by omega) (by omega)), ⟨(by omega), (by omega)⟩, (fun hq => hq h3), trivial⟩ ?_
     refine ae_then ?_
     refine aw_false rfl ?_
     refine aw_skip ?_
     refine ae_then ?_
     refine aR [(2, .call [(true, .any), (true, .any)] true (.agg [I ((normP (at_ (resQ s n) t18.toNat) b).X), I ((normP (at_ (resQ s n) t18.toNat) b).Y)])), (3, .new 12)] [4, 7, 8, 9, 12, 16, 17, 18] [4, 12, 708] [.ref 4 0, slSpot true (resQ s n), .arr 708, I d, .ref 12 0, slSpot true (resQ s n), I (((resQ s n).length) : Int), I t18] [some (bxBox b), some (.box [I ((normP (at_ (resQ s n) t18.toNat) b).X), I ((normP (at_ (resQ s n) t18.toNat) b).Y)]), some (tAFeat list)] [Con Tryz.prog 129 [.agg [I ((at_ (resQ s n) t18.toNat).X), I ((at_ (resQ s n) t18.toNat).Y)], agBox b] true (.agg [I ((normP (at_ (resQ s n) t18.toNat) b).X), I ((normP (at_ (resQ s n) t18.toNat) b).Y)]) ∧ True] hB ⟨⟨(normalSpot_ok (at_ (resQ s n) t18.toNat) b hb.1 (by omega)), trivial⟩, trivial⟩ ?_
     refine aw_r [(7, .new 66), (8, .new 67)] [4, 7, 8, 9, 16, 17, 18] [4, 67] [.ref 4 0, slSpot true (resQ s n), .arr 67, I d, slSpot true (resQ s n), I (((resQ s n).length) : Int), I t18] [some (bxBox b), some (.arr 3 (list.length + 1) (catF list.length (fFeat list) (litF [I ((normP (at_ (resQ s n) t18.toNat) b).X), I ((normP (at_ (resQ s n) t18.toNat) b).Y), I d] 3)))] [(list.length + 1) * 24 ≤ 140737488355328] hB ⟨(by omega), trivial⟩ ?_
     refine ae_block 1 ?_
     refine ae_then ?_
     refine aw_r [] [4, 7, 8, 9, 16, 17, 18] [4, 67] [.ref 4 0, slSpot true (resQ s n), .arr 67, I d, slSpot true (resQ s n), I (((resQ s n).length) : Int), I (t18 + 1)] [some (bxBox b), some (.arr 3 (list.length + 1) (catF list.length (fFeat list) (litF [I ((normP (at_ (resQ s n) t18.toNat) b).X), I ((normP (at_ (resQ s n) t18.toNat) b).Y), I d] 3)))] [inR .i64 (t18 + 1)] hB ⟨(inR_i64 (by omega) (by omega)), trivial⟩ ?_
     refine ae_weak hB [(708, 67)] (T := [(4, .ref 4 0), (7, slSpot true (resQ s n)), (8, .arr 708), (9, I d), (16, slSpot true (resQ s n)), (17, I (((resQ s n).length) : Int)), (18, I (t18 + 1))]) (O := [(4, bxBox b), (708, tAFeat (list ++ [(Feat.mk ((normP (at_ (resQ s n) t18.toNat) b).X) ((normP (at_ (resQ s n) t18.toNat) b).Y) d)]))]) rfl (⟨.inl rfl, .inl rfl, .inl rfl, .inl rfl, .inl rfl, .inl rfl, .inl rfl, trivial⟩) (⟨.inl rfl, .inr ⟨rfl, (by first | rfl | (simp; done) | (simp; omega) | omega), fun i_ hi_ => .inl (cat_snoc (enc := cFeat) (xs := list) rfl i_ hi_)⟩, trivial⟩) (ae_again _ (by omega) ⟨(list ++ [(Feat.mk ((normP (at_ (resQ s n) t18.toNat) b).X) ((normP (at_ (resQ s n) t18.toNat) b).Y) d)]), d, (t18 + 1), rfl, (by omega), (by simp; omega), (by rw [featK_succ (by omega), ← hl0, hdq]), (by have hdb := dirQ_bd (resQ s n) (t18 + 1).toNat; rw [hdq] at hdb; exact ⟨hdq.symm, hdb⟩), rfl⟩)
    have hdq := dirQ_yes (l := (resQ s n)) (k := t18) (by omega) (by omega) (fun q => h3 ⟨by omega, by omega, trivial⟩)
    refine aw_r [(4, .dec true), (12, .dec true)] [4, 7, 8, 9, 10, 11, 16, 17, 18, 36] [4, 11, 708] [.ref 4 0, slSpot true (resQ s n), .arr 708, I d, I t18, .ref 11 0, slSpot true (resQ s n), I (((resQ s n).length) : Int), I t18, Bv true] [some (bxBox b), some (.box [I ((at_ (resQ s n) t18.toNat).X), I ((at_ (resQ s n) t18.toNat).Y)]), some (tAFeat list)] [inR .i64 (t18 + 1), (t18 + 1) < (((resQ s n).length) : Int), inR .i64 (t18 + 1), (0 : Int) ≤ (t18 + 1) ∧ (t18 + 1) < (((resQ s n).length) : Int), ¬ (((at_ (resQ s n) ((t18 + 1).toNat)).X) = ((at_ (resQ s n) t18.toNat).X) ∧ ((at_ (resQ s n) ((t18 + 1).toNat)).Y) = ((at_ (resQ s n) t18.toNat).Y) ∧ True)] hB ⟨(inR_i64 (by omega) (by omega)), h2, (inR_i64 (by omega) (by omega)), ⟨(by omega), (by omega)⟩, h3, trivial⟩ ?_
    refine ae_then ?_
    refine aw_true rfl ?_
    refine aw_r [(18, .call [(true, .any), (true, .any)] true (I (dirI (((at_ (resQ s n) ((t18 + 1).toNat)).X) - ((at_ (resQ s n) t18.toNat).X)) (((at_ (resQ s n) ((t18 + 1).toNat)).Y) - ((at_ (resQ s n) t18.toNat).Y)))))] [4, 7, 8, 9, 11, 16, 17, 18] [4, 11, 708] [.ref 4 0, slSpot true (resQ s n), .arr 708, I (dirI (((at_ (resQ s n) ((t18 + 1).toNat)).X) - ((at_ (resQ s n) t18.toNat).X)) (((at_ (resQ s n) ((t18 + 1).toNat)).Y) - ((at_ (resQ s n) t18.toNat).Y))), .ref 11 0, slSpot true (resQ s n), I (((resQ s n).length) : Int), I t18] [some (bxBox b), some (.box [I ((at_ (resQ s n) t18.toNat).X), I ((at_ (resQ s n) t18.toNat).Y)]), some (tAFeat list)] [inR .i64 (t18 + 1), (0 : Int) ≤ (t18 + 1) ∧ (t18 + 1) < (((resQ s n).length) : Int), inR .i64 (((at_ (resQ s n) ((t18 + 1).toNat)).X) - ((at_ (resQ s n) t18.toNat).X)), inR .i64 (t18 + 1), (0 : Int) ≤ (t18 + 1) ∧ (t18 + 1) < (((resQ s n).length) : Int), inR .i64 (((at_ (resQ s n) ((t18 + 1).toNat)).Y) - ((at_ (resQ s n) t18.toNat).Y)), Con Tryz.prog 128 [I (((at_ (resQ s n) ((t18 + 1).toNat)).X) - ((at_ (resQ s n) t18.toNat).X)), I (((at_ (resQ s n) ((t18 + 1).toNat)).Y) - ((at_ (resQ s n) t18.toNat).Y))] true (I (dirI (((at_ (resQ s n) ((t18 + 1).toNat)).X) - ((at_ (resQ s n) t18.toNat).X)) (((at_ (resQ s n) ((t18 + 1).toNat)).Y) - ((at_ (resQ s n) t18.toNat).Y)))) ∧ True] hB ⟨(inR_i64 (by omega) (by omega)), ⟨(by omega), (by omega)⟩, (inR_i64 (by omega) (by omega)), (inR_i64 (by omega) (by omega)), ⟨(by omega), (by omega)⟩, (inR_i64 (by omega) (by omega)), ⟨(directionOf_ok (((at_ (resQ s n) ((t18 + 1).toNat)).X) - ((at_ (resQ s n) t18.toNat).X)) (((at_ (resQ s n) ((t18 + 1).toNat)).Y) - ((at_ (resQ s n) t18.toNat).Y)) (by omega)), trivial⟩, trivial⟩ ?_
    refine ae_then ?_
    refine aR [(2, .call [(true, .any), (true, .any)] true (.agg [I ((normP (at_ (resQ s n) t18.toNat) b).X), I ((normP (at_ (resQ s n) t18.toNat) b).Y)])), (3, .new 12)] [4, 7, 8, 9, 12, 16, 17, 18] [4, 12, 708] [.ref 4 0, slSpot true (resQ s n), .arr 708, I (dirI (((at_ (resQ s n) ((t18 + 1).toNat)).X) - ((at_ (resQ s n) t18.toNat).X)) (((at_ (resQ s n) ((t18 + 1).toNat)).Y) - ((at_ (resQ s n) t18.toNat).Y))), .ref 12 0, slSpot true (resQ s n), I (((resQ s n).length) : Int), I t18] [some (bxBox b), some (.box [I ((normP (at_ (resQ s n) t18.toNat) b).X), I ((normP (at_ (resQ s n) t18.toNat) b).Y)]), some (tAFeat list)] [Con Tryz.prog 129 [.agg [I ((at_ (resQ s n) t18.toNat).X), I ((at_ (resQ s n) t18.toNat).Y)], agBox b] true (.agg [I ((normP (at_ (resQ s n) t18.toNat) b).X), I ((normP (at_ (resQ s n) t18.toNat) b).Y)]) ∧ True] hB ⟨⟨(normalSpot_ok (at_ (resQ s n) t18.toNat) b hb.1 (by omega)), trivial⟩, trivial⟩ ?_
    refine aw_r [(7, .new 66), (8, .new 67)] [4, 7, 8, 9, 16, 17, 18] [4, 67] [.ref 4 0, slSpot true (resQ s n), .arr 67, I (dirI (((at_ (resQ s n) ((t18 + 1).toNat)).X) - ((at_ (resQ s n) t18.toNat).X)) (((at_ (resQ s n) ((t18 + 1).toNat)).Y) - ((at_ (resQ s n) t18.toNat).Y))), slSpot true (resQ s n), I (((resQ s n).length) : Int), I t18] [some (bxBox b), some (.arr 3 (list.length + 1) (catF list.length (fFeat list) (litF [I ((normP (at_ (resQ s n) t18.toNat) b).X), I ((normP (at_ (resQ s n) t18.toNat) b).Y), I (dirI (((at_ (resQ s n) ((t18 + 1).toNat)).X) - ((at_ (resQ s n) t18.toNat).X)) (((at_ (resQ s n) ((t18 + 1).toNat)).Y) - ((at_ (resQ s n) t18.toNat).Y)))] 3)))] [(list.length + 1) * 24 ≤ 140737488355328] hB ⟨(by omega), trivial⟩ ?_
    refine ae_block 1 ?_
    refine ae_then ?_
    refine aw_r [] [4, 7, 8, 9, 16, 17, 18] [4, 67] [.ref 4 0, slSpot true (resQ s n), .arr 67, I (dirI (((at_ (resQ s n) ((t18 + 1).toNat)).X) - ((at_ (resQ s n) t18.toNat).X)) (((at_ (resQ s n) ((t18 + 1).toNat)).Y) - ((at_ (resQ s n) t18.toNat).Y))), slSpot true (resQ s n), I (((resQ s n).length) : Int), I (t18 + 1)] [some (bxBox b), some (.arr 3 (list.length + 1) (catF list.length (fFeat list) (litF [I ((normP (at_ (resQ s n) t18.toNat) b).X), I ((normP (at_ (resQ s n) t18.toNat) b).Y), I (dirI (((at_ (resQ s n) ((t18 + 1).toNat)).X) - ((at_ (resQ s n) t18.toNat).X)) (((at_ (resQ s n) ((t18 + 1).toNat)).Y) - ((at_ (resQ s n) t18.toNat).Y)))] 3)))] [inR .i64 (t18 + 1)] hB ⟨(inR_i64 (by omega) (by omega)), trivial⟩ ?_
    refine ae_weak hB [(708, 67)] (T := [(4, .ref 4 0), (7, slSpot true (resQ s n)), (8, .arr 708), (9, I (dirI (((at_ (resQ s n) ((t18 + 1).toNat)).X) - ((at_ (resQ s n) t18.toNat).X)) (((at_ (resQ s n) ((t18 + 1).toNat)).Y) - ((at_ (resQ s n) t18.toNat).Y)))), (16, slSpot true (resQ s n)), (17, I (((resQ s n).length) : Int)), (18, I (t18 + 1))]) (O := [(4, bxBox b), (708, tAFeat (list ++ [(Feat.mk ((normP (at_ (resQ s n) t18.toNat) b).X) ((normP (at_ (resQ s n) t18.toNat) b).Y) (dirI (((at_ (resQ s n) ((t18 + 1).toNat)).X) - ((at_ (resQ s n) t18.toNat).X)) (((at_ (resQ s n) ((t18 + 1).toNat)).Y) - ((at_ (resQ s n) t18.toNat).Y))))]))]) rfl (⟨.inl rfl, .inl rfl, .inl rfl, .inl rfl, .inl rfl, .inl rfl, .inl rfl, trivial⟩) (⟨.inl rfl, .inr ⟨rfl, (by first | rfl | (simp; done) | (simp; omega) | omega), fun i_ hi_ => .inl (cat_snoc (enc := cFeat) (xs := list) rfl i_ hi_)⟩, trivial⟩) (ae_again _ (by omega) ⟨(list ++ [(Feat.mk ((normP (at_ (resQ s n) t18.toNat) b).X) ((normP (at_ (resQ s n) t18.toNat) b).Y) (dirI (((at_ (resQ s n) ((t18 + 1).toNat)).X) - ((at_ (resQ s n) t18.toNat).X)) (((at_ (resQ s n) ((t18 + 1).toNat)).Y) - ((at_ (resQ s n) t18.toNat).Y))))]), (dirI (((at_ (resQ s n) ((t18 + 1).toNat)).X) - ((at_ (resQ s n) t18.toNat).X)) (((at_ (resQ s n) ((t18 + 1).toNat)).Y) - ((at_ (resQ s n) t18.toNat).Y))), (t18 + 1), rfl, (by omega), (by simp; omega), (by rw [featK_succ (by omega), ← hl0, hdq]), (by have hdb := dirQ_bd (resQ s n) (t18 + 1).toNat; rw [hdq] at hdb; exact ⟨hdq.symm, hdb⟩), rfl⟩)
   have hdq := (dirQ_no (l := (resQ s n)) (k := t18) (by omega) (fun q => by omega)).trans hd0.1.symm
   refine aw_r [(4, .dec false)] [4, 7, 8, 9, 10, 11, 16, 17, 18, 36] [4, 11, 708] [.ref 4 0, slSpot true (resQ s n), .arr 708, I d, I t18, .ref 11 0, slSpot true (resQ s n), I (((resQ s n).length) : Int), I t18, Bv false] [some (bxBox b), some (.box [I ((at_ (resQ s n) t18.toNat).X), I ((at_ (resQ s n) t18.toNat).Y)]), some (tAFeat list)] [inR .i64 (t18 + 1), ¬ ((t18 + 1) < (((resQ s n).length) : Int))] hB ⟨(inR_i64 (by omega) (by omega)), h2, trivial⟩ ?_
   refine ae_then ?_
   refine aw_false rfl ?_
   refine aw_skip ?_
   refine ae_then ?_
   refine aR [(2, .call [(true, .any), (true, .any)] true (.agg [I ((normP (at_ (resQ s n) t18.toNat) b).X), I ((normP (at_ (resQ s n) t18.toNat) b).Y)])), (3, .new 12)] [4, 7, 8, 9, 12, 16, 17, 18] [4, 12, 708] [.ref 4 0, slSpot true (resQ s n), .arr 708, I d, .ref 12 0, slSpot true (resQ s n), I (((resQ s n).length) : Int), I t18] [some (bxBox b), some (.box [I ((normP (at_ (resQ s n) t18.toNat) b).X), I ((normP (at_ (resQ s n) t18.toNat) b).Y)]), some (tAFeat list)] [Con Tryz.prog 129 [.agg [I ((at_ (resQ s n) t18.toNat).X), I ((at_ (resQ s n) t18.toNat).Y)], agBox b] true (.agg [I ((normP (at_ (resQ s n) t18.toNat) b).X), I ((normP (at_ (resQ s n) t18.toNat) b).Y)]) ∧ True] hB ⟨⟨(normalSpot_ok (at_ (resQ s n) t18.toNat) b hb.1 (by omega)), trivial⟩, trivial⟩ ?_
   refine aw_r [(7, .new 66), (8, .new 67)] [4, 7, 8, 9, 16, 17, 18] [4, 67] [.ref 4 0, slSpot true (resQ s n), .arr 67, I d, slSpot true (resQ s n), I (((resQ s n).length) : Int), I t18] [some (bxBox b), some (.arr 3 (list.length + 1) (catF list.length (fFeat list) (litF [I ((normP (at_ (resQ s n) t18.toNat) b).X), I ((normP (at_ (resQ s n) t18.toNat) b).Y), I d] 3)))] [(list.length + 1) * 24 ≤ 140737488355328] hB ⟨(by omega), trivial⟩ ?_
   refine ae_block 1 ?_
   refine ae_then ?_
   refine aw_r [] [4, 7, 8, 9, 16, 17, 18] [4, 67] [.ref 4 0, slSpot true (resQ s n), .arr 67, I d, slSpot true (resQ s n), I (((resQ s n).length) : Int), I (t18 + 1)] [some (bxBox b), some (.arr 3 (list.length + 1) (catF list.length (fFeat list) (litF [I ((normP (at_ (resQ s n) t18.toNat) b).X), I ((normP (at_ (resQ s n) t18.toNat) b).Y), I d] 3)))] [inR .i64 (t18 + 1)] hB ⟨(inR_i64 (by omega) (by omega)), trivial⟩ ?_
   refine ae_weak hB [(708, 67)] (T := [(4, .ref 4 0), (7, slSpot true (resQ s n)), (8, .arr 708), (9, I d), (16, slSpot true (resQ s n)), (17, I (((resQ s n).length) : Int)), (18, I (t18 + 1))]) (O := [(4, bxBox b), (708, tAFeat (list ++ [(Feat.mk ((normP (at_ (resQ s n) t18.toNat) b).X) ((normP (at_ (resQ s n) t18.toNat) b).Y) d)]))]) rfl (⟨.inl rfl, .inl rfl, .inl rfl, .inl rfl, .inl rfl, .inl rfl, .inl rfl, trivial⟩) (⟨.inl rfl, .inr ⟨rfl, (by first | rfl | (simp; done) | (simp; omega) | omega), fun i_ hi_ => .inl (cat_snoc (enc := cFeat) (xs := list) rfl i_ hi_)⟩, trivial⟩) (ae_again _ (by omega) ⟨(list ++ [(Feat.mk ((normP (at_ (resQ s n) t18.toNat) b).X) ((normP (at_ (resQ s n) t18.toNat) b).Y) d)]), d, (t18 + 1), rfl, (by omega), (by simp; omega), (by rw [featK_succ (by omega), ← hl0, hdq]), (by have hdb := dirQ_bd (resQ s n) (t18 + 1).toNat; rw [hdq] at hdb; exact ⟨hdq.symm, hdb⟩), rfl⟩)
  have hke : t18.toNat = (resQ s n).length := by omega
  rw [hke] at hl0
  have hl1 : list = featQ s n b := hl0
  clear hl0
  subst hl1
  refine aw_r [(0, .dec false)] [4, 7, 8, 9, 16, 17, 18, 19] [4, 708] [.ref 4 0, slSpot true (resQ s n), .arr 708, I d, slSpot true (resQ s n), I (((resQ s n).length) : Int), I t18, Bv false] [some (bxBox b), some (tAFeat (featQ s n b))] [¬ (t18 < (((resQ s n).length) : Int))] hB ⟨h1, trivial⟩ ?_
  refine ae_then ?_
  refine aw_seq ?_
  refine aw_false rfl ?_
  refine aw_exit ?_
  refine ae_exit_then ?_
  refine ae_exit_then ?_
  refine ae_exit_same ?_
  refine ae_then ?_
  refine aR [] [6] [708] [.arr 708] [some (tAFeat (featQ s n b))] [] hB trivial ?_
  refine aw_ret ?_
  refine ae_ret hB (.arr 708) (by kernel_rfl) (.inr ⟨(fun _ => rfl), rfl, rfl, fun i _ => .inl rfl⟩) rfl (fun _ => (tagFeat true _))



-- impl.FeatsOf
theorem implFeatsOf_ok (ik : Ink) (n : Int) : Con Tryz.prog 50 [.agg [slStroke false ik.Strokes], I n] true (.tup [slFeat true ((feR ik n).1), I ((feR ik n).2)]) := by
  refine fn_ok (fn := Tryz.f50) (nt := 40) Tryz.func50 rfl rfl rfl rfl (by simp [taggedL, tagged, tagStroke]) fun B hB => ?_
  refine aw_lens (x := .agg [slStroke false ik.Strokes]) 0 rfl (fun len_ik => ?_)
  simp [LenOK, LenL, cPoint, cStroke, fPoint, fStroke, slPoint, slStroke] at len_ik
  refine aR [(0, .new 2)] [1, 2] [2] [I n, .ref 2 0] [some (.box [slStroke false ik.Strokes])] [] hB trivial ?_
  refine aw_seq ?_
  refine aw_block ?_
  refine aw_seq ?_
  rcases Bool.eq_false_or_eq_true (okInk' ik) with h1 | h1
  ·have hil := okI_len h1
   refine aw_r [(1, .call [(true, .any)] true (Bv true))] [1, 2, 10] [2] [I n, .ref 2 0, Bv false] [some (.box [slStroke false ik.Strokes])] [Con Tryz.prog 20 [.agg [slStroke false ik.Strokes]] true (Bv true) ∧ True] hB ⟨⟨(con_bool h1 (ValidInk_ok ik)), trivial⟩, trivial⟩ ?_
   refine ae_then ?_
   refine aw_false rfl ?_
   refine aw_seq ?_
   rcases Bool.eq_false_or_eq_true (inB n 2 24) with h2 | h2
   ·have hq2 := inB_iff.1 h2
    refine aw_r [(1, .call [(true, .any), (true, .any), (true, .any)] true (Bv true))] [1, 2, 14] [2] [I n, .ref 2 0, Bv false] [some (.box [slStroke false ik.Strokes])] [Con Tryz.prog 43 [I n, I 2, I 24] true (Bv true) ∧ True] hB ⟨⟨(con_bool h2 (within_ok n 2 24)), trivial⟩, trivial⟩ ?_
    refine ae_then ?_
    refine aw_false rfl ?_
    refine aw_seq ?_
    by_cases h3 : (ik.Strokes.length : Int) = 0
    ·rw [feR_st h1 h2 h3]
     refine aw_r [(3, .dec true)] [1, 2, 18] [2] [I n, .ref 2 0, Bv true] [some (.box [slStroke false ik.Strokes])] [(ik.Strokes.length : Int) = 0] hB ⟨h3, trivial⟩ ?_
     refine ae_then ?_
     refine aw_true rfl ?_
     refine aR [] [4, 5] [] [nilA, I 6] [] [] hB trivial ?_
     refine aw_ret ?_
     refine ae_ret_block (ae_ret_then ?_)
     refine ae_ret hB (.tup [nilA, I 6]) (by kernel_rfl) (.inr ⟨⟨(by first | omega | simp), rfl⟩, ⟨(by first | rfl | (simp [valOf]; done) | (simp [valOf]; omega)), rfl⟩⟩) rfl (fun _ => (by simp [tagged, taggedL, tagFeat]))
    rw [feR_yes h1 h2 h3]
    refine aw_r [(3, .dec false)] [1, 2, 18] [2] [I n, .ref 2 0, Bv false] [some (.box [slStroke false ik.Strokes])] [¬ ((ik.Strokes.length : Int) = 0)] hB ⟨h3, trivial⟩ ?_
    refine ae_then ?_
    refine aw_false rfl ?_
    refine aw_skip ?_
    refine ae_block 0 ?_
    refine ae_then ?_
    refine aR [(1, .call [(true, .any)] true (agBox (inkB ik.Strokes ik.Strokes.length))), (2, .new 6)] [1, 2, 6] [2, 6] [I n, .ref 2 0, .ref 6 0] [some (.box [slStroke false ik.Strokes]), some (bxBox (inkB ik.Strokes ik.Strokes.length))] [Con Tryz.prog 83 [.agg [slStroke false ik.Strokes]] true (agBox (inkB ik.Strokes ik.Strokes.length)) ∧ True] hB ⟨⟨(boxOfInk_ok ik h1 (by omega)), trivial⟩, trivial⟩ ?_
    refine aR [] [1, 2, 6, 7] [2, 6] [I n, .ref 2 0, .ref 6 0, nilA] [some (.box [slStroke false ik.Strokes]), some (bxBox (inkB ik.Strokes ik.Strokes.length))] [] hB trivial ?_
    refine aw_seq ?_
    refine aR [] [1, 6, 7, 26, 27, 28] [6] [I n, .ref 6 0, nilA, slStroke false ik.Strokes, I (ik.Strokes.length : Int), I 0] [some (bxBox (inkB ik.Strokes ik.Strokes.length))] [] hB trivial ?_
    refine aw_block ?_
    refine aw_nil hB 7 707 3 (fun _ => []) (by kernel_rfl) ?_
    refine aw_weak hB [] (T := [(1, I n), (6, .ref 6 0), (7, .arr 707), (26, slStroke false ik.Strokes), (27, I (ik.Strokes.length : Int)), (28, I 0)]) (O := [(6, bxBox (inkB ik.Strokes ik.Strokes.length)), (707, tAFeat ([] : List Feat))]) rfl (⟨.inl rfl, .inl rfl, .inl rfl, .inl rfl, .inl rfl, .inl rfl, trivial⟩) (⟨.inl rfl, .inr ⟨rfl, (by first | rfl | (simp; done) | (simp; omega) | omega), fun i_ hi_ => absurd hi_ (Nat.not_lt_zero _)⟩, trivial⟩) ?_
    refine aw_loop (fun gn gσ => ∃ (list : List Feat) (t28 : Int), gn = ((ik.Strokes.length : Int) - t28).toNat ∧ (0 ≤ t28 ∧ t28 ≤ (ik.Strokes.length : Int)) ∧ ((list.length : Int) ≤ 24 * t28) ∧ (list = featI ik.Strokes n (inkB ik.Strokes ik.Strokes.length) t28.toNat) ∧ gσ = mkS [(1, I n), (6, .ref 6 0), (7, .arr 707), (26, slStroke false ik.Strokes), (27, I (ik.Strokes.length : Int)), (28, I t28)] [(6, bxBox (inkB ik.Strokes ik.Strokes.length)), (707, tAFeat list)]) (((ik.Strokes.length : Int) - 0).toNat) ⟨([] : List Feat), 0, rfl, (by omega), (by simp), (by rfl), rfl⟩ (fun gn gσ hI => ?_)
    obtain ⟨list, t28, rfl, hi0, hll, hl0, rfl⟩ := hI
    refine aw_seq ?_
    by_cases h4 : t28 < (ik.Strokes.length : Int)
    ·have hi : t28.toNat < ik.Strokes.length := by omega
     have hfl := featQ_len (at_ ik.Strokes t28.toNat) n (inkB ik.Strokes ik.Strokes.length)
     have hfb : okBox (inkB ik.Strokes ik.Strokes.length) ∧ inBox (skB (at_ ik.Strokes t28.toNat)) (inkB ik.Strokes ik.Strokes.length) := ⟨inkB_ok h1 (by omega) _ (Nat.le_refl _), inkB_has _ _ _ hi⟩
     refine aw_r [(0, .dec true)] [1, 6, 7, 26, 27, 28, 29] [6, 707] [I n, .ref 6 0, .arr 707, slStroke false ik.Strokes, I (ik.Strokes.length : Int), I t28, Bv true] [some (bxBox (inkB ik.Strokes ik.Strokes.length)), some (tAFeat list)] [t28 < (ik.Strokes.length : Int)] hB ⟨h4, trivial⟩ ?_
     refine ae_then ?_
     refine aw_seq ?_
     refine aw_true rfl ?_
     refine aw_skip ?_
     refine ae_then ?_
     refine aw_seq ?_
     refine aw_block ?_
     refine aR [(2, .new 9)] [1, 6, 7, 9, 26, 27, 28] [6, 9, 707] [I n, .ref 6 0, .arr 707, .ref 9 0, slStroke false ik.Strokes, I (ik.Strokes.length : Int), I t28] [some (bxBox (inkB ik.Strokes ik.Strokes.length)), some (.box [slPoint false ((at_ ik.Strokes t28.toNat).Points)]), some (tAFeat list)] [(0 : Int) ≤ t28 ∧ t28 < (ik.Strokes.length : Int)] hB ⟨⟨(by omega), (by omega)⟩, trivial⟩ ?_
     refine aw_r [(4, .call [(true, .any), (true, .any), (true, .any)] true (slFeat true (featQ (at_ ik.Strokes t28.toNat) n (inkB ik.Strokes ik.Strokes.length)))), (5, .new 37)] [1, 6, 7, 26, 27, 28] [6, 37] [I n, .ref 6 0, .arr 37, slStroke false ik.Strokes, I (ik.Strokes.length : Int), I t28] [some (bxBox (inkB ik.Strokes ik.Strokes.length)), some (.arr 3 (list.length + ((featQ (at_ ik.Strokes t28.toNat) n (inkB ik.Strokes ik.Strokes.length)).length)) (catF list.length (fFeat list) (fFeat (featQ (at_ ik.Strokes t28.toNat) n (inkB ik.Strokes ik.Strokes.length)))))] [Con Tryz.prog 84 [.agg [slPoint false ((at_ ik.Strokes t28.toNat).Points)], agBox (inkB ik.Strokes ik.Strokes.length), I n] true (slFeat true (featQ (at_ ik.Strokes t28.toNat) n (inkB ik.Strokes ik.Strokes.length))) ∧ True, (list.length + ((featQ (at_ ik.Strokes t28.toNat) n (inkB ik.Strokes ik.Strokes.length)).length)) * 24 ≤ 140737488355328] hB ⟨⟨(featsOfStroke_ok (at_ ik.Strokes t28.toNat) (inkB ik.Strokes ik.Strokes.length) n (okI_all h1 _ hi) (by omega) hfb), trivial⟩, (by omega), trivial⟩ ?_
     refine ae_block 2 ?_
     refine ae_then ?_
     refine aw_r [] [1, 6, 7, 26, 27, 28] [6, 37] [I n, .ref 6 0, .arr 37, slStroke false ik.Strokes, I (ik.Strokes.length : Int), I (t28 + 1)] [some (bxBox (inkB ik.Strokes ik.Strokes.length)), some (.arr 3 (list.length + ((featQ (at_ ik.Strokes t28.toNat) n (inkB ik.Strokes ik.Strokes.length)).length)) (catF list.length (fFeat list) (fFeat (featQ (at_ ik.Strokes t28.toNat) n (inkB ik.Strokes ik.Strokes.length)))))] [inR .i64 (t28 + 1)] hB ⟨(inR_i64 (by omega) (by omega)), trivial⟩ ?_
     refine ae_weak hB [(707, 37)] (T := [(1, I n), (6, .ref 6 0), (7, .arr 707), (26, slStroke false ik.Strokes), (27, I (ik.Strokes.length : Int)), (28, I (t28 + 1))]) (O := [(6, bxBox (inkB ik.Strokes ik.Strokes.length)), (707, tAFeat (list ++ (featQ (at_ ik.Strokes t28.toNat) n (inkB ik.Strokes ik.Strokes.length))))]) rfl (⟨.inl rfl, .inl rfl, .inl rfl, .inl rfl, .inl rfl, .inl rfl, trivial⟩) (⟨.inl rfl, .inr ⟨rfl, (by first | rfl | (simp; done) | (simp; omega) | omega), fun i_ hi_ => .inl (cat_app (enc := cFeat) (xs := list) i_ hi_)⟩, trivial⟩) (ae_again _ (by omega) ⟨(list ++ (featQ (at_ ik.Strokes t28.toNat) n (inkB ik.Strokes ik.Strokes.length))), (t28 + 1), rfl, (by omega), (by rw [List.length_append, hfl]; omega), (by rw [featI_succ (by omega), ← hl0]), rfl⟩)
    have hie : t28.toNat = ik.Strokes.length := by omega
    rw [hie] at hl0
    have hl1 : list = feA ik n := hl0
    clear hl0
    subst hl1
    refine aw_r [(0, .dec false)] [1, 6, 7, 26, 27, 28, 29] [6, 707] [I n, .ref 6 0, .arr 707, slStroke false ik.Strokes, I (ik.Strokes.length : Int), I t28, Bv false] [some (bxBox (inkB ik.Strokes ik.Strokes.length)), some (tAFeat (feA ik n))] [¬ (t28 < (ik.Strokes.length : Int))] hB ⟨h4, trivial⟩ ?_
    refine ae_then ?_
    refine aw_seq ?_
    refine aw_false rfl ?_
    refine aw_exit ?_
    refine ae_exit_then ?_
    refine ae_exit_then ?_
    refine ae_exit_same ?_
    refine ae_then ?_
    refine aR [] [4, 5] [707] [.arr 707, I 0] [some (tAFeat (feA ik n))] [] hB trivial ?_
    refine aw_ret ?_
    refine ae_ret hB (.tup [.arr 707, I 0]) (by kernel_rfl) (.inr ⟨⟨(fun _ => rfl), rfl, (by first | rfl | (simp; done) | (simp; omega) | omega), fun i_ hi_ => .inl (by first | rfl | fail)⟩, ⟨(by first | rfl | (simp [valOf]; done) | (simp [valOf]; omega)), rfl⟩⟩) rfl (fun _ => (by simp [tagged, taggedL, tagFeat]))
   rw [feR_rng h1 h2]
   refine aw_r [(1, .call [(true, .any), (true, .any), (true, .any)] true (Bv false))] [1, 2, 14] [2] [I n, .ref 2 0, Bv true] [some (.box [slStroke false ik.Strokes])] [Con Tryz.prog 43 [I n, I 2, I 24] true (Bv false) ∧ True] hB ⟨⟨(con_bool h2 (within_ok n 2 24)), trivial⟩, trivial⟩ ?_
   refine ae_then ?_
   refine aw_true rfl ?_
   refine aR [] [4, 5] [] [nilA, I 2] [] [] hB trivial ?_
   refine aw_ret ?_
   refine ae_ret_block (ae_ret_then ?_)
   refine ae_ret hB (.tup [nilA, I 2]) (by kernel_rfl) (.inr ⟨⟨(by first | omega | simp), rfl⟩, ⟨(by first | rfl | (simp [valOf]; done) | (simp [valOf]; omega)), rfl⟩⟩) rfl (fun _ => (by simp [tagged, taggedL, tagFeat]))
  rw [feR_inv h1]
  refine aw_r [(1, .call [(true, .any)] true (Bv false))] [1, 2, 10] [2] [I n, .ref 2 0, Bv true] [some (.box [slStroke false ik.Strokes])] [Con Tryz.prog 20 [.agg [slStroke false ik.Strokes]] true (Bv false) ∧ True] hB ⟨⟨(con_bool h1 (ValidInk_ok ik)), trivial⟩, trivial⟩ ?_
  refine ae_then ?_
  refine aw_true rfl ?_
  refine aR [] [4, 5] [] [nilA, I 1] [] [] hB trivial ?_
  refine aw_ret ?_
  refine ae_ret_block (ae_ret_then ?_)
  refine ae_ret hB (.tup [nilA, I 1]) (by kernel_rfl) (.inr ⟨⟨(by first | omega | simp), rfl⟩, ⟨(by first | rfl | (simp [valOf]; done) | (simp [valOf]; omega)), rfl⟩⟩) rfl (fun _ => (by simp [tagged, taggedL, tagFeat]))



-- impl.isBand
theorem isBand_ok (band : Int) (n : Int) (m : Int) (hn : 0 ≤ n ∧ n ≤ 4611686018427387904) (hm : 0 ≤ m ∧ m ≤ 4611686018427387904) : Con Tryz.prog 85 [I band, I n, I m] true (Bv (inB band 0 72 && decide (((n - m).natAbs : Int) ≤ band))) := by
  refine fn_ok (fn := Tryz.f85) (nt := 17) Tryz.func85 rfl rfl rfl rfl (by simp [taggedL, tagged]) fun B hB => ?_
  refine aR [] [0, 1, 2] [] [I band, I n, I m] [] [] hB trivial ?_
  refine aw_seq ?_
  rcases Bool.eq_false_or_eq_true (inB band 0 72) with h1 | h1
  ·refine aw_r [(1, .call [(true, .any), (true, .any), (true, .any)] true (Bv true)), (6, .call [(true, .any)] true (I ((n - m).natAbs : Int)))] [6] [] [Bv (decide (((n - m).natAbs : Int) ≤ band))] [] [Con Tryz.prog 43 [I band, I 0, I 72] true (Bv true) ∧ True, inR .i64 (n - m), Con Tryz.prog 130 [I (n - m)] true (I ((n - m).natAbs : Int)) ∧ True] hB ⟨⟨(con_bool h1 (within_ok band 0 72)), trivial⟩, (inR_i64 (by omega) (by omega)), ⟨(abs_ok (n - m) (by omega)), trivial⟩, trivial⟩ ?_
   refine ae_then ?_
   refine aw_ret ?_
   refine ae_ret hB (Bv (decide (((n - m).natAbs : Int) ≤ band))) (by kernel_rfl) (.inl (by refine congrArg Bv ?_; first | (simp [*]; done) | (simp [inB] at *; omega))) rfl (fun _ => trivial)
  refine aw_r [(1, .call [(true, .any), (true, .any), (true, .any)] true (Bv false))] [6] [] [Bv false] [] [Con Tryz.prog 43 [I band, I 0, I 72] true (Bv false) ∧ True] hB ⟨⟨(con_bool h1 (within_ok band 0 72)), trivial⟩, trivial⟩ ?_
  refine ae_then ?_
  refine aw_ret ?_
  refine ae_ret hB (Bv false) (by kernel_rfl) (.inl (by refine congrArg Bv ?_; first | (simp [*]; done) | (simp [inB] at *; omega))) rfl (fun _ => trivial)



-- impl.stepsBack
theorem stepsBack_ok : Con Tryz.prog 188 [] true (.agg [I 1, I 1, I 1, I 0, I 0, I 1]) := by
  refine fn_ok (fn := Tryz.f188) (nt := 5) Tryz.func188 rfl rfl rfl rfl (by simp [taggedL, tagged]) fun B hB => ?_
  refine aR [(0, .new 0)] [0] [0] [.ref 0 0] [some (.box [I 0, I 0, I 0, I 0, I 0, I 0])] [] hB trivial ?_
  refine aR [] [0] [0] [.ref 0 0] [some (.box [I 1, I 1, I 1, I 0, I 0, I 1])] [] hB trivial ?_
  refine aw_ret ?_
  refine ae_ret hB (.agg [I 1, I 1, I 1, I 0, I 0, I 1]) (by kernel_rfl) (.inl rfl) rfl (fun _ => (by simp [tagged, taggedL]))



-- impl.leastBefore
theorem leastBefore_ok (table : List (List Int)) (i : Int) (j : Int) (hi : 0 ≤ i ∧ i < (table.length : Int)) (hj : 0 ≤ j ∧ j ≤ 1000) (h1 : 1 ≤ i → j < ((at_ table (i - 1).toNat).length : Int)) (h2 : 1 ≤ j → j ≤ ((at_ table (i - 0).toNat).length : Int)) : Con Tryz.prog 166 [slLI false table, I i, I j] true (I (lb3 table i j)) := by
  refine fn_ok (fn := Tryz.f166) (nt := 41) Tryz.func166 rfl rfl rfl rfl (by simp [taggedL, tagged, tagLI]) fun B hB => ?_
  refine aw_lens (x := slLI false table) 0 rfl (fun len_table => ?_)
  simp [LenOK, LenL, cI, cLI, fI, fLI, slI, slLI] at len_table
  refine aR [] [0, 1, 2] [] [slLI false table, I i, I j] [] [] hB trivial ?_
  refine aR [] [0, 1, 2, 7] [] [slLI false table, I i, I j, I 1099511627776] [] [] hB trivial ?_
  refine aw_seq ?_
  refine aR [(0, .call [] true (.agg [I 1, I 1, I 1, I 0, I 0, I 1]))] [0, 1, 2, 7, 10, 11] [] [slLI false table, I i, I j, I 1099511627776, .agg [I 1, I 1, I 1, I 0, I 0, I 1], I 0] [] [Con Tryz.prog 188 [] true (.agg [I 1, I 1, I 1, I 0, I 0, I 1]) ∧ True] hB ⟨⟨(stepsBack_ok), trivial⟩, trivial⟩ ?_
  refine aw_block ?_
  refine aw_loop (fun gn gσ => ∃ (least : Int) (t11 : Int), gn = ((3 : Int) - t11).toNat ∧ (0 ≤ t11 ∧ t11 ≤ 3) ∧ (least = lbk table i j t11.toNat) ∧ gσ = mkS [(0, slLI false table), (1, I i), (2, I j), (7, I least), (10, .agg [I 1, I 1, I 1, I 0, I 0, I 1]), (11, I t11)] []) (((3 : Int) - 0).toNat) ⟨1099511627776, 0, rfl, (by omega), (by rfl), rfl⟩ (fun gn gσ hI => ?_)
  obtain ⟨least, t11, rfl, ht0, hl0, rfl⟩ := hI
  refine aw_seq ?_
  by_cases h1 : t11 < 3
  ·have hcs : t11 = 0 ∨ t11 = 1 ∨ t11 = 2 := by omega
   rcases hcs with rfl | rfl | rfl
   ·refine aw_r [(0, .dec true)] [0, 1, 2, 7, 10, 11, 12] [] [slLI false table, I i, I j, I least, .agg [I 1, I 1, I 1, I 0, I 0, I 1], I 0, Bv true] [] [(0 : Int) < 3] hB ⟨(by decide), trivial⟩ ?_
    refine ae_then ?_
    refine aw_seq ?_
    refine aw_true rfl ?_
    refine aw_skip ?_
    refine ae_then ?_
    refine aw_seq ?_
    refine aw_block ?_
    refine aR [(1, .new 9)] [0, 1, 2, 7, 9, 10, 11] [9] [slLI false table, I i, I j, I least, .ref 9 0, .agg [I 1, I 1, I 1, I 0, I 0, I 1], I 0] [some (.box [I 1, I 1])] [(0 : Int) ≤ 0 ∧ 0 < (3 : Int)] hB ⟨⟨by decide, by decide⟩, trivial⟩ ?_
    refine aw_seq ?_
    by_cases h2 : 1 ≤ i
    ·by_cases h3 : 1 ≤ j
     ·refine aw_r [(3, .dec true), (8, .dec true)] [0, 1, 2, 7, 9, 10, 11, 23] [9] [slLI false table, I i, I j, I least, .ref 9 0, .agg [I 1, I 1, I 1, I 0, I 0, I 1], I 0, Bv true] [some (.box [I 1, I 1])] [(0 : Int) ≤ 0 ∧ 0 < (2 : Int), 1 ≤ i, (0 : Int) ≤ 1 ∧ 1 < (2 : Int), 1 ≤ j] hB ⟨⟨by decide, by decide⟩, h2, ⟨by decide, by decide⟩, h3, trivial⟩ ?_
      refine ae_then ?_
      refine aw_true rfl ?_
      refine aw_r [] [0, 1, 2, 7, 10, 11] [] [slLI false table, I i, I j, I (min least (at_ (at_ table ((i - 1).toNat)) ((j - 1).toNat))), .agg [I 1, I 1, I 1, I 0, I 0, I 1], I 0] [] [(0 : Int) ≤ 0 ∧ 0 < (2 : Int), inR .i64 (i - 1), (0 : Int) ≤ (i - 1) ∧ (i - 1) < (table.length : Int), (0 : Int) ≤ 1 ∧ 1 < (2 : Int), inR .i64 (j - 1), (0 : Int) ≤ (j - 1) ∧ (j - 1) < (((at_ table ((i - 1).toNat)).length) : Int)] hB ⟨⟨by decide, by decide⟩, (inR_i64 (by omega) (by omega)), ⟨(by omega), (by omega)⟩, ⟨by decide, by decide⟩, (inR_i64 (by omega) (by omega)), ⟨(by omega), (by omega)⟩, trivial⟩ ?_
      refine ae_block 1 ?_
      refine ae_then ?_
      refine aw_r [] [0, 1, 2, 7, 10, 11] [] [slLI false table, I i, I j, I (min least (at_ (at_ table ((i - 1).toNat)) ((j - 1).toNat))), .agg [I 1, I 1, I 1, I 0, I 0, I 1], I (0 + 1)] [] [inR .i64 (0 + 1)] hB ⟨(inR_i64 (by omega) (by omega)), trivial⟩ ?_
      exact ae_again _ (by omega) ⟨(min least (at_ (at_ table ((i - 1).toNat)) ((j - 1).toNat))), (0 + 1), rfl, (by omega), (by rw [hl0]; first | (show _ = lb1 table i j; unfold lb1; first | (rw [if_pos (by omega)]; rfl) | (rw [if_neg (by omega)]; rfl)) | (show _ = lb2 table i j; unfold lb2; first | (rw [if_pos (by omega)]; rfl) | (rw [if_neg (by omega)]; rfl)) | (show _ = lb3 table i j; unfold lb3; first | (rw [if_pos (by omega)]; rfl) | (rw [if_neg (by omega)]; rfl))), rfl⟩
     refine aw_r [(3, .dec true), (8, .dec false)] [0, 1, 2, 7, 9, 10, 11, 23] [9] [slLI false table, I i, I j, I least, .ref 9 0, .agg [I 1, I 1, I 1, I 0, I 0, I 1], I 0, Bv false] [some (.box [I 1, I 1])] [(0 : Int) ≤ 0 ∧ 0 < (2 : Int), 1 ≤ i, (0 : Int) ≤ 1 ∧ 1 < (2 : Int), ¬ (1 ≤ j)] hB ⟨⟨by decide, by decide⟩, h2, ⟨by decide, by decide⟩, h3, trivial⟩ ?_
     refine ae_then ?_
     refine aw_false rfl ?_
     refine aw_skip ?_
     refine ae_block 1 ?_
     refine ae_then ?_
     refine aw_r [] [0, 1, 2, 7, 10, 11] [] [slLI false table, I i, I j, I least, .agg [I 1, I 1, I 1, I 0, I 0, I 1], I (0 + 1)] [] [inR .i64 (0 + 1)] hB ⟨(inR_i64 (by omega) (by omega)), trivial⟩ ?_
     exact ae_again _ (by omega) ⟨least, (0 + 1), rfl, (by omega), (by rw [hl0]; first | (show _ = lb1 table i j; unfold lb1; first | (rw [if_pos (by omega)]; rfl) | (rw [if_neg (by omega)]; rfl)) | (show _ = lb2 table i j; unfold lb2; first | (rw [if_pos (by omega)]; rfl) | (rw [if_neg (by omega)]; rfl)) | (show _ = lb3 table i j; unfold lb3; first | (rw [if_pos (by omega)]; rfl) | (rw [if_neg (by omega)]; rfl))), rfl⟩
    refine aw_r [(3, .dec false)] [0, 1, 2, 7, 9, 10, 11, 23] [9] [slLI false table, I i, I j, I least, .ref 9 0, .agg [I 1, I 1, I 1, I 0, I 0, I 1], I 0, Bv false] [some (.box [I 1, I 1])] [(0 : Int) ≤ 0 ∧ 0 < (2 : Int), ¬ (1 ≤ i)] hB ⟨⟨by decide, by decide⟩, h2, trivial⟩ ?_
    refine ae_then ?_
    refine aw_false rfl ?_
    refine aw_skip ?_
    refine ae_block 1 ?_
    refine ae_then ?_
    refine aw_r [] [0, 1, 2, 7, 10, 11] [] [slLI false table, I i, I j, I least, .agg [I 1, I 1, I 1, I 0, I 0, I 1], I (0 + 1)] [] [inR .i64 (0 + 1)] hB ⟨(inR_i64 (by omega) (by omega)), trivial⟩ ?_
    exact ae_again _ (by omega) ⟨least, (0 + 1), rfl, (by omega), (by rw [hl0]; first | (show _ = lb1 table i j; unfold lb1; first | (rw [if_pos (by omega)]; rfl) | (rw [if_neg (by omega)]; rfl)) | (show _ = lb2 table i j; unfold lb2; first | (rw [if_pos (by omega)]; rfl) | (rw [if_neg (by omega)]; rfl)) | (show _ = lb3 table i j; unfold lb3; first | (rw [if_pos (by omega)]; rfl) | (rw [if_neg (by omega)]; rfl))), rfl⟩
   ·refine aw_r [(0, .dec true)] [0, 1, 2, 7, 10, 11, 12] [] [slLI false table, I i, I j, I least, .agg [I 1, I 1, I 1, I 0, I 0, I 1], I 1, Bv true] [] [(1 : Int) < 3] hB ⟨(by decide), trivial⟩ ?_
    refine ae_then ?_
    refine aw_seq ?_
    refine aw_true rfl ?_
    refine aw_skip ?_
    refine ae_then ?_
    refine aw_seq ?_
    refine aw_block ?_
    refine aR [(1, .new 9)] [0, 1, 2, 7, 9, 10, 11] [9] [slLI false table, I i, I j, I least, .ref 9 0, .agg [I 1, I 1, I 1, I 0, I 0, I 1], I 1] [some (.box [I 1, I 0])] [(0 : Int) ≤ 1 ∧ 1 < (3 : Int)] hB ⟨⟨by decide, by decide⟩, trivial⟩ ?_
    refine aw_seq ?_
    by_cases h4 : 1 ≤ i
    ·refine aw_r [(3, .dec true), (8, .dec true)] [0, 1, 2, 7, 9, 10, 11, 23] [9] [slLI false table, I i, I j, I least, .ref 9 0, .agg [I 1, I 1, I 1, I 0, I 0, I 1], I 1, Bv true] [some (.box [I 1, I 0])] [(0 : Int) ≤ 0 ∧ 0 < (2 : Int), 1 ≤ i, (0 : Int) ≤ 1 ∧ 1 < (2 : Int), 0 ≤ j] hB ⟨⟨by decide, by decide⟩, h4, ⟨by decide, by decide⟩, (by omega), trivial⟩ ?_
     refine ae_then ?_
     refine aw_true rfl ?_
     refine aw_r [] [0, 1, 2, 7, 10, 11] [] [slLI false table, I i, I j, I (min least (at_ (at_ table ((i - 1).toNat)) ((j - 0).toNat))), .agg [I 1, I 1, I 1, I 0, I 0, I 1], I 1] [] [(0 : Int) ≤ 0 ∧ 0 < (2 : Int), inR .i64 (i - 1), (0 : Int) ≤ (i - 1) ∧ (i - 1) < (table.length : Int), (0 : Int) ≤ 1 ∧ 1 < (2 : Int), inR .i64 (j - 0), (0 : Int) ≤ (j - 0) ∧ (j - 0) < (((at_ table ((i - 1).toNat)).length) : Int)] hB ⟨⟨by decide, by decide⟩, (inR_i64 (by omega) (by omega)), ⟨(by omega), (by omega)⟩, ⟨by decide, by decide⟩, (inR_i64 (by omega) (by omega)), ⟨(by omega), (by omega)⟩, trivial⟩ ?_
     refine ae_block 1 ?_
     refine ae_then ?_
     refine aw_r [] [0, 1, 2, 7, 10, 11] [] [slLI false table, I i, I j, I (min least (at_ (at_ table ((i - 1).toNat)) ((j - 0).toNat))), .agg [I 1, I 1, I 1, I 0, I 0, I 1], I (1 + 1)] [] [inR .i64 (1 + 1)] hB ⟨(inR_i64 (by omega) (by omega)), trivial⟩ ?_
     exact ae_again _ (by omega) ⟨(min least (at_ (at_ table ((i - 1).toNat)) ((j - 0).toNat))), (1 + 1), rfl, (by omega), (by rw [hl0]; first | (show _ = lb1 table i j; unfold lb1; first | (rw [if_pos (by omega)]; rfl) | (rw [if_neg (by omega)]; rfl)) | (show _ = lb2 table i j; unfold lb2; first | (rw [if_pos (by omega)]; rfl) | (rw [if_neg (by omega)]; rfl)) | (show _ = lb3 table i j; unfold lb3; first | (rw [if_pos (by omega)]; rfl) | (rw [if_neg (by omega)]; rfl))), rfl⟩
    refine aw_r [(3, .dec false)] [0, 1, 2, 7, 9, 10, 11, 23] [9] [slLI false table, I i, I j, I least, .ref 9 0, .agg [I 1, I 1, I 1, I 0, I 0, I 1], I 1, Bv false] [some (.box [I 1, I 0])] [(0 : Int) ≤ 0 ∧ 0 < (2 : Int), ¬ (1 ≤ i)] hB ⟨⟨by decide, by decide⟩, h4, trivial⟩ ?_
    refine ae_then ?_
    refine aw_false rfl ?_
    refine aw_skip ?_
    refine ae_block 1 ?_
    refine ae_then ?_
    refine aw_r [] [0, 1, 2, 7, 10, 11] [] [slLI false table, I i, I j, I least, .agg [I 1, I 1, I 1, I 0, I 0, I 1], I (1 + 1)] [] [inR .i64 (1 + 1)] hB ⟨(inR_i64 (by omega) (by omega)), trivial⟩ ?_
    exact ae_again _ (by omega) ⟨least, (1 + 1), rfl, (by omega), (by rw [hl0]; first | (show _ = lb1 table i j; unfold lb1; first | (rw [if_pos (by omega)]; rfl) | (rw [if_neg (by omega)]; rfl)) | (show _ = lb2 table i j; unfold lb2; first | (rw [if_pos (by omega)]; rfl) | (rw [if_neg (by omega)]; rfl)) | (show _ = lb3 table i j; unfold lb3; first | (rw [if_pos (by omega)]; rfl) | (rw [if_neg (by omega)]; rfl))), rfl⟩
   ·refine aw_r [(0, .dec true)] [0, 1, 2, 7, 10, 11, 12] [] [slLI false table, I i, I j, I least, .agg [I 1, I 1, I 1, I 0, I 0, I 1], I 2, Bv true] [] [(2 : Int) < 3] hB ⟨(by decide), trivial⟩ ?_
    refine ae_then ?_
    refine aw_seq ?_
    refine aw_true rfl ?_
    refine aw_skip ?_
    refine ae_then ?_
    refine aw_seq ?_
    refine aw_block ?_
    refine aR [(1, .new 9)] [0, 1, 2, 7, 9, 10, 11] [9] [slLI false table, I i, I j, I least, .ref 9 0, .agg [I 1, I 1, I 1, I 0, I 0, I 1], I 2] [some (.box [I 0, I 1])] [(0 : Int) ≤ 2 ∧ 2 < (3 : Int)] hB ⟨⟨by decide, by decide⟩, trivial⟩ ?_
    refine aw_seq ?_
    by_cases h5 : 1 ≤ j
    ·refine aw_r [(3, .dec true), (8, .dec true)] [0, 1, 2, 7, 9, 10, 11, 23] [9] [slLI false table, I i, I j, I least, .ref 9 0, .agg [I 1, I 1, I 1, I 0, I 0, I 1], I 2, Bv true] [some (.box [I 0, I 1])] [(0 : Int) ≤ 0 ∧ 0 < (2 : Int), 0 ≤ i, (0 : Int) ≤ 1 ∧ 1 < (2 : Int), 1 ≤ j] hB ⟨⟨by decide, by decide⟩, (by omega), ⟨by decide, by decide⟩, h5, trivial⟩ ?_
     refine ae_then ?_
     refine aw_true rfl ?_
     refine aw_r [] [0, 1, 2, 7, 10, 11] [] [slLI false table, I i, I j, I (min least (at_ (at_ table ((i - 0).toNat)) ((j - 1).toNat))), .agg [I 1, I 1, I 1, I 0, I 0, I 1], I 2] [] [(0 : Int) ≤ 0 ∧ 0 < (2 : Int), inR .i64 (i - 0), (0 : Int) ≤ (i - 0) ∧ (i - 0) < (table.length : Int), (0 : Int) ≤ 1 ∧ 1 < (2 : Int), inR .i64 (j - 1), (0 : Int) ≤ (j - 1) ∧ (j - 1) < (((at_ table ((i - 0).toNat)).length) : Int)] hB ⟨⟨by decide, by decide⟩, (inR_i64 (by omega) (by omega)), ⟨(by omega), (by omega)⟩, ⟨by decide, by decide⟩, (inR_i64 (by omega) (by omega)), ⟨(by omega), (by omega)⟩, trivial⟩ ?_
     refine ae_block 1 ?_
     refine ae_then ?_
     refine aw_r [] [0, 1, 2, 7, 10, 11] [] [slLI false table, I i, I j, I (min least (at_ (at_ table ((i - 0).toNat)) ((j - 1).toNat))), .agg [I 1, I 1, I 1, I 0, I 0, I 1], I (2 + 1)] [] [inR .i64 (2 + 1)] hB ⟨(inR_i64 (by omega) (by omega)), trivial⟩ ?_
     exact ae_again _ (by omega) ⟨(min least (at_ (at_ table ((i - 0).toNat)) ((j - 1).toNat))), (2 + 1), rfl, (by omega), (by rw [hl0]; first | (show _ = lb1 table i j; unfold lb1; first | (rw [if_pos (by omega)]; rfl) | (rw [if_neg (by omega)]; rfl)) | (show _ = lb2 table i j; unfold lb2; first | (rw [if_pos (by omega)]; rfl) | (rw [if_neg (by omega)]; rfl)) | (show _ = lb3 table i j; unfold lb3; first | (rw [if_pos (by omega)]; rfl) | (rw [if_neg (by omega)]; rfl))), rfl⟩
    refine aw_r [(3, .dec true), (8, .dec false)] [0, 1, 2, 7, 9, 10, 11, 23] [9] [slLI false table, I i, I j, I least, .ref 9 0, .agg [I 1, I 1, I 1, I 0, I 0, I 1], I 2, Bv false] [some (.box [I 0, I 1])] [(0 : Int) ≤ 0 ∧ 0 < (2 : Int), 0 ≤ i, (0 : Int) ≤ 1 ∧ 1 < (2 : Int), ¬ (1 ≤ j)] hB ⟨⟨by decide, by decide⟩, (by omega), ⟨by decide, by decide⟩, h5, trivial⟩ ?_
    refine ae_then ?_
    refine aw_false rfl ?_
    refine aw_skip ?_
    refine ae_block 1 ?_
    refine ae_then ?_
    refine aw_r [] [0, 1, 2, 7, 10, 11] [] [slLI false table, I i, I j, I least, .agg [I 1, I 1, I 1, I 0, I 0, I 1], I (2 + 1)] [] [inR .i64 (2 + 1)] hB ⟨(inR_i64 (by omega) (by omega)), trivial⟩ ?_
    exact ae_again _ (by omega) ⟨least, (2 + 1), rfl, (by omega), (by rw [hl0]; first | (show _ = lb1 table i j; unfold lb1; first | (rw [if_pos (by omega)]; rfl) | (rw [if_neg (by omega)]; rfl)) | (show _ = lb2 table i j; unfold lb2; first | (rw [if_pos (by omega)]; rfl) | (rw [if_neg (by omega)]; rfl)) | (show _ = lb3 table i j; unfold lb3; first | (rw [if_pos (by omega)]; rfl) | (rw [if_neg (by omega)]; rfl))), rfl⟩
  have hte : t11.toNat = 3 := by omega
  refine aw_r [(0, .dec false)] [0, 1, 2, 7, 10, 11, 12] [] [slLI false table, I i, I j, I least, .agg [I 1, I 1, I 1, I 0, I 0, I 1], I t11, Bv false] [] [¬ (t11 < 3)] hB ⟨h1, trivial⟩ ?_
  refine ae_then ?_
  refine aw_seq ?_
  refine aw_false rfl ?_
  refine aw_exit ?_
  refine ae_exit_then ?_
  refine ae_exit_then ?_
  refine ae_exit_same ?_
  refine ae_then ?_
  refine aR [] [6] [] [I least] [] [] hB trivial ?_
  refine aw_ret ?_
  refine ae_ret hB (I least) (by kernel_rfl) (.inl (by rw [hl0, hte]; rfl)) rfl (fun _ => trivial)



-- impl.featCost
theorem featCost_ok (a : Feat) (b : Feat) (ha : okF a = true) (hb : okF b = true) : Con Tryz.prog 167 [agFeat a, agFeat b] true (I (costF a b)) := by
  have ha' := okF_iff.1 ha
  have hb' := okF_iff.1 hb
  refine fn_ok (fn := Tryz.f167) (nt := 31) Tryz.func167 rfl rfl rfl rfl (by simp [taggedL, tagged]) fun B hB => ?_
  refine aR [(0, .new 2), (1, .new 3)] [2, 3] [2, 3] [.ref 2 0, .ref 3 0] [some (bxFeat a), some (bxFeat b)] [] hB trivial ?_
  refine aR [(5, .call [(true, .any)] true (I ((a.D - b.D).natAbs : Int)))] [2, 3, 5] [2, 3] [.ref 2 0, .ref 3 0, I ((a.D - b.D).natAbs : Int)] [some (bxFeat a), some (bxFeat b)] [inR .i64 (a.D - b.D), Con Tryz.prog 130 [I (a.D - b.D)] true (I ((a.D - b.D).natAbs : Int)) ∧ True] hB ⟨(inR_i64 (by omega) (by omega)), ⟨(abs_ok (a.D - b.D) (by omega)), trivial⟩, trivial⟩ ?_
  refine aR [(5, .call [(true, .any)] true (I ((a.X - b.X).natAbs : Int))), (11, .call [(true, .any)] true (I ((a.Y - b.Y).natAbs : Int)))] [4] [] [I ((((a.X - b.X).natAbs : Int) + ((a.Y - b.Y).natAbs : Int)) + (16 * (min ((a.D - b.D).natAbs : Int) (8 - ((a.D - b.D).natAbs : Int)))))] [] [inR .i64 (a.X - b.X), Con Tryz.prog 130 [I (a.X - b.X)] true (I ((a.X - b.X).natAbs : Int)) ∧ True, inR .i64 (a.Y - b.Y), Con Tryz.prog 130 [I (a.Y - b.Y)] true (I ((a.Y - b.Y).natAbs : Int)) ∧ True, inR .i64 (((a.X - b.X).natAbs : Int) + ((a.Y - b.Y).natAbs : Int)), inR .i64 (8 - ((a.D - b.D).natAbs : Int)), inR .i64 (16 * (min ((a.D - b.D).natAbs : Int) (8 - ((a.D - b.D).natAbs : Int)))), inR .i64 ((((a.X - b.X).natAbs : Int) + ((a.Y - b.Y).natAbs : Int)) + (16 * (min ((a.D - b.D).natAbs : Int) (8 - ((a.D - b.D).natAbs : Int)))))] hB ⟨(inR_i64 (by omega) (by omega)), ⟨(abs_ok (a.X - b.X) (by omega)), trivial⟩, (inR_i64 (by omega) (by omega)), ⟨(abs_ok (a.Y - b.Y) (by omega)), trivial⟩, (inR_i64 (by omega) (by omega)), (inR_i64 (by omega) (by omega)), (inR_i64 (by omega) (by omega)), (inR_i64 (by omega) (by omega)), trivial⟩ ?_
  refine aw_ret ?_
  refine ae_ret hB (I ((((a.X - b.X).natAbs : Int) + ((a.Y - b.Y).natAbs : Int)) + (16 * (min ((a.D - b.D).natAbs : Int) (8 - ((a.D - b.D).natAbs : Int)))))) (by kernel_rfl) (.inl (by refine congrArg I ?_; first | rfl | (unfold costF; omega))) rfl (fun _ => trivial)



def oLIc (F : Nat) (x : List Int) (i : Nat) : List AV := [.row F i]
def oLI (F : Nat) (xs : List (List Int)) (i : Nat) : List AV := oLIc F (at_ xs i) i
def mLI (xs : List (List Int)) (p : Nat) : Nat := (at_ xs p).length
def gLI (xs : List (List Int)) (p : Nat) : Nat → List AV := fI (at_ xs p)
abbrev tOLI (F : Nat) (xs : List (List Int)) : Ob := .oar [F] 1 xs.length (oLI F xs)
abbrev tFLI (xs : List (List Int)) : Ob := .fam xs.length 1 (mLI xs) (gLI xs)
theorem oleLI {ob : Nat → Option Ob} {F : Nat} (fr : Bool) (xs : List (List Int)) (h : ob F = some (.fam xs.length 1 (mLI xs) (gLI xs))) : ∀ i, i < xs.length → AV.idsL (fLI fr xs i) = [] ∧ leL ob true (oLI F xs i) (fLI fr xs i) :=
  fun i hi => And.intro rfl (And.intro (le_row h hi rfl (fun q _ => .inl rfl)) rfl)
theorem osetLI (F P : Nat) (xs : List (List Int)) (ys : List Int) (i : Nat) : oLI F xs i = oLI F (xs.set P ys) i := by
  unfold oLI
  by_cases h : P = i
  · subst h
    by_cases hl : P < xs.length
    · simp [at_, hl, oLIc]
    · rw [List.set_eq_of_length_le (by omega)]
  · simp [at_, h]
theorem fnilLI (n : Nat) {g : Nat → Nat → List AV} : n = (List.replicate n ([] : List Int)).length ∧ 1 = 1 ∧ ∀ p, p < (List.replicate n ([] : List Int)).length → (fun _ : Nat => (0 : Nat)) p = mLI (List.replicate n ([] : List Int)) p ∧ ∀ i, i < mLI (List.replicate n ([] : List Int)) p → g p i = gLI (List.replicate n ([] : List Int)) p i ∨ (AV.idsL (gLI (List.replicate n ([] : List Int)) p i) = [] ∧ leL (fun _ => none) false (g p i) (gLI (List.replicate n ([] : List Int)) p i)) := by
  refine ⟨by simp, rfl, fun p hp => ?_⟩
  have e : mLI (List.replicate n ([] : List Int)) p = 0 := by simp only [List.length_replicate] at hp; simp [mLI, at_, hp]
  exact ⟨e.symm, fun i hi => by rw [e] at hi; exact absurd hi (Nat.not_lt_zero _)⟩
theorem fputLI {xs : List (List Int)} {P m1 : Nat} {ys : List Int} {f1 : Nat → List AV} (hP : P < xs.length) (hm : m1 = ys.length) (hf : ∀ i, i < m1 → f1 i = fI ys i) : xs.length = (xs.set P ys).length ∧ 1 = 1 ∧ ∀ p, p < (xs.set P ys).length → famUp P m1 (mLI xs) p = mLI (xs.set P ys) p ∧ ∀ i, i < mLI (xs.set P ys) p → famUpF P f1 (gLI xs) p i = gLI (xs.set P ys) p i ∨ (AV.idsL (gLI (xs.set P ys) p i) = [] ∧ leL (fun _ => none) false (famUpF P f1 (gLI xs) p i) (gLI (xs.set P ys) p i)) := by
  refine ⟨by simp, rfl, fun p hp => ?_⟩
  by_cases h : p = P
  · subst h
    have e : at_ (xs.set p ys) p = ys := at_set_eq hP
    refine ⟨?_, fun i hi => .inl ?_⟩
    · simp only [famUp, Nat.beq_refl, cond_true, mLI, e]; exact hm
    · simp only [mLI, e] at hi; simp only [famUpF, Nat.beq_refl, cond_true, gLI, e]; exact hf i (by omega)
  · have e : at_ (xs.set P ys) p = at_ xs p := at_set_ne h
    have b := beq_ne h
    refine ⟨?_, fun i hi => .inl ?_⟩
    · simp only [famUp, b, cond_false, mLI, e]
    · simp only [famUpF, b, cond_false, gLI, e]
theorem fsetLI {xs : List (List Int)} {P k : Nat} {c : Int} {g' : Nat → Nat → List AV} (hP : P < xs.length) (hk : k < (at_ xs P).length) (h1 : g' P k = cI c) (h2 : ∀ i, i ≠ k → g' P i = gLI xs P i) (h3 : ∀ p, p ≠ P → g' p = gLI xs p) : xs.length = (xs.set P ((at_ xs P).set k c)).length ∧ 1 = 1 ∧ ∀ p, p < (xs.set P ((at_ xs P).set k c)).length → mLI xs p = mLI (xs.set P ((at_ xs P).set k c)) p ∧ ∀ i, i < mLI (xs.set P ((at_ xs P).set k c)) p → g' p i = gLI (xs.set P ((at_ xs P).set k c)) p i ∨ (AV.idsL (gLI (xs.set P ((at_ xs P).set k c)) p i) = [] ∧ leL (fun _ => none) false (g' p i) (gLI (xs.set P ((at_ xs P).set k c)) p i)) := by
  refine ⟨by simp, rfl, fun p hp => ?_⟩
  by_cases h : p = P
  · subst h
    have e2 : at_ (xs.set p ((at_ xs p).set k c)) p = ((at_ xs p).set k c) := at_set_eq hP
    have e3 : ((at_ xs p).set k c) = (at_ xs p).set k c := rfl
    simp only [mLI, gLI, e2, e3]
    refine ⟨by simp, fun i hi => .inl ?_⟩
    by_cases hi2 : i = k
    · subst hi2
      rw [h1]
      show _ = cI (at_ _ _)
      rw [at_set_eq hk]
    · rw [h2 i hi2]
      show cI (at_ _ _) = cI (at_ _ _)
      rw [at_set_ne hi2]
  · have e : at_ (xs.set P ((at_ xs P).set k c)) p = at_ xs p := at_set_ne h
    simp only [mLI, gLI, e]
    refine ⟨trivial, fun i hi => .inl ?_⟩
    rw [h3 p h]; rfl


-- impl.costTable
theorem costTable_ok (a : List Feat) (b : List Feat) (band : Int) (hab : okAB a b) (hbd : 0 ≤ band ∧ band ≤ 1000) : ∃ (v : List (List Int)), (tbOk a b band v a.length) ∧ Con Tryz.prog 131 [slFeat false a, slFeat false b, I band] true (slLI true v) := by
  have hla := hab.2.2
  have hh : ∃ r : (List (List Int)), ((tbOk a b band r a.length) ∧ (True)) ∧ CallOK Tryz.prog 131 [slFeat false a, slFeat false b, I band] (lookO []) true (slLI true r) (lookO []) := by
    refine fn_okX (Φ := fun r : (List (List Int)) => (tbOk a b band r a.length) ∧ (True)) [] (fun r => []) (fn := Tryz.f131) (nt := 76) Tryz.func131 rfl rfl (args := [slFeat false a, slFeat false b, I band]) rfl (allcons (.inl ⟨rfl, tagFeat false _⟩) (allcons (.inl ⟨rfl, tagFeat false _⟩) (allcons (.inl ⟨rfl, trivial⟩) allnil))) (res := fun r => slLI true r) ?_
    refine xR [] [0, 1, 2] [] [slFeat false a, slFeat false b, I band] [] [] trivial ?_
    refine xR [(2, .new 13)] [0, 1, 2, 7] [13] [slFeat false a, slFeat false b, I band, .arr 13] [some (.arr 1 ((a.length : Int).toNat) (fun _ => [nilA]))] [(0 : Int) ≤ (a.length : Int) ∧ ((a.length : Int) : Int) ≤ (a.length : Int) ∧ (24 : Int) * (a.length : Int) ≤ 281474976710656 ∧ (a.length : Int) ≤ 9223372036854775807] ⟨⟨(by omega), (by omega), (by omega), (by omega)⟩, trivial⟩ ?_
    refine x_seq ?_
    refine xR [] [0, 1, 2, 7, 15, 16] [13] [slFeat false a, slFeat false b, I band, .arr 13, I (a.length : Int), I 0] [some (.arr 1 ((a.length : Int).toNat) (fun _ => [nilA]))] [] trivial ?_
    refine x_block ?_
    refine x_famN 13 8401 1 rfl (fun q _ => ⟨_, rfl, rfl⟩) (by kernel_rfl) ?_
    refine x_weak [] (T := [(0, slFeat false a), (1, slFeat false b), (2, I band), (7, .arr 13), (15, I (a.length : Int)), (16, I 0)]) (O := [(13, tOLI 8401 (List.replicate ((a.length : Int).toNat) ([] : List Int))), (8401, tFLI (List.replicate ((a.length : Int).toNat) ([] : List Int)))]) rfl (⟨.inl rfl, .inl rfl, .inl rfl, .inl rfl, .inl rfl, .inl rfl, trivial⟩) (⟨.inr ⟨rfl, rfl, (by simp), fun i hi => .inl rfl⟩, .inr (fnilLI ((a.length : Int).toNat)), trivial⟩) ?_
    refine x_loop (X := Int × (List (List Int))) (fun x => mkS [(0, slFeat false a), (1, slFeat false b), (2, I band), (7, .arr 13), (15, I (a.length : Int)), (16, I x.1)] [(13, tOLI 8401 x.2), (8401, tFLI x.2)]) (fun x => (0 ≤ x.1 ∧ x.1 ≤ (a.length : Int)) ∧ (tbOk a b band x.2 x.1.toNat) ∧ True) (fun x => ((a.length : Int) - x.1).toNat) (0, (List.replicate ((a.length : Int).toNat) ([] : List Int))) rfl (show (0 ≤ (0 : Int) ∧ (0 : Int) ≤ (a.length : Int)) ∧ (tbOk a b band (List.replicate ((a.length : Int).toNat) ([] : List Int)) (0 : Int).toNat) ∧ True from ⟨(by omega), (by exact tb_nil a b band (by first | rfl | omega | simp)), trivial⟩) (fun x hI => ?_)
    obtain ⟨t16, tb⟩ := x
    obtain ⟨hi0, htb, _⟩ : (0 ≤ t16 ∧ t16 ≤ (a.length : Int)) ∧ (tbOk a b band tb t16.toNat) ∧ True := hI
    show XW _ _ _ _ (mkS [(0, slFeat false a), (1, slFeat false b), (2, I band), (7, .arr 13), (15, I (a.length : Int)), (16, I t16)] [(13, tOLI 8401 tb), (8401, tFLI tb)]) _ _
    refine x_seq ?_
    by_cases h1 : t16 < (a.length : Int)
    ·have hi : t16.toNat < a.length := by omega
     have hix : ((t16.toNat : Nat) : Int) = t16 := by omega
     have htl := htb.1
     refine x_r [(0, .dec true)] [0, 1, 2, 7, 15, 16, 17] [13, 8401] [slFeat false a, slFeat false b, I band, .arr 13, I (a.length : Int), I t16, Bv true] [some (tOLI 8401 tb), some (tFLI tb)] [t16 < (a.length : Int)] ⟨h1, trivial⟩ ?_
     refine xe_then ?_
     refine x_seq ?_
     refine x_true rfl ?_
     refine x_skip ?_
     refine xe_then ?_
     refine x_seq ?_
     refine x_block ?_
     refine xR [] [0, 1, 2, 7, 8, 15, 16] [13, 8401] [slFeat false a, slFeat false b, I band, .arr 13, I t16, I (a.length : Int), I t16] [some (tOLI 8401 tb), some (tFLI tb)] [] trivial ?_
     refine xR [(4, .new 23)] [0, 1, 2, 7, 8, 15, 16] [13, 23, 8401] [slFeat false a, slFeat false b, I band, .arr 13, I t16, I (a.length : Int), I t16] [some (.oar [8401, 23] 1 tb.length (fun q => bif Nat.beq q t16.toNat then [.arr 23] else (oLI 8401 tb) q)), some (.arr 1 ((b.length : Int).toNat) (fun _ => [I 0])), some (tFLI tb)] [(0 : Int) ≤ (b.length : Int) ∧ ((b.length : Int) : Int) ≤ (b.length : Int) ∧ (8 : Int) * (b.length : Int) ≤ 281474976710656 ∧ (b.length : Int) ≤ 9223372036854775807, (0 : Int) ≤ t16 ∧ t16 < (tb.length : Int), t16.toNat < tb.length] ⟨⟨(by omega), (by omega), (by omega), (by omega)⟩, ⟨(by omega), (by omega)⟩, (by omega), trivial⟩ ?_
     refine x_seq ?_
     refine x_putrow 13 23 8401 t16.toNat rfl rfl rfl ((by omega)) (by first | exact Nat.le_refl _ | omega) (fun q _ => ⟨fun e => by subst e; simp only [Nat.beq_refl, cond_true], fun e => by simp only [beq_ne e, cond_false]; rfl⟩) (by kernel_rfl) ?_
     refine x_weak [] (T := [(0, slFeat false a), (1, slFeat false b), (2, I band), (7, .arr 13), (8, I t16), (15, I (a.length : Int)), (16, I t16)]) (O := [(13, tOLI 8401 (tb.set t16.toNat (List.replicate ((b.length : Int).toNat) (0 : Int)))), (8401, tFLI (tb.set t16.toNat (List.replicate ((b.length : Int).toNat) (0 : Int))))]) rfl (⟨.inl rfl, .inl rfl, .inl rfl, .inl rfl, .inl rfl, .inl rfl, .inl rfl, trivial⟩) (⟨.inr ⟨rfl, rfl, (by simp), fun i hi => .inl rfl⟩, .inr (fputLI ((by omega)) (by first | rfl | (simp; done) | (simp; omega)) (fun i_ h_ => (show ∀ i_ : Nat, i_ < ((List.replicate ((b.length : Int).toNat) (0 : Int)) : List Int).length → (fun _ => [I 0]) i_ = (fI (List.replicate ((b.length : Int).toNat) (0 : Int))) i_ from fun i_ hi_ => (const_enc (enc := cI) rfl i_ hi_)) i_ (by first | exact h_ | (simpa using h_)))), trivial⟩) ?_
     refine x_r [] [0, 1, 2, 7, 8, 15, 16, 26, 27] [13, 8401] [slFeat false a, slFeat false b, I band, .arr 13, I t16, I (a.length : Int), I t16, I (b.length : Int), I 0] [some (tOLI 8401 (tb.set t16.toNat (List.replicate ((b.length : Int).toNat) (0 : Int)))), some (tFLI (tb.set t16.toNat (List.replicate ((b.length : Int).toNat) (0 : Int))))] [] trivial ?_
     refine xe_then ?_
     refine x_block ?_
     refine x_loop (X := Int × (List (List Int))) (fun x => mkS [(0, slFeat false a), (1, slFeat false b), (2, I band), (7, .arr 13), (8, I t16), (15, I (a.length : Int)), (16, I t16), (26, I (b.length : Int)), (27, I x.1)] [(13, tOLI 8401 x.2), (8401, tFLI x.2)]) (fun x => (0 ≤ x.1 ∧ x.1 ≤ (b.length : Int)) ∧ (tbOk a b band x.2 t16.toNat ∧ rowOk a b band (at_ x.2 t16.toNat) t16.toNat x.1.toNat) ∧ True) (fun x => ((b.length : Int) - x.1).toNat) (0, (tb.set t16.toNat (List.replicate ((b.length : Int).toNat) (0 : Int)))) rfl (show (0 ≤ (0 : Int) ∧ (0 : Int) ≤ (b.length : Int)) ∧ (tbOk a b band (tb.set t16.toNat (List.replicate ((b.length : Int).toNat) (0 : Int))) t16.toNat ∧ rowOk a b band (at_ (tb.set t16.toNat (List.replicate ((b.length : Int).toNat) (0 : Int))) t16.toNat) t16.toNat (0 : Int).toNat) ∧ True from ⟨(by omega), (by exact tb_row htb hi (by first | rfl | omega | simp)), trivial⟩) (fun x hI => ?_)
     obtain ⟨t27, tb'⟩ := x
     obtain ⟨hj0, hin, _⟩ : (0 ≤ t27 ∧ t27 ≤ (b.length : Int)) ∧ (tbOk a b band tb' t16.toNat ∧ rowOk a b band (at_ tb' t16.toNat) t16.toNat t27.toNat) ∧ True := hI
     show XW _ _ _ _ (mkS [(0, slFeat false a), (1, slFeat false b), (2, I band), (7, .arr 13), (8, I t16), (15, I (a.length : Int)), (16, I t16), (26, I (b.length : Int)), (27, I t27)] [(13, tOLI 8401 tb'), (8401, tFLI tb')]) _ _
     refine x_seq ?_
     by_cases h2 : t27 < (b.length : Int)
     ·have hj : t27.toNat < b.length := by omega
      have hcb := costF_bd (hab.1 _ hi) (hab.2.1 _ hj)
      have hjx : ((t27.toNat : Nat) : Int) = t27 := by omega
      have htl2 := hin.1.1
      have htl3 := hin.2.1
      have hlb := lb_at hab hin.1 hin.2 hi hj
      rw [hix, hjx] at hlb
      have hrl : 1 ≤ t16 → ((at_ tb' (t16 - 1).toNat).length : Int) = b.length := fun q => by rw [(hin.1.2 (t16 - 1).toNat (by omega)).1]
      have hrz : (t16 - 0).toNat = t16.toNat := by omega
      refine x_r [(0, .dec true)] [0, 1, 2, 7, 8, 15, 16, 26, 27, 28] [13, 8401] [slFeat false a, slFeat false b, I band, .arr 13, I t16, I (a.length : Int), I t16, I (b.length : Int), I t27, Bv true] [some (tOLI 8401 tb'), some (tFLI tb')] [t27 < (b.length : Int)] ⟨h2, trivial⟩ ?_
      refine xe_then ?_
      refine x_seq ?_
      refine x_true rfl ?_
      refine x_skip ?_
      refine xe_then ?_
      refine x_seq ?_
      refine x_block ?_
      refine xR [] [0, 1, 2, 7, 8, 9, 15, 16, 26, 27] [13, 8401] [slFeat false a, slFeat false b, I band, .arr 13, I t16, I t27, I (a.length : Int), I t16, I (b.length : Int), I t27] [some (tOLI 8401 tb'), some (tFLI tb')] [] trivial ?_
      refine xR [(3, .call [(false, slLI false tb'), (true, .any), (true, .any)] true (I (lb3 tb' t16 t27)))] [0, 1, 2, 7, 8, 9, 10, 15, 16, 26, 27] [13, 8401] [slFeat false a, slFeat false b, I band, .arr 13, I t16, I t27, I (lb3 tb' t16 t27), I (a.length : Int), I t16, I (b.length : Int), I t27] [some (tOLI 8401 tb'), some (tFLI tb')] [Con Tryz.prog 166 [slLI false tb', I t16, I t27] true (I (lb3 tb' t16 t27)) ∧ ((false = true → true = true) ∧ 1 = 1 ∧ tb'.length = tb'.length ∧ ∀ i_, i_ < tb'.length → AV.idsL ((fLI false tb') i_) = [] ∧ leL (lookO [(8401, tFLI tb')]) true ((oLI 8401 tb') i_) ((fLI false tb') i_)) ∧ True] ⟨⟨(leastBefore_ok tb' t16 t27 (by omega) (by omega) (fun q => by have := hrl q; omega) (fun q => by rw [hrz]; omega)), ⟨(fun h => by cases h), rfl, rfl, oleLI _ _ rfl⟩, trivial⟩, trivial⟩ ?_
      refine x_seq ?_
      refine x_seq ?_
      by_cases h3 : t16 = 0
      ·by_cases h4 : t27 = 0
       ·refine x_r [(1, .dec true), (4, .dec true)] [0, 1, 2, 7, 8, 9, 10, 15, 16, 26, 27, 39] [13, 8401] [slFeat false a, slFeat false b, I band, .arr 13, I t16, I t27, I (lb3 tb' t16 t27), I (a.length : Int), I t16, I (b.length : Int), I t27, Bv true] [some (tOLI 8401 tb'), some (tFLI tb')] [t16 = 0, t27 = 0] ⟨h3, h4, trivial⟩ ?_
        refine xe_then ?_
        refine x_true rfl ?_
        refine x_r [] [0, 1, 2, 7, 8, 9, 10, 15, 16, 26, 27] [13, 8401] [slFeat false a, slFeat false b, I band, .arr 13, I t16, I t27, I 0, I (a.length : Int), I t16, I (b.length : Int), I t27] [some (tOLI 8401 tb'), some (tFLI tb')] [] trivial ?_
        refine xe_then ?_
        refine x_seq ?_
        by_cases h5 : band < ((t16 - t27).natAbs : Int)
        ·refine x_r [(3, .call [(true, .any)] true (I ((t16 - t27).natAbs : Int))), (5, .dec true)] [0, 1, 2, 7, 8, 9, 10, 15, 16, 26, 27, 49] [13, 8401] [slFeat false a, slFeat false b, I band, .arr 13, I t16, I t27, I 0, I (a.length : Int), I t16, I (b.length : Int), I t27, Bv true] [some (tOLI 8401 tb'), some (tFLI tb')] [inR .i64 (t16 - t27), Con Tryz.prog 130 [I (t16 - t27)] true (I ((t16 - t27).natAbs : Int)) ∧ True, band < ((t16 - t27).natAbs : Int)] ⟨(inR_i64 (by omega) (by omega)), ⟨(abs_ok (t16 - t27) (by omega)), trivial⟩, h5, trivial⟩ ?_
         refine xe_then ?_
         refine x_true rfl ?_
         refine x_r [] [0, 1, 2, 7, 8, 15, 16, 26, 27] [13, 8401] [slFeat false a, slFeat false b, I band, .arr 13, I t16, I (a.length : Int), I t16, I (b.length : Int), I t27] [some (tOLI 8401 tb'), some (.fam tb'.length 1 (mLI tb') (fun q => bif Nat.beq q t16.toNat then (fun q => bif Nat.beq q t27.toNat then [I 1099511627776] else (gLI tb') t16.toNat q) else (gLI tb') q))] [(0 : Int) ≤ t16 ∧ t16 < (tb'.length : Int), t16.toNat < tb'.length, t16.toNat < tb'.length ∧ (0 : Int) ≤ t27 ∧ t27 < (((at_ tb' t16.toNat).length) : Int), t16.toNat < tb'.length ∧ t27.toNat < (at_ tb' t16.toNat).length] ⟨⟨(by omega), (by omega)⟩, (by omega), ⟨(by omega), (by omega), (by omega)⟩, ⟨(by omega), (by omega)⟩, trivial⟩ ?_
         refine xe_block 3 ?_
         refine xe_then ?_
         refine x_weak [] (T := [(0, slFeat false a), (1, slFeat false b), (2, I band), (7, .arr 13), (8, I t16), (15, I (a.length : Int)), (16, I t16), (26, I (b.length : Int)), (27, I t27)]) (O := [(13, tOLI 8401 (tb'.set t16.toNat ((at_ tb' t16.toNat).set t27.toNat 1099511627776))), (8401, tFLI (tb'.set t16.toNat ((at_ tb' t16.toNat).set t27.toNat 1099511627776)))]) rfl (⟨.inl rfl, .inl rfl, .inl rfl, .inl rfl, .inl rfl, .inl rfl, .inl rfl, .inl rfl, .inl rfl, trivial⟩) (⟨.inr ⟨rfl, rfl, (by first | rfl | (simp; done) | omega), fun i_ hi_ => .inl (osetLI 8401 t16.toNat tb' ((at_ tb' t16.toNat).set t27.toNat 1099511627776) i_)⟩, .inr (fsetLI (P := t16.toNat) (k := t27.toNat) ((by omega)) ((by omega)) (by simp only [Nat.beq_refl, cond_true]; try rfl) (by intro i hi; simp only [Nat.beq_refl, cond_true, beq_ne hi, cond_false]; try rfl) (by intro p hp; simp only [beq_ne hp, cond_false])), trivial⟩) ?_
         refine x_r [] [0, 1, 2, 7, 8, 15, 16, 26, 27] [13, 8401] [slFeat false a, slFeat false b, I band, .arr 13, I t16, I (a.length : Int), I t16, I (b.length : Int), I (t27 + 1)] [some (tOLI 8401 (tb'.set t16.toNat ((at_ tb' t16.toNat).set t27.toNat 1099511627776))), some (tFLI (tb'.set t16.toNat ((at_ tb' t16.toNat).set t27.toNat 1099511627776)))] [inR .i64 (t27 + 1)] ⟨(inR_i64 (by omega) (by omega)), trivial⟩ ?_
         exact xe_again ((t27 + 1), (tb'.set t16.toNat ((at_ tb' t16.toNat).set t27.toNat 1099511627776))) rfl (show (0 ≤ (t27 + 1) ∧ (t27 + 1) ≤ (b.length : Int)) ∧ (tbOk a b band (tb'.set t16.toNat ((at_ tb' t16.toNat).set t27.toNat 1099511627776)) t16.toNat ∧ rowOk a b band (at_ (tb'.set t16.toNat ((at_ tb' t16.toNat).set t27.toNat 1099511627776)) t16.toNat) t16.toNat (t27 + 1).toNat) ∧ True from ⟨(by omega), (by rw [show (t27 + 1).toNat = t27.toNat + 1 from by omega]; exact tb_step hin.1 hin.2 hi hj (by rw [hlb.2]; first | exact (stp_far (by first | (left; rw [hix, hjx]; omega) | (right; (try rw [if_neg (by omega)]); (try rw [if_pos (by omega)]); omega))).symm | (rw [stp_add (by rw [hix, hjx]; omega) (by first | (rw [if_neg (by omega)]; omega) | (rw [if_pos (by omega)]; decide))]; first | rw [if_neg (by omega)] | rw [if_pos (by omega)]))), trivial⟩) (by first | (show (((b.length : Int) - (t27 + 1)).toNat : Nat) < ((b.length : Int) - t27).toNat; omega) | (dsimp only; omega))
        refine x_r [(3, .call [(true, .any)] true (I ((t16 - t27).natAbs : Int))), (5, .dec false), (8, .dec false)] [0, 1, 2, 7, 8, 9, 10, 15, 16, 26, 27, 49] [13, 8401] [slFeat false a, slFeat false b, I band, .arr 13, I t16, I t27, I 0, I (a.length : Int), I t16, I (b.length : Int), I t27, Bv false] [some (tOLI 8401 tb'), some (tFLI tb')] [inR .i64 (t16 - t27), Con Tryz.prog 130 [I (t16 - t27)] true (I ((t16 - t27).natAbs : Int)) ∧ True, ¬ (band < ((t16 - t27).natAbs : Int)), ¬ ((1099511627776 : Int) ≤ 0)] ⟨(inR_i64 (by omega) (by omega)), ⟨(abs_ok (t16 - t27) (by omega)), trivial⟩, h5, (by decide), trivial⟩ ?_
        refine xe_then ?_
        refine x_false rfl ?_
        refine x_r [(14, .call [(true, .any), (true, .any)] true (I (costF (at_ a t16.toNat) (at_ b t27.toNat))))] [0, 1, 2, 7, 8, 15, 16, 26, 27] [13, 8401] [slFeat false a, slFeat false b, I band, .arr 13, I t16, I (a.length : Int), I t16, I (b.length : Int), I t27] [some (tOLI 8401 tb'), some (.fam tb'.length 1 (mLI tb') (fun q => bif Nat.beq q t16.toNat then (fun q => bif Nat.beq q t27.toNat then [I (0 + (costF (at_ a t16.toNat) (at_ b t27.toNat)))] else (gLI tb') t16.toNat q) else (gLI tb') q))] [(0 : Int) ≤ t16 ∧ t16 < (tb'.length : Int), t16.toNat < tb'.length, (0 : Int) ≤ t16 ∧ t16 < (a.length : Int), (0 : Int) ≤ t27 ∧ t27 < (b.length : Int), Con Tryz.prog 167 [agFeat (at_ a t16.toNat), agFeat (at_ b t27.toNat)] true (I (costF (at_ a t16.toNat) (at_ b t27.toNat))) ∧ True, inR .i64 (0 + (costF (at_ a t16.toNat) (at_ b t27.toNat))), t16.toNat < tb'.length ∧ (0 : Int) ≤ t27 ∧ t27 < (((at_ tb' t16.toNat).length) : Int), t16.toNat < tb'.length ∧ t27.toNat < (at_ tb' t16.toNat).length] ⟨⟨(by omega), (by omega)⟩, (by omega), ⟨(by omega), (by omega)⟩, ⟨(by omega), (by omega)⟩, ⟨(featCost_ok (at_ a t16.toNat) (at_ b t27.toNat) (by first | exact hab.1 _ (by omega) | exact hab.2.1 _ (by omega)) (by first | exact hab.1 _ (by omega) | exact hab.2.1 _ (by omega))), trivial⟩, (inR_i64 (by omega) (by omega)), ⟨(by omega), (by omega), (by omega)⟩, ⟨(by omega), (by omega)⟩, trivial⟩ ?_
        refine xe_block 3 ?_
        refine xe_then ?_
        refine x_weak [] (T := [(0, slFeat false a), (1, slFeat false b), (2, I band), (7, .arr 13), (8, I t16), (15, I (a.length : Int)), (16, I t16), (26, I (b.length : Int)), (27, I t27)]) (O := [(13, tOLI 8401 (tb'.set t16.toNat ((at_ tb' t16.toNat).set t27.toNat (0 + (costF (at_ a t16.toNat) (at_ b t27.toNat)))))), (8401, tFLI (tb'.set t16.toNat ((at_ tb' t16.toNat).set t27.toNat (0 + (costF (at_ a t16.toNat) (at_ b t27.toNat))))))]) rfl (⟨.inl rfl, .inl rfl, .inl rfl, .inl rfl, .inl rfl, .inl rfl, .inl rfl, .inl rfl, .inl rfl, trivial⟩) (⟨.inr ⟨rfl, rfl, (by first | rfl | (simp; done) | omega), fun i_ hi_ => .inl (osetLI 8401 t16.toNat tb' ((at_ tb' t16.toNat).set t27.toNat (0 + (costF (at_ a t16.toNat) (at_ b t27.toNat)))) i_)⟩, .inr (fsetLI (P := t16.toNat) (k := t27.toNat) ((by omega)) ((by omega)) (by simp only [Nat.beq_refl, cond_true]; try rfl) (by intro i hi; simp only [Nat.beq_refl, cond_true, beq_ne hi, cond_false]; try rfl) (by intro p hp; simp only [beq_ne hp, cond_false])), trivial⟩) ?_
        refine x_r [] [0, 1, 2, 7, 8, 15, 16, 26, 27] [13, 8401] [slFeat false a, slFeat false b, I band, .arr 13, I t16, I (a.length : Int), I t16, I (b.length : Int), I (t27 + 1)] [some (tOLI 8401 (tb'.set t16.toNat ((at_ tb' t16.toNat).set t27.toNat (0 + (costF (at_ a t16.toNat) (at_ b t27.toNat)))))), some (tFLI (tb'.set t16.toNat ((at_ tb' t16.toNat).set t27.toNat (0 + (costF (at_ a t16.toNat) (at_ b t27.toNat))))))] [inR .i64 (t27 + 1)] ⟨(inR_i64 (by omega) (by omega)), trivial⟩ ?_
        exact xe_again ((t27 + 1), (tb'.set t16.toNat ((at_ tb' t16.toNat).set t27.toNat (0 + (costF (at_ a t16.toNat) (at_ b t27.toNat)))))) rfl (show (0 ≤ (t27 + 1) ∧ (t27 + 1) ≤ (b.length : Int)) ∧ (tbOk a b band (tb'.set t16.toNat ((at_ tb' t16.toNat).set t27.toNat (0 + (costF (at_ a t16.toNat) (at_ b t27.toNat))))) t16.toNat ∧ rowOk a b band (at_ (tb'.set t16.toNat ((at_ tb' t16.toNat).set t27.toNat (0 + (costF (at_ a t16.toNat) (at_ b t27.toNat))))) t16.toNat) t16.toNat (t27 + 1).toNat) ∧ True from ⟨(by omega), (by rw [show (t27 + 1).toNat = t27.toNat + 1 from by omega]; exact tb_step hin.1 hin.2 hi hj (by rw [hlb.2]; first | exact (stp_far (by first | (left; rw [hix, hjx]; omega) | (right; (try rw [if_neg (by omega)]); (try rw [if_pos (by omega)]); omega))).symm | (rw [stp_add (by rw [hix, hjx]; omega) (by first | (rw [if_neg (by omega)]; omega) | (rw [if_pos (by omega)]; decide))]; first | rw [if_neg (by omega)] | rw [if_pos (by omega)]))), trivial⟩) (by first | (show (((b.length : Int) - (t27 + 1)).toNat : Nat) < ((b.length : Int) - t27).toNat; omega) | (dsimp only; omega))
       refine x_r [(1, .dec true), (4, .dec false)] [0, 1, 2, 7, 8, 9, 10, 15, 16, 26, 27, 39] [13, 8401] [slFeat false a, slFeat false b, I band, .arr 13, I t16, I t27, I (lb3 tb' t16 t27), I (a.length : Int), I t16, I (b.length : Int), I t27, Bv false] [some (tOLI 8401 tb'), some (tFLI tb')] [t16 = 0, ¬ (t27 = 0)] ⟨h3, h4, trivial⟩ ?_
       refine xe_then ?_
       refine x_false rfl ?_
       refine x_skip ?_
       refine xe_then ?_
       refine x_seq ?_
       by_cases h6 : band < ((t16 - t27).natAbs : Int)
       ·refine x_r [(3, .call [(true, .any)] true (I ((t16 - t27).natAbs : Int))), (5, .dec true)] [0, 1, 2, 7, 8, 9, 10, 15, 16, 26, 27, 49] [13, 8401] [slFeat false a, slFeat false b, I band, .arr 13, I t16, I t27, I (lb3 tb' t16 t27), I (a.length : Int), I t16, I (b.length : Int), I t27, Bv true] [some (tOLI 8401 tb'), some (tFLI tb')] [inR .i64 (t16 - t27), Con Tryz.prog 130 [I (t16 - t27)] true (I ((t16 - t27).natAbs : Int)) ∧ True, band < ((t16 - t27).natAbs : Int)] ⟨(inR_i64 (by omega) (by omega)), ⟨(abs_ok (t16 - t27) (by omega)), trivial⟩, h6, trivial⟩ ?_
        refine xe_then ?_
        refine x_true rfl ?_
        refine x_r [] [0, 1, 2, 7, 8, 15, 16, 26, 27] [13, 8401] [slFeat false a, slFeat false b, I band, .arr 13, I t16, I (a.length : Int), I t16, I (b.length : Int), I t27] [some (tOLI 8401 tb'), some (.fam tb'.length 1 (mLI tb') (fun q => bif Nat.beq q t16.toNat then (fun q => bif Nat.beq q t27.toNat then [I 1099511627776] else (gLI tb') t16.toNat q) else (gLI tb') q))] [(0 : Int) ≤ t16 ∧ t16 < (tb'.length : Int), t16.toNat < tb'.length, t16.toNat < tb'.length ∧ (0 : Int) ≤ t27 ∧ t27 < (((at_ tb' t16.toNat).length) : Int), t16.toNat < tb'.length ∧ t27.toNat < (at_ tb' t16.toNat).length] ⟨⟨(by omega), (by omega)⟩, (by omega), ⟨(by omega), (by omega), (by omega)⟩, ⟨(by omega), (by omega)⟩, trivial⟩ ?_
        refine xe_block 3 ?_
        refine xe_then ?_
        refine x_weak [] (T := [(0, slFeat false a), (1, slFeat false b), (2, I band), (7, .arr 13), (8, I t16), (15, I (a.length : Int)), (16, I t16), (26, I (b.length : Int)), (27, I t27)]) (O := [(13, tOLI 8401 (tb'.set t16.toNat ((at_ tb' t16.toNat).set t27.toNat 1099511627776))), (8401, tFLI (tb'.set t16.toNat ((at_ tb' t16.toNat).set t27.toNat 1099511627776)))]) rfl (⟨.inl rfl, .inl rfl, .inl rfl, .inl rfl, .inl rfl, .inl rfl, .inl rfl, .inl rfl, .inl rfl, trivial⟩) (⟨.inr ⟨rfl, rfl, (by first | rfl | (simp; done) | omega), fun i_ hi_ => .inl (osetLI 8401 t16.toNat tb' ((at_ tb' t16.toNat).set t27.toNat 1099511627776) i_)⟩, .inr (fsetLI (P := t16.toNat) (k := t27.toNat) ((by omega)) ((by omega)) (by simp only [Nat.beq_refl, cond_true]; try rfl) (by intro i hi; simp only [Nat.beq_refl, cond_true, beq_ne hi, cond_false]; try rfl) (by intro p hp; simp only [beq_ne hp, cond_false])), trivial⟩) ?_
        refine x_r [] [0, 1, 2, 7, 8, 15, 16, 26, 27] [13, 8401] [slFeat false a, slFeat false b, I band, .arr 13, I t16, I (a.length : Int), I t16, I (b.length : Int), I (t27 + 1)] [some (tOLI 8401 (tb'.set t16.toNat ((at_ tb' t16.toNat).set t27.toNat 1099511627776))), some (tFLI (tb'.set t16.toNat ((at_ tb' t16.toNat).set t27.toNat 1099511627776)))] [inR .i64 (t27 + 1)] ⟨(inR_i64 (by omega) (by omega)), trivial⟩ ?_
        exact xe_again ((t27 + 1), (tb'.set t16.toNat ((at_ tb' t16.toNat).set t27.toNat 1099511627776))) rfl (show (0 ≤ (t27 + 1) ∧ (t27 + 1) ≤ (b.length : Int)) ∧ (tbOk a b band (tb'.set t16.toNat ((at_ tb' t16.toNat).set t27.toNat 1099511627776)) t16.toNat ∧ rowOk a b band (at_ (tb'.set t16.toNat ((at_ tb' t16.toNat).set t27.toNat 1099511627776)) t16.toNat) t16.toNat (t27 + 1).toNat) ∧ True from ⟨(by omega), (by rw [show (t27 + 1).toNat = t27.toNat + 1 from by omega]; exact tb_step hin.1 hin.2 hi hj (by rw [hlb.2]; first | exact (stp_far (by first | (left; rw [hix, hjx]; omega) | (right; (try rw [if_neg (by omega)]); (try rw [if_pos (by omega)]); omega))).symm | (rw [stp_add (by rw [hix, hjx]; omega) (by first | (rw [if_neg (by omega)]; omega) | (rw [if_pos (by omega)]; decide))]; first | rw [if_neg (by omega)] | rw [if_pos (by omega)]))), trivial⟩) (by first | (show (((b.length : Int) - (t27 + 1)).toNat : Nat) < ((b.length : Int) - t27).toNat; omega) | (dsimp only; omega))
       by_cases h7 : 1099511627776 ≤ (lb3 tb' t16 t27)
       ·refine x_r [(3, .call [(true, .any)] true (I ((t16 - t27).natAbs : Int))), (5, .dec false), (8, .dec true)] [0, 1, 2, 7, 8, 9, 10, 15, 16, 26, 27, 49] [13, 8401] [slFeat false a, slFeat false b, I band, .arr 13, I t16, I t27, I (lb3 tb' t16 t27), I (a.length : Int), I t16, I (b.length : Int), I t27, Bv true] [some (tOLI 8401 tb'), some (tFLI tb')] [inR .i64 (t16 - t27), Con Tryz.prog 130 [I (t16 - t27)] true (I ((t16 - t27).natAbs : Int)) ∧ True, ¬ (band < ((t16 - t27).natAbs : Int)), 1099511627776 ≤ (lb3 tb' t16 t27)] ⟨(inR_i64 (by omega) (by omega)), ⟨(abs_ok (t16 - t27) (by omega)), trivial⟩, h6, h7, trivial⟩ ?_
        refine xe_then ?_
        refine x_true rfl ?_
        refine x_r [] [0, 1, 2, 7, 8, 15, 16, 26, 27] [13, 8401] [slFeat false a, slFeat false b, I band, .arr 13, I t16, I (a.length : Int), I t16, I (b.length : Int), I t27] [some (tOLI 8401 tb'), some (.fam tb'.length 1 (mLI tb') (fun q => bif Nat.beq q t16.toNat then (fun q => bif Nat.beq q t27.toNat then [I 1099511627776] else (gLI tb') t16.toNat q) else (gLI tb') q))] [(0 : Int) ≤ t16 ∧ t16 < (tb'.length : Int), t16.toNat < tb'.length, t16.toNat < tb'.length ∧ (0 : Int) ≤ t27 ∧ t27 < (((at_ tb' t16.toNat).length) : Int), t16.toNat < tb'.length ∧ t27.toNat < (at_ tb' t16.toNat).length] ⟨⟨(by omega), (by omega)⟩, (by omega), ⟨(by omega), (by omega), (by omega)⟩, ⟨(by omega), (by omega)⟩, trivial⟩ ?_
        refine xe_block 3 ?_
        refine xe_then ?_
        refine x_weak [] (T := [(0, slFeat false a), (1, slFeat false b), (2, I band), (7, .arr 13), (8, I t16), (15, I (a.length : Int)), (16, I t16), (26, I (b.length : Int)), (27, I t27)]) (O := [(13, tOLI 8401 (tb'.set t16.toNat ((at_ tb' t16.toNat).set t27.toNat 1099511627776))), (8401, tFLI (tb'.set t16.toNat ((at_ tb' t16.toNat).set t27.toNat 1099511627776)))]) rfl (⟨.inl rfl, .inl rfl, .inl rfl, .inl rfl, .inl rfl, .inl rfl, .inl rfl, .inl rfl, .inl rfl, trivial⟩) (⟨.inr ⟨rfl, rfl, (by first | rfl | (simp; done) | omega), fun i_ hi_ => .inl (osetLI 8401 t16.toNat tb' ((at_ tb' t16.toNat).set t27.toNat 1099511627776) i_)⟩, .inr (fsetLI (P := t16.toNat) (k := t27.toNat) ((by omega)) ((by omega)) (by simp only [Nat.beq_refl, cond_true]; try rfl) (by intro i hi; simp only [Nat.beq_refl, cond_true, beq_ne hi, cond_false]; try rfl) (by intro p hp; simp only [beq_ne hp, cond_false])), trivial⟩) ?_
        refine x_r [] [0, 1, 2, 7, 8, 15, 16, 26, 27] [13, 8401] [slFeat false a, slFeat false b, I band, .arr 13, I t16, I (a.length : Int), I t16, I (b.length : Int), I (t27 + 1)] [some (tOLI 8401 (tb'.set t16.toNat ((at_ tb' t16.toNat).set t27.toNat 1099511627776))), some (tFLI (tb'.set t16.toNat ((at_ tb' t16.toNat).set t27.toNat 1099511627776)))] [inR .i64 (t27 + 1)] ⟨(inR_i64 (by omega) (by omega)), trivial⟩ ?_
        exact xe_again ((t27 + 1), (tb'.set t16.toNat ((at_ tb' t16.toNat).set t27.toNat 1099511627776))) rfl (show (0 ≤ (t27 + 1) ∧ (t27 + 1) ≤ (b.length : Int)) ∧ (tbOk a b band (tb'.set t16.toNat ((at_ tb' t16.toNat).set t27.toNat 1099511627776)) t16.toNat ∧ rowOk a b band (at_ (tb'.set t16.toNat ((at_ tb' t16.toNat).set t27.toNat 1099511627776)) t16.toNat) t16.toNat (t27 + 1).toNat) ∧ True from ⟨(by omega), (by rw [show (t27 + 1).toNat = t27.toNat + 1 from by omega]; exact tb_step hin.1 hin.2 hi hj (by rw [hlb.2]; first | exact (stp_far (by first | (left; rw [hix, hjx]; omega) | (right; (try rw [if_neg (by omega)]); (try rw [if_pos (by omega)]); omega))).symm | (rw [stp_add (by rw [hix, hjx]; omega) (by first | (rw [if_neg (by omega)]; omega) | (rw [if_pos (by omega)]; decide))]; first | rw [if_neg (by omega)] | rw [if_pos (by omega)]))), trivial⟩) (by first | (show (((b.length : Int) - (t27 + 1)).toNat : Nat) < ((b.length : Int) - t27).toNat; omega) | (dsimp only; omega))
       refine x_r [(3, .call [(true, .any)] true (I ((t16 - t27).natAbs : Int))), (5, .dec false), (8, .dec false)] [0, 1, 2, 7, 8, 9, 10, 15, 16, 26, 27, 49] [13, 8401] [slFeat false a, slFeat false b, I band, .arr 13, I t16, I t27, I (lb3 tb' t16 t27), I (a.length : Int), I t16, I (b.length : Int), I t27, Bv false] [some (tOLI 8401 tb'), some (tFLI tb')] [inR .i64 (t16 - t27), Con Tryz.prog 130 [I (t16 - t27)] true (I ((t16 - t27).natAbs : Int)) ∧ True, ¬ (band < ((t16 - t27).natAbs : Int)), ¬ (1099511627776 ≤ (lb3 tb' t16 t27))] ⟨(inR_i64 (by omega) (by omega)), ⟨(abs_ok (t16 - t27) (by omega)), trivial⟩, h6, h7, trivial⟩ ?_
       refine xe_then ?_
       refine x_false rfl ?_
       refine x_r [(14, .call [(true, .any), (true, .any)] true (I (costF (at_ a t16.toNat) (at_ b t27.toNat))))] [0, 1, 2, 7, 8, 15, 16, 26, 27] [13, 8401] [slFeat false a, slFeat false b, I band, .arr 13, I t16, I (a.length : Int), I t16, I (b.length : Int), I t27] [some (tOLI 8401 tb'), some (.fam tb'.length 1 (mLI tb') (fun q => bif Nat.beq q t16.toNat then (fun q => bif Nat.beq q t27.toNat then [I ((lb3 tb' t16 t27) + (costF (at_ a t16.toNat) (at_ b t27.toNat)))] else (gLI tb') t16.toNat q) else (gLI tb') q))] [(0 : Int) ≤ t16 ∧ t16 < (tb'.length : Int), t16.toNat < tb'.length, (0 : Int) ≤ t16 ∧ t16 < (a.length : Int), (0 : Int) ≤ t27 ∧ t27 < (b.length : Int), Con Tryz.prog 167 [agFeat (at_ a t16.toNat), agFeat (at_ b t27.toNat)] true (I (costF (at_ a t16.toNat) (at_ b t27.toNat))) ∧ True, inR .i64 ((lb3 tb' t16 t27) + (costF (at_ a t16.toNat) (at_ b t27.toNat))), t16.toNat < tb'.length ∧ (0 : Int) ≤ t27 ∧ t27 < (((at_ tb' t16.toNat).length) : Int), t16.toNat < tb'.length ∧ t27.toNat < (at_ tb' t16.toNat).length] ⟨⟨(by omega), (by omega)⟩, (by omega), ⟨(by omega), (by omega)⟩, ⟨(by omega), (by omega)⟩, ⟨(featCost_ok (at_ a t16.toNat) (at_ b t27.toNat) (by first | exact hab.1 _ (by omega) | exact hab.2.1 _ (by omega)) (by first | exact hab.1 _ (by omega) | exact hab.2.1 _ (by omega))), trivial⟩, (inR_i64 (by omega) (by omega)), ⟨(by omega), (by omega), (by omega)⟩, ⟨(by omega), (by omega)⟩, trivial⟩ ?_
       refine xe_block 3 ?_
       refine xe_then ?_
       refine x_weak [] (T := [(0, slFeat false a), (1, slFeat false b), (2, I band), (7, .arr 13), (8, I t16), (15, I (a.length : Int)), (16, I t16), (26, I (b.length : Int)), (27, I t27)]) (O := [(13, tOLI 8401 (tb'.set t16.toNat ((at_ tb' t16.toNat).set t27.toNat ((lb3 tb' t16 t27) + (costF (at_ a t16.toNat) (at_ b t27.toNat)))))), (8401, tFLI (tb'.set t16.toNat ((at_ tb' t16.toNat).set t27.toNat ((lb3 tb' t16 t27) + (costF (at_ a t16.toNat) (at_ b t27.toNat))))))]) rfl (⟨.inl rfl, .inl rfl, .inl rfl, .inl rfl, .inl rfl, .inl rfl, .inl rfl, .inl rfl, .inl rfl, trivial⟩) (⟨.inr ⟨rfl, rfl, (by first | rfl | (simp; done) | omega), fun i_ hi_ => .inl (osetLI 8401 t16.toNat tb' ((at_ tb' t16.toNat).set t27.toNat ((lb3 tb' t16 t27) + (costF (at_ a t16.toNat) (at_ b t27.toNat)))) i_)⟩, .inr (fsetLI (P := t16.toNat) (k := t27.toNat) ((by omega)) ((by omega)) (by simp only [Nat.beq_refl, cond_true]; try rfl) (by intro i hi; simp only [Nat.beq_refl, cond_true, beq_ne hi, cond_false]; try rfl) (by intro p hp; simp only [beq_ne hp, cond_false])), trivial⟩) ?_
       refine x_r [] [0, 1, 2, 7, 8, 15, 16, 26, 27] [13, 8401] [slFeat false a, slFeat false b, I band, .arr 13, I t16, I (a.length : Int), I t16, I (b.length : Int), I (t27 + 1)] [some (tOLI 8401 (tb'.set t16.toNat ((at_ tb' t16.toNat).set t27.toNat ((lb3 tb' t16 t27) + (costF (at_ a t16.toNat) (at_ b t27.toNat)))))), some (tFLI (tb'.set t16.toNat ((at_ tb' t16.toNat).set t27.toNat ((lb3 tb' t16 t27) + (costF (at_ a t16.toNat) (at_ b t27.toNat))))))] [inR .i64 (t27 + 1)] ⟨(inR_i64 (by omega) (by omega)), trivial⟩ ?_
       exact xe_again ((t27 + 1), (tb'.set t16.toNat ((at_ tb' t16.toNat).set t27.toNat ((lb3 tb' t16 t27) + (costF (at_ a t16.toNat) (at_ b t27.toNat)))))) rfl (show (0 ≤ (t27 + 1) ∧ (t27 + 1) ≤ (b.length : Int)) ∧ (tbOk a b band (tb'.set t16.toNat ((at_ tb' t16.toNat).set t27.toNat ((lb3 tb' t16 t27) + (costF (at_ a t16.toNat) (at_ b t27.toNat))))) t16.toNat ∧ rowOk a b band (at_ (tb'.set t16.toNat ((at_ tb' t16.toNat).set t27.toNat ((lb3 tb' t16 t27) + (costF (at_ a t16.toNat) (at_ b t27.toNat))))) t16.toNat) t16.toNat (t27 + 1).toNat) ∧ True from ⟨(by omega), (by rw [show (t27 + 1).toNat = t27.toNat + 1 from by omega]; exact tb_step hin.1 hin.2 hi hj (by rw [hlb.2]; first | exact (stp_far (by first | (left; rw [hix, hjx]; omega) | (right; (try rw [if_neg (by omega)]); (try rw [if_pos (by omega)]); omega))).symm | (rw [stp_add (by rw [hix, hjx]; omega) (by first | (rw [if_neg (by omega)]; omega) | (rw [if_pos (by omega)]; decide))]; first | rw [if_neg (by omega)] | rw [if_pos (by omega)]))), trivial⟩) (by first | (show (((b.length : Int) - (t27 + 1)).toNat : Nat) < ((b.length : Int) - t27).toNat; omega) | (dsimp only; omega))
      refine x_r [(1, .dec false)] [0, 1, 2, 7, 8, 9, 10, 15, 16, 26, 27, 39] [13, 8401] [slFeat false a, slFeat false b, I band, .arr 13, I t16, I t27, I (lb3 tb' t16 t27), I (a.length : Int), I t16, I (b.length : Int), I t27, Bv false] [some (tOLI 8401 tb'), some (tFLI tb')] [¬ (t16 = 0)] ⟨h3, trivial⟩ ?_
      refine xe_then ?_
      refine x_false rfl ?_
      refine x_skip ?_
      refine xe_then ?_
      refine x_seq ?_
      by_cases h8 : band < ((t16 - t27).natAbs : Int)
      ·refine x_r [(3, .call [(true, .any)] true (I ((t16 - t27).natAbs : Int))), (5, .dec true)] [0, 1, 2, 7, 8, 9, 10, 15, 16, 26, 27, 49] [13, 8401] [slFeat false a, slFeat false b, I band, .arr 13, I t16, I t27, I (lb3 tb' t16 t27), I (a.length : Int), I t16, I (b.length : Int), I t27, Bv true] [some (tOLI 8401 tb'), some (tFLI tb')] [inR .i64 (t16 - t27), Con Tryz.prog 130 [I (t16 - t27)] true (I ((t16 - t27).natAbs : Int)) ∧ True, band < ((t16 - t27).natAbs : Int)] ⟨(inR_i64 (by omega) (by omega)), ⟨(abs_ok (t16 - t27) (by omega)), trivial⟩, h8, trivial⟩ ?_
       refine xe_then ?_
       refine x_true rfl ?_
       refine x_r [] [0, 1, 2, 7, 8, 15, 16, 26, 27] [13, 8401] [slFeat false a, slFeat false b, I band, .arr 13, I t16, I (a.length : Int), I t16, I (b.length : Int), I t27] [some (tOLI 8401 tb'), some (.fam tb'.length 1 (mLI tb') (fun q => bif Nat.beq q t16.toNat then (fun q => bif Nat.beq q t27.toNat then [I 1099511627776] else (gLI tb') t16.toNat q) else (gLI tb') q))] [(0 : Int) ≤ t16 ∧ t16 < (tb'.length : Int), t16.toNat < tb'.length, t16.toNat < tb'.length ∧ (0 : Int) ≤ t27 ∧ t27 < (((at_ tb' t16.toNat).length) : Int), t16.toNat < tb'.length ∧ t27.toNat < (at_ tb' t16.toNat).length] ⟨⟨(by omega), (by omega)⟩, (by omega), ⟨(by omega), (by omega), (by omega)⟩, ⟨(by omega), (by omega)⟩, trivial⟩ ?_
       refine xe_block 3 ?_
       refine xe_then ?_
       refine x_weak [] (T := [(0, slFeat false a), (1, slFeat false b), (2, I band), (7, .arr 13), (8, I t16), (15, I (a.length : Int)), (16, I t16), (26, I (b.length : Int)), (27, I t27)]) (O := [(13, tOLI 8401 (tb'.set t16.toNat ((at_ tb' t16.toNat).set t27.toNat 1099511627776))), (8401, tFLI (tb'.set t16.toNat ((at_ tb' t16.toNat).set t27.toNat 1099511627776)))]) rfl (⟨.inl rfl, .inl rfl, .inl rfl, .inl rfl, .inl rfl, .inl rfl, .inl rfl, .inl rfl, .inl rfl, trivial⟩) (⟨.inr ⟨rfl, rfl, (by first | rfl | (simp; done) | omega), fun i_ hi_ => .inl (osetLI 8401 t16.toNat tb' ((at_ tb' t16.toNat).set t27.toNat 1099511627776) i_)⟩, .inr (fsetLI (P := t16.toNat) (k := t27.toNat) ((by omega)) ((by omega)) (by simp only [Nat.beq_refl, cond_true]; try rfl) (by intro i hi; simp only [Nat.beq_refl, cond_true, beq_ne hi, cond_false]; try rfl) (by intro p hp; simp only [beq_ne hp, cond_false])), trivial⟩) ?_
       refine x_r [] [0, 1, 2, 7, 8, 15, 16, 26, 27] [13, 8401] [slFeat false a, slFeat false b, I band, .arr 13, I t16, I (a.length : Int), I t16, I (b.length : Int), I (t27 + 1)] [some (tOLI 8401 (tb'.set t16.toNat ((at_ tb' t16.toNat).set t27.toNat 1099511627776))), some (tFLI (tb'.set t16.toNat ((at_ tb' t16.toNat).set t27.toNat 1099511627776)))] [inR .i64 (t27 + 1)] ⟨(inR_i64 (by omega) (by omega)), trivial⟩ ?_
       exact xe_again ((t27 + 1), (tb'.set t16.toNat ((at_ tb' t16.toNat).set t27.toNat 1099511627776))) rfl (show (0 ≤ (t27 + 1) ∧ (t27 + 1) ≤ (b.length : Int)) ∧ (tbOk a b band (tb'.set t16.toNat ((at_ tb' t16.toNat).set t27.toNat 1099511627776)) t16.toNat ∧ rowOk a b band (at_ (tb'.set t16.toNat ((at_ tb' t16.toNat).set t27.toNat 1099511627776)) t16.toNat) t16.toNat (t27 + 1).toNat) ∧ True from ⟨(by omega), (by rw [show (t27 + 1).toNat = t27.toNat + 1 from by omega]; exact tb_step hin.1 hin.2 hi hj (by rw [hlb.2]; first | exact (stp_far (by first | (left; rw [hix, hjx]; omega) | (right; (try rw [if_neg (by omega)]); (try rw [if_pos (by omega)]); omega))).symm | (rw [stp_add (by rw [hix, hjx]; omega) (by first | (rw [if_neg (by omega)]; omega) | (rw [if_pos (by omega)]; decide))]; first | rw [if_neg (by omega)] | rw [if_pos (by omega)]))), trivial⟩) (by first | (show (((b.length : Int) - (t27 + 1)).toNat : Nat) < ((b.length : Int) - t27).toNat; omega) | (dsimp only; omega))
      by_cases h9 : 1099511627776 ≤ (lb3 tb' t16 t27)
      ·refine x_r [(3, .call [(true, .any)] true (I ((t16 - t27).natAbs : Int))), (5, .dec false), (8, .dec true)] [0, 1, 2, 7, 8, 9, 10, 15, 16, 26, 27, 49] [13, 8401] [slFeat false a, slFeat false b, I band, .arr 13, I t16, I t27, I (lb3 tb' t16 t27), I (a.length : Int), I t16, I (b.length : Int), I t27, Bv true] [some (tOLI 8401 tb'), some (tFLI tb')] [inR .i64 (t16 - t27), Con Tryz.prog 130 [I (t16 - t27)] true (I ((t16 - t27).natAbs : Int)) ∧ True, ¬ (band < ((t16 - t27).natAbs : Int)), 1099511627776 ≤ (lb3 tb' t16 t27)] ⟨(inR_i64 (by omega) (by omega)), ⟨(abs_ok (t16 - t27) (by omega)), trivial⟩, h8, h9, trivial⟩ ?_
       refine xe_then ?_
       refine x_true rfl ?_
       refine x_r [] [0, 1, 2, 7, 8, 15, 16, 26, 27] [13, 8401] [slFeat false a, slFeat false b, I band, .arr 13, I t16, I (a.length : Int), I t16, I (b.length : Int), I t27] [some (tOLI 8401 tb'), some (.fam tb'.length 1 (mLI tb') (fun q => bif Nat.beq q t16.toNat then (fun q => bif Nat.beq q t27.toNat then [I 1099511627776] else (gLI tb') t16.toNat q) else (gLI tb') q))] [(0 : Int) ≤ t16 ∧ t16 < (tb'.length : Int), t16.toNat < tb'.length, t16.toNat < tb'.length ∧ (0 : Int) ≤ t27 ∧ t27 < (((at_ tb' t16.toNat).length) : Int), t16.toNat < tb'.length ∧ t27.toNat < (at_ tb' t16.toNat).length] ⟨⟨(by omega), (by omega)⟩, (by omega), ⟨(by omega), (by omega), (by omega)⟩, ⟨(by omega), (by omega)⟩, trivial⟩ ?_
       refine xe_block 3 ?_
       refine xe_then ?_
       refine x_weak [] (T := [(0, slFeat false a), (1, slFeat false b), (2, I band), (7, .arr 13), (8, I t16), (15, I (a.length : Int)), (16, I t16), (26, I (b.length : Int)), (27, I t27)]) (O := [(13, tOLI 8401 (tb'.set t16.toNat ((at_ tb' t16.toNat).set t27.toNat 1099511627776))), (8401, tFLI (tb'.set t16.toNat ((at_ tb' t16.toNat).set t27.toNat 1099511627776)))]) rfl (⟨.inl rfl, .inl rfl, .inl rfl, .inl rfl, .inl rfl, .inl rfl, .inl rfl, .inl rfl, .inl rfl, trivial⟩) (⟨.inr ⟨rfl, rfl, (by first | rfl | (simp; done) | omega), fun i_ hi_ => .inl (osetLI 8401 t16.toNat tb' ((at_ tb' t16.toNat).set t27.toNat 1099511627776) i_)⟩, .inr (fsetLI (P := t16.toNat) (k := t27.toNat) ((by omega)) ((by omega)) (by simp only [Nat.beq_refl, cond_true]; try rfl) (by intro i hi; simp only [Nat.beq_refl, cond_true, beq_ne hi, cond_false]; try rfl) (by intro p hp; simp only [beq_ne hp, cond_false])), trivial⟩) ?_
       refine x_r [] [0, 1, 2, 7, 8, 15, 16, 26, 27] [13, 8401] [slFeat false a, slFeat false b, I band, .arr 13, I t16, I (a.length : Int), I t16, I (b.length : Int), I (t27 + 1)] [some (tOLI 8401 (tb'.set t16.toNat ((at_ tb' t16.toNat).set t27.toNat 1099511627776))), some (tFLI (tb'.set t16.toNat ((at_ tb' t16.toNat).set t27.toNat 1099511627776)))] [inR .i64 (t27 + 1)] ⟨(inR_i64 (by omega) (by omega)), trivial⟩ ?_
       exact xe_again ((t27 + 1), (tb'.set t16.toNat ((at_ tb' t16.toNat).set t27.toNat 1099511627776))) rfl (show (0 ≤ (t27 + 1) ∧ (t27 + 1) ≤ (b.length : Int)) ∧ (tbOk a b band (tb'.set t16.toNat ((at_ tb' t16.toNat).set t27.toNat 1099511627776)) t16.toNat ∧ rowOk a b band (at_ (tb'.set t16.toNat ((at_ tb' t16.toNat).set t27.toNat 1099511627776)) t16.toNat) t16.toNat (t27 + 1).toNat) ∧ True from ⟨(by omega), (by rw [show (t27 + 1).toNat = t27.toNat + 1 from by omega]; exact tb_step hin.1 hin.2 hi hj (by rw [hlb.2]; first | exact (stp_far (by first | (left; rw [hix, hjx]; omega) | (right; (try rw [if_neg (by omega)]); (try rw [if_pos (by omega)]); omega))).symm | (rw [stp_add (by rw [hix, hjx]; omega) (by first | (rw [if_neg (by omega)]; omega) | (rw [if_pos (by omega)]; decide))]; first | rw [if_neg (by omega)] | rw [if_pos (by omega)]))), trivial⟩) (by first | (show (((b.length : Int) - (t27 + 1)).toNat : Nat) < ((b.length : Int) - t27).toNat; omega) | (dsimp only; omega))
      refine x_r [(3, .call [(true, .any)] true (I ((t16 - t27).natAbs : Int))), (5, .dec false), (8, .dec false)] [0, 1, 2, 7, 8, 9, 10, 15, 16, 26, 27, 49] [13, 8401] [slFeat false a, slFeat false b, I band, .arr 13, I t16, I t27, I (lb3 tb' t16 t27), I (a.length : Int), I t16, I (b.length : Int), I t27, Bv false] [some (tOLI 8401 tb'), some (tFLI tb')] [inR .i64 (t16 - t27), Con Tryz.prog 130 [I (t16 - t27)] true (I ((t16 - t27).natAbs : Int)) ∧ True, ¬ (band < ((t16 - t27).natAbs : Int)), ¬ (1099511627776 ≤ (lb3 tb' t16 t27))] ⟨(inR_i64 (by omega) (by omega)), ⟨(abs_ok (t16 - t27) (by omega)), trivial⟩, h8, h9, trivial⟩ ?_
      refine xe_then ?_
      refine x_false rfl ?_
      refine x_r [(14, .call [(true, .any), (true, .any)] true (I (costF (at_ a t16.toNat) (at_ b t27.toNat))))] [0, 1, 2, 7, 8, 15, 16, 26, 27] [13, 8401] [slFeat false a, slFeat false b, I band, .arr 13, I t16, I (a.length : Int), I t16, I (b.length : Int), I t27] [some (tOLI 8401 tb'), some (.fam tb'.length 1 (mLI tb') (fun q => bif Nat.beq q t16.toNat then (fun q => bif Nat.beq q t27.toNat then [I ((lb3 tb' t16 t27) + (costF (at_ a t16.toNat) (at_ b t27.toNat)))] else (gLI tb') t16.toNat q) else (gLI tb') q))] [(0 : Int) ≤ t16 ∧ t16 < (tb'.length : Int), t16.toNat < tb'.length, (0 : Int) ≤ t16 ∧ t16 < (a.length : Int), (0 : Int) ≤ t27 ∧ t27 < (b.length : Int), Con Tryz.prog 167 [agFeat (at_ a t16.toNat), agFeat (at_ b t27.toNat)] true (I (costF (at_ a t16.toNat) (at_ b t27.toNat))) ∧ True, inR .i64 ((lb3 tb' t16 t27) + (costF (at_ a t16.toNat) (at_ b t27.toNat))), t16.toNat < tb'.length ∧ (0 : Int) ≤ t27 ∧ t27 < (((at_ tb' t16.toNat).length) : Int), t16.toNat < tb'.length ∧ t27.toNat < (at_ tb' t16.toNat).length] ⟨⟨(by omega), (by omega)⟩, (by omega), ⟨(by omega), (by omega)⟩, ⟨(by omega), (by omega)⟩, ⟨(featCost_ok (at_ a t16.toNat) (at_ b t27.toNat) (by first | exact hab.1 _ (by omega) | exact hab.2.1 _ (by omega)) (by first | exact hab.1 _ (by omega) | exact hab.2.1 _ (by omega))), trivial⟩, (inR_i64 (by omega) (by omega)), ⟨(by omega), (by omega), (by omega)⟩, ⟨(by omega), (by omega)⟩, trivial⟩ ?_
      refine xe_block 3 ?_
      refine xe_then ?_
      refine x_weak [] (T := [(0, slFeat false a), (1, slFeat false b), (2, I band), (7, .arr 13), (8, I t16), (15, I (a.length : Int)), (16, I t16), (26, I (b.length : Int)), (27, I t27)]) (O := [(13, tOLI 8401 (tb'.set t16.toNat ((at_ tb' t16.toNat).set t27.toNat ((lb3 tb' t16 t27) + (costF (at_ a t16.toNat) (at_ b t27.toNat)))))), (8401, tFLI (tb'.set t16.toNat ((at_ tb' t16.toNat).set t27.toNat ((lb3 tb' t16 t27) + (costF (at_ a t16.toNat) (at_ b t27.toNat))))))]) rfl (⟨.inl rfl, .inl rfl, .inl rfl, .inl rfl, .inl rfl, .inl rfl, .inl rfl, .inl rfl, .inl rfl, trivial⟩) (⟨.inr ⟨rfl, rfl, (by first | rfl | (simp; done) | omega), fun i_ hi_ => .inl (osetLI 8401 t16.toNat tb' ((at_ tb' t16.toNat).set t27.toNat ((lb3 tb' t16 t27) + (costF (at_ a t16.toNat) (at_ b t27.toNat)))) i_)⟩, .inr (fsetLI (P := t16.toNat) (k := t27.toNat) ((by omega)) ((by omega)) (by simp only [Nat.beq_refl, cond_true]; try rfl) (by intro i hi; simp only [Nat.beq_refl, cond_true, beq_ne hi, cond_false]; try rfl) (by intro p hp; simp only [beq_ne hp, cond_false])), trivial⟩) ?_
      refine x_r [] [0, 1, 2, 7, 8, 15, 16, 26, 27] [13, 8401] [slFeat false a, slFeat false b, I band, .arr 13, I t16, I (a.length : Int), I t16, I (b.length : Int), I (t27 + 1)] [some (tOLI 8401 (tb'.set t16.toNat ((at_ tb' t16.toNat).set t27.toNat ((lb3 tb' t16 t27) + (costF (at_ a t16.toNat) (at_ b t27.toNat)))))), some (tFLI (tb'.set t16.toNat ((at_ tb' t16.toNat).set t27.toNat ((lb3 tb' t16 t27) + (costF (at_ a t16.toNat) (at_ b t27.toNat))))))] [inR .i64 (t27 + 1)] ⟨(inR_i64 (by omega) (by omega)), trivial⟩ ?_
      exact xe_again ((t27 + 1), (tb'.set t16.toNat ((at_ tb' t16.toNat).set t27.toNat ((lb3 tb' t16 t27) + (costF (at_ a t16.toNat) (at_ b t27.toNat)))))) rfl (show (0 ≤ (t27 + 1) ∧ (t27 + 1) ≤ (b.length : Int)) ∧ (tbOk a b band (tb'.set t16.toNat ((at_ tb' t16.toNat).set t27.toNat ((lb3 tb' t16 t27) + (costF (at_ a t16.toNat) (at_ b t27.toNat))))) t16.toNat ∧ rowOk a b band (at_ (tb'.set t16.toNat ((at_ tb' t16.toNat).set t27.toNat ((lb3 tb' t16 t27) + (costF (at_ a t16.toNat) (at_ b t27.toNat))))) t16.toNat) t16.toNat (t27 + 1).toNat) ∧ True from ⟨(by omega), (by rw [show (t27 + 1).toNat = t27.toNat + 1 from by omega]; exact tb_step hin.1 hin.2 hi hj (by rw [hlb.2]; first | exact (stp_far (by first | (left; rw [hix, hjx]; omega) | (right; (try rw [if_neg (by omega)]); (try rw [if_pos (by omega)]); omega))).symm | (rw [stp_add (by rw [hix, hjx]; omega) (by first | (rw [if_neg (by omega)]; omega) | (rw [if_pos (by omega)]; decide))]; first | rw [if_neg (by omega)] | rw [if_pos (by omega)]))), trivial⟩) (by first | (show (((b.length : Int) - (t27 + 1)).toNat : Nat) < ((b.length : Int) - t27).toNat; omega) | (dsimp only; omega))
     have hje : t27.toNat = b.length := by omega
     refine x_r [(0, .dec false)] [0, 1, 2, 7, 8, 15, 16, 26, 27, 28] [13, 8401] [slFeat false a, slFeat false b, I band, .arr 13, I t16, I (a.length : Int), I t16, I (b.length : Int), I t27, Bv false] [some (tOLI 8401 tb'), some (tFLI tb')] [¬ (t27 < (b.length : Int))] ⟨h2, trivial⟩ ?_
     refine xe_then ?_
     refine x_seq ?_
     refine x_false rfl ?_
     refine x_exit ?_
     refine xe_exit_then ?_
     refine xe_loop_exit ?_
     refine xe_exit_same ?_
     refine xe_block 1 ?_
     refine xe_then ?_
     refine x_r [] [0, 1, 2, 7, 15, 16] [13, 8401] [slFeat false a, slFeat false b, I band, .arr 13, I (a.length : Int), I (t16 + 1)] [some (tOLI 8401 tb'), some (tFLI tb')] [inR .i64 (t16 + 1)] ⟨(inR_i64 (by omega) (by omega)), trivial⟩ ?_
     exact xe_again ((t16 + 1), tb') rfl (show (0 ≤ (t16 + 1) ∧ (t16 + 1) ≤ (a.length : Int)) ∧ (tbOk a b band tb' (t16 + 1).toNat) ∧ True from ⟨(by omega), (by rw [show (t16 + 1).toNat = t16.toNat + 1 from by omega]; exact tb_done hin.1 hin.2 hje), trivial⟩) (by first | (show (((a.length : Int) - (t16 + 1)).toNat : Nat) < ((a.length : Int) - t16).toNat; omega) | (dsimp only; omega))
    have hie : t16.toNat = a.length := by omega
    rw [hie] at htb
    refine x_r [(0, .dec false)] [0, 1, 2, 7, 15, 16, 17] [13, 8401] [slFeat false a, slFeat false b, I band, .arr 13, I (a.length : Int), I t16, Bv false] [some (tOLI 8401 tb), some (tFLI tb)] [¬ (t16 < (a.length : Int))] ⟨h1, trivial⟩ ?_
    refine xe_then ?_
    refine x_seq ?_
    refine x_false rfl ?_
    refine x_exit ?_
    refine xe_exit_then ?_
    refine xe_loop_exit ?_
    refine xe_exit_same ?_
    refine xe_then ?_
    refine xR [] [6] [13, 8401] [.arr 13] [some (tOLI 8401 tb), some (tFLI tb)] [] trivial ?_
    refine x_ret ?_
    refine xe_end tb (show (tbOk a b band tb a.length) ∧ (True) from ⟨(by first | assumption | exact htb), trivial⟩) (trivial) (.arr 13) (by kernel_rfl) (.inr ⟨(fun _ => rfl), rfl, rfl, oleLI _ _ rfl⟩) (fun _ => rfl) (fun _ => (tagLI true _))
  obtain ⟨v, ⟨hh0, _⟩, hc⟩ := hh
  exact ⟨v, hh0, hc⟩



theorem tb_last {a b : List Feat} {band : Int} {tb : List (List Int)} (h : tbOk a b band tb a.length) (ha : 1 ≤ a.length) (hb : 1 ≤ b.length) : (tb.length = a.length ∧ (at_ tb (a.length - 1)).length = b.length) ∧ at_ (at_ tb (a.length - 1)) (b.length - 1) = cv farI a b band (a.length - 1) (b.length - 1) :=
  ⟨⟨h.1, (h.2 _ (by omega)).1⟩, (h.2 _ (by omega)).2 _ (by omega)⟩


-- impl.elastic
theorem elastic_ok (a : List Feat) (b : List Feat) (band : Int) (hab : okAB a b) (hbd : 0 ≤ band ∧ band ≤ 1000) (h1 : 1 ≤ a.length ∧ 1 ≤ b.length) : ∃ (v : Int), (v = cv farI a b band (a.length - 1) (b.length - 1)) ∧ Con Tryz.prog 86 [slFeat false a, slFeat false b, I band] true (I v) := by
  have hla := hab.2.2
  have hh : ∃ r : Int, ((r = cv farI a b band (a.length - 1) (b.length - 1)) ∧ (True)) ∧ CallOK Tryz.prog 86 [slFeat false a, slFeat false b, I band] (lookO []) true (I r) (lookO []) := by
    refine fn_okX (Φ := fun r : Int => (r = cv farI a b band (a.length - 1) (b.length - 1)) ∧ (True)) [] (fun r => []) (fn := Tryz.f86) (nt := 21) Tryz.func86 rfl rfl (args := [slFeat false a, slFeat false b, I band]) rfl (allcons (.inl ⟨rfl, tagFeat false _⟩) (allcons (.inl ⟨rfl, tagFeat false _⟩) (allcons (.inl ⟨rfl, trivial⟩) allnil))) (res := fun r => I r) ?_
    refine xR [] [0, 1, 2] [] [slFeat false a, slFeat false b, I band] [] [] trivial ?_
    refine x_seq ?_
    obtain ⟨v_1, hx1_0, hc1⟩ := costTable_ok a b band hab (by omega)
    have htl := tb_last hx1_0 h1.1 h1.2
    have hq1 : ((a.length : Int) - 1).toNat = a.length - 1 := by omega
    have hq2 : ((b.length : Int) - 1).toNat = b.length - 1 := by omega
    rw [← hq1] at htl
    refine x_r [(3, .call [(true, .any), (true, .any), (true, .any)] true (slLI true v_1))] [6] [] [I (at_ (at_ v_1 (((a.length : Int) - 1).toNat)) (((b.length : Int) - 1).toNat))] [] [Con Tryz.prog 131 [slFeat false a, slFeat false b, I band] true (slLI true v_1) ∧ True, inR .i64 ((a.length : Int) - 1), (0 : Int) ≤ ((a.length : Int) - 1) ∧ ((a.length : Int) - 1) < (v_1.length : Int), inR .i64 ((b.length : Int) - 1), (0 : Int) ≤ ((b.length : Int) - 1) ∧ ((b.length : Int) - 1) < (((at_ v_1 (((a.length : Int) - 1).toNat)).length) : Int)] ⟨⟨hc1, trivial⟩, (inR_i64 (by omega) (by omega)), ⟨(by omega), (by omega)⟩, (inR_i64 (by omega) (by omega)), ⟨(by omega), (by omega)⟩, trivial⟩ ?_
    refine xe_then ?_
    refine x_ret ?_
    refine xe_end (at_ (at_ v_1 (((a.length : Int) - 1).toNat)) (((b.length : Int) - 1).toNat)) (show ((at_ (at_ v_1 (((a.length : Int) - 1).toNat)) (((b.length : Int) - 1).toNat)) = cv farI a b band (a.length - 1) (b.length - 1)) ∧ (True) from ⟨(by (rw [hq2, htl.2, hq1])), trivial⟩) (trivial) (I (at_ (at_ v_1 (((a.length : Int) - 1).toNat)) (((b.length : Int) - 1).toNat))) (by kernel_rfl) (.inl rfl) (fun _ => rfl) (fun _ => trivial)
  obtain ⟨v, ⟨hh0, _⟩, hc⟩ := hh
  exact ⟨v, hh0, hc⟩



-- impl.matchesOf
theorem matchesOf_ok (s : Store) (feats : List Feat) (hst : okStore' s = true) (okf : okFeats feats 72 = true) (h18 : s.Templates.length ≤ 18) : ∃ (ms : List Match), (ms = mtS s feats s.Templates.length) ∧ CallOK Tryz.prog 51 [agStore s, slFeat false feats] (lookO []) false (.arr 7211) (lookO [(7211, tAMatch ms)]) := by
  have hh : ∃ r : (List Match), ((r = mtS s feats s.Templates.length) ∧ (True)) ∧ CallOK Tryz.prog 51 [agStore s, slFeat false feats] (lookO []) false (.arr 7211) (lookO [(7211, tAMatch r)]) := by
    refine fn_okX (Φ := fun r : (List Match) => (r = mtS s feats s.Templates.length) ∧ (True)) [] (fun r => [(7211, tAMatch r)]) (fn := Tryz.f51) (nt := 37) Tryz.func51 rfl rfl (args := [agStore s, slFeat false feats]) rfl (allcons (.inl ⟨rfl, by simp [tagged, taggedL, tagTemplate]⟩) (allcons (.inl ⟨rfl, tagFeat false _⟩) allnil)) (res := fun r => .arr 7211) ?_
    refine xR [(0, .new 2)] [1, 2] [2] [slFeat false feats, .ref 2 0] [some (bxStore s)] [] trivial ?_
    refine xR [] [1, 2, 5] [2] [slFeat false feats, .ref 2 0, nilA] [some (bxStore s)] [] trivial ?_
    refine x_seq ?_
    refine xR [] [1, 2, 5, 9, 10, 11] [2] [slFeat false feats, .ref 2 0, nilA, slTemplate false s.Templates, I (s.Templates.length : Int), I 0] [some (bxStore s)] [] trivial ?_
    refine x_block ?_
    refine x_nil 5 705 2 (fun _ => []) (by kernel_rfl) ?_
    refine x_weak [] (T := [(1, slFeat false feats), (2, .ref 2 0), (5, .arr 705), (9, slTemplate false s.Templates), (10, I (s.Templates.length : Int)), (11, I 0)]) (O := [(2, bxStore s), (705, tAMatch ([] : List Match))]) rfl (⟨.inl rfl, .inl rfl, .inl rfl, .inl rfl, .inl rfl, .inl rfl, trivial⟩) (⟨.inl rfl, .inr ⟨rfl, (by first | rfl | (simp; done) | (simp; omega) | omega), fun i_ hi_ => absurd hi_ (Nat.not_lt_zero _)⟩, trivial⟩) ?_
    refine x_loop (X := (List Match) × Int) (fun x => mkS [(1, slFeat false feats), (2, .ref 2 0), (5, .arr 705), (9, slTemplate false s.Templates), (10, I (s.Templates.length : Int)), (11, I x.2)] [(2, bxStore s), (705, tAMatch x.1)]) (fun x => (0 ≤ x.2 ∧ x.2 ≤ (s.Templates.length : Int)) ∧ (x.1 = mtS s feats x.2.toNat) ∧ True) (fun x => ((s.Templates.length : Int) - x.2).toNat) (([] : List Match), 0) rfl (show (0 ≤ (0 : Int) ∧ (0 : Int) ≤ (s.Templates.length : Int)) ∧ (([] : List Match) = mtS s feats (0 : Int).toNat) ∧ True from ⟨(by omega), (by rfl), trivial⟩) (fun x hI => ?_)
    obtain ⟨ls, t11⟩ := x
    obtain ⟨hi0, hls, _⟩ : (0 ≤ t11 ∧ t11 ≤ (s.Templates.length : Int)) ∧ (ls = mtS s feats t11.toNat) ∧ True := hI
    show XW _ _ _ _ (mkS [(1, slFeat false feats), (2, .ref 2 0), (5, .arr 705), (9, slTemplate false s.Templates), (10, I (s.Templates.length : Int)), (11, I t11)] [(2, bxStore s), (705, tAMatch ls)]) _ _
    refine x_seq ?_
    by_cases h1 : t11 < (s.Templates.length : Int)
    ·have hi : t11.toNat < s.Templates.length := by omega
     have hix : ((t11.toNat : Nat) : Int) = t11 := by omega
     have htm := (okStore_iff.1 hst).2.2 _ hi
     have hts : okFeats (at_ s.Templates t11.toNat).Feats 72 = true := by simp only [okTm, Bool.and_eq_true] at htm; exact htm.2
     have htn := okFeats_n hts
     have hfn := okFeats_n okf
     have hml : ls.length ≤ t11.toNat := by rw [hls]; exact mtS_len s feats _
     have hnx : (t11 + 1).toNat = t11.toNat + 1 := by omega
     refine x_r [(0, .dec true)] [1, 2, 5, 9, 10, 11, 12] [2, 705] [slFeat false feats, .ref 2 0, .arr 705, slTemplate false s.Templates, I (s.Templates.length : Int), I t11, Bv true] [some (bxStore s), some (tAMatch ls)] [t11 < (s.Templates.length : Int)] ⟨h1, trivial⟩ ?_
     refine xe_then ?_
     refine x_seq ?_
     refine x_true rfl ?_
     refine x_skip ?_
     refine xe_then ?_
     refine x_seq ?_
     refine x_block ?_
     refine xR [(3, .new 7)] [1, 2, 5, 6, 7, 9, 10, 11] [2, 7, 705] [slFeat false feats, .ref 2 0, .arr 705, I t11, .ref 7 0, slTemplate false s.Templates, I (s.Templates.length : Int), I t11] [some (bxStore s), some (bxTemplate (at_ s.Templates t11.toNat)), some (tAMatch ls)] [(0 : Int) ≤ t11 ∧ t11 < (s.Templates.length : Int)] ⟨⟨(by omega), (by omega)⟩, trivial⟩ ?_
     refine x_seq ?_
     rcases Bool.eq_false_or_eq_true (inB s.Band 0 72 && decide ((((feats.length : Int) - ((((at_ s.Templates t11.toNat).Feats).length) : Int)).natAbs : Int) ≤ s.Band)) with h2 | h2
     ·have hin : inS s feats t11.toNat = true := h2
      have hcv := mt_cv okf htm hin
      have hms := mt_y hin
      refine x_r [(7, .call [(true, .any), (true, .any), (true, .any)] true (Bv true))] [1, 2, 5, 6, 7, 9, 10, 11, 23] [2, 7, 705] [slFeat false feats, .ref 2 0, .arr 705, I t11, .ref 7 0, slTemplate false s.Templates, I (s.Templates.length : Int), I t11, Bv true] [some (bxStore s), some (bxTemplate (at_ s.Templates t11.toNat)), some (tAMatch ls)] [Con Tryz.prog 85 [I s.Band, I (feats.length : Int), I ((((at_ s.Templates t11.toNat).Feats).length) : Int)] true (Bv true) ∧ True] ⟨⟨(con_bool h2 (isBand_ok s.Band (feats.length : Int) ((((at_ s.Templates t11.toNat).Feats).length) : Int) (by omega) (by omega))), trivial⟩, trivial⟩ ?_
      refine xe_then ?_
      refine x_true rfl ?_
      obtain ⟨v_1, hx1_0, hc1⟩ := elastic_ok feats ((at_ s.Templates t11.toNat).Feats) s.Band (okAB_of okf hts) (by omega) (by omega)
      have hel : v_1 = (mtM s feats t11.toNat).Cost := hx1_0.trans hcv.2.2.1
      refine x_r [(7, .call [(true, .any), (true, .any), (true, .any)] true (I v_1)), (9, .new 33), (10, .new 34)] [1, 2, 5, 9, 10, 11] [2, 34] [slFeat false feats, .ref 2 0, .arr 34, slTemplate false s.Templates, I (s.Templates.length : Int), I t11] [some (bxStore s), some (.arr 2 (ls.length + 1) (catF ls.length (fMatch ls) (litF [I t11, I v_1] 2)))] [Con Tryz.prog 86 [slFeat false feats, slFeat false ((at_ s.Templates t11.toNat).Feats), I s.Band] true (I v_1) ∧ True, (ls.length + 1) * 16 ≤ 140737488355328] ⟨⟨hc1, trivial⟩, (by omega), trivial⟩ ?_
      refine xe_block 1 ?_
      refine xe_then ?_
      refine x_r [] [1, 2, 5, 9, 10, 11] [2, 34] [slFeat false feats, .ref 2 0, .arr 34, slTemplate false s.Templates, I (s.Templates.length : Int), I (t11 + 1)] [some (bxStore s), some (.arr 2 (ls.length + 1) (catF ls.length (fMatch ls) (litF [I t11, I v_1] 2)))] [inR .i64 (t11 + 1)] ⟨(inR_i64 (by omega) (by omega)), trivial⟩ ?_
      refine xe_weak [(705, 34)] (T := [(1, slFeat false feats), (2, .ref 2 0), (5, .arr 705), (9, slTemplate false s.Templates), (10, I (s.Templates.length : Int)), (11, I (t11 + 1))]) (O := [(2, bxStore s), (705, tAMatch (ls ++ [(Match.mk t11 v_1)]))]) rfl (⟨.inl rfl, .inl rfl, .inl rfl, .inl rfl, .inl rfl, .inl rfl, trivial⟩) (⟨.inl rfl, .inr ⟨rfl, (by first | rfl | (simp; done) | (simp; omega) | omega), fun i_ hi_ => .inl (cat_snoc (enc := cMatch) (xs := ls) rfl i_ hi_)⟩, trivial⟩) (xe_again ((ls ++ [(Match.mk t11 v_1)]), (t11 + 1)) rfl (show (0 ≤ (t11 + 1) ∧ (t11 + 1) ≤ (s.Templates.length : Int)) ∧ ((ls ++ [(Match.mk t11 v_1)]) = mtS s feats (t11 + 1).toNat) ∧ True from ⟨(by omega), (by (rw [hnx, hls, hms]; first | done | rfl | (rw [hel]; unfold mtM; rw [hix]))), trivial⟩) (by first | (show (((s.Templates.length : Int) - (t11 + 1)).toNat : Nat) < ((s.Templates.length : Int) - t11).toNat; omega) | (dsimp only; omega)))
     have hin : ¬ inS s feats t11.toNat = true := by unfold inS; rw [h2]; decide
     have hms := mt_n hin
     refine x_r [(7, .call [(true, .any), (true, .any), (true, .any)] true (Bv false))] [1, 2, 5, 6, 7, 9, 10, 11, 23] [2, 7, 705] [slFeat false feats, .ref 2 0, .arr 705, I t11, .ref 7 0, slTemplate false s.Templates, I (s.Templates.length : Int), I t11, Bv false] [some (bxStore s), some (bxTemplate (at_ s.Templates t11.toNat)), some (tAMatch ls)] [Con Tryz.prog 85 [I s.Band, I (feats.length : Int), I ((((at_ s.Templates t11.toNat).Feats).length) : Int)] true (Bv false) ∧ True] ⟨⟨(con_bool h2 (isBand_ok s.Band (feats.length : Int) ((((at_ s.Templates t11.toNat).Feats).length) : Int) (by omega) (by omega))), trivial⟩, trivial⟩ ?_
     refine xe_then ?_
     refine x_false rfl ?_
     refine x_skip ?_
     refine xe_block 1 ?_
     refine xe_then ?_
     refine x_r [] [1, 2, 5, 9, 10, 11] [2, 705] [slFeat false feats, .ref 2 0, .arr 705, slTemplate false s.Templates, I (s.Templates.length : Int), I (t11 + 1)] [some (bxStore s), some (tAMatch ls)] [inR .i64 (t11 + 1)] ⟨(inR_i64 (by omega) (by omega)), trivial⟩ ?_
     exact xe_again (ls, (t11 + 1)) rfl (show (0 ≤ (t11 + 1) ∧ (t11 + 1) ≤ (s.Templates.length : Int)) ∧ (ls = mtS s feats (t11 + 1).toNat) ∧ True from ⟨(by omega), (by (rw [hnx, hls, hms]; first | done | rfl | (rw [hel]; unfold mtM; rw [hix]))), trivial⟩) (by first | (show (((s.Templates.length : Int) - (t11 + 1)).toNat : Nat) < ((s.Templates.length : Int) - t11).toNat; omega) | (dsimp only; omega))
    have hie : t11.toNat = s.Templates.length := by omega
    refine x_r [(0, .dec false)] [1, 2, 5, 9, 10, 11, 12] [2, 705] [slFeat false feats, .ref 2 0, .arr 705, slTemplate false s.Templates, I (s.Templates.length : Int), I t11, Bv false] [some (bxStore s), some (tAMatch ls)] [¬ (t11 < (s.Templates.length : Int))] ⟨h1, trivial⟩ ?_
    refine xe_then ?_
    refine x_seq ?_
    refine x_false rfl ?_
    refine x_exit ?_
    refine xe_exit_then ?_
    refine xe_loop_exit ?_
    refine xe_exit_same ?_
    refine xe_then ?_
    refine xR [] [4] [705] [.arr 705] [some (tAMatch ls)] [] trivial ?_
    refine x_ret ?_
    refine xe_weak [(7211, 705)] (T := [(4, .arr 7211)]) (O := [(7211, tAMatch ls)]) rfl (⟨.inl rfl, trivial⟩) (⟨.inl rfl, trivial⟩) ?_
    refine xe_end ls (show (ls = mtS s feats s.Templates.length) ∧ (True) from ⟨(by (rw [hls, hie])), trivial⟩) (⟨.inl rfl, trivial⟩) (.arr 7211) (by kernel_rfl) (.inl rfl) (fun h => by cases h) (fun h => by cases h)
  obtain ⟨ms, ⟨hh0, _⟩, hc⟩ := hh
  exact ⟨ms, hh0, hc⟩



-- impl.Hyp]
theorem cloneH0_ok (s : List Hyp) (hl : s.length ≤ 100000) : ∃ (out : List Hyp), (out = s) ∧ CallOK Tryz.prog 87 [slHyp false s] (lookO []) false (.arr 8471) (lookO [(8471, .arr 2 out.length (fHyp out))]) := by
  refine ⟨s, rfl, ?_⟩
  refine fn_okL [] [(8471, .arr 2 s.length (fHyp s))] (fn := Tryz.f87) (nt := 8) Tryz.func87 rfl rfl (args := [slHyp false s]) rfl (allcons (.inl ⟨rfl, tagHyp false _⟩) allnil) (res := .arr 8471) (fun B hB => ?_)
  refine aw_seq ?_
  refine aw_reg [] [0] [] [slHyp false s] [] [] (by kernel_rfl) hB trivial ?_
  refine ae_then ?_
  refine aw_seq ?_
  refine aw_seq ?_
  refine aw_reg [] [0, 4] [] [slHyp false s, .nilq s.length] [] [] (by kernel_rfl) hB trivial ?_
  refine ae_then ?_
  refine aw_nilq (n := s.length) rfl (fun h1 => ?_) ?_
  · refine aw_seq ?_
    refine aw_reg [] [2] [] [nilA] [] [] (by kernel_rfl) hB trivial ?_
    refine ae_then ?_
    refine aw_ret ?_
    refine ae_ret_then ?_
    refine ae_nil hB 2 8471 2 (fun _ => []) (by kernel_rfl) ?_
    refine ae_weak hB [] (T := [(2, .arr 8471)]) (O := [(8471, .arr 2 s.length (fHyp s))]) rfl (⟨.inl rfl, trivial⟩) (⟨.inr ⟨rfl, (by omega), fun i_ hi_ => absurd hi_ (by omega)⟩, trivial⟩) ?_
    refine ae_retL hB [(8471, .arr 2 s.length (fHyp s))] (⟨.inl rfl, trivial⟩) (.arr 8471) (by kernel_rfl) (.inl rfl) (fun h => by cases h) (fun h => by cases h)
  · refine aw_skip ?_
    refine ae_then ?_
    refine aw_seq ?_
    refine aw_reg [(0, .new 5), (2, .new 7)] [2] [7] [.arr 7] [some (.arr 2 (0 + s.length) (catF 0 (litF [] 2) (fHyp s)))] [(0 + s.length) * 24 ≤ 140737488355328] (by kernel_rfl) hB ⟨(by omega), trivial⟩ ?_
    refine ae_then ?_
    refine aw_ret ?_
    refine ae_weak hB [(8471, 7)] (T := [(2, .arr 8471)]) (O := [(8471, .arr 2 s.length (fHyp s))]) rfl (⟨.inl rfl, trivial⟩) (⟨.inr ⟨rfl, (by simp), fun i_ hi_ => .inl (cat_nil i_)⟩, trivial⟩) ?_
    refine ae_retL hB [(8471, .arr 2 s.length (fHyp s))] (⟨.inl rfl, trivial⟩) (.arr 8471) (by kernel_rfl) (.inl rfl) (fun h => by cases h) (fun h => by cases h)


-- bits.Len
theorem lenU_ok (x : Int) (h : 0 ≤ x ∧ x ≤ 18446744073709551615) : Con Tryz.prog 67 [.val (.int .u64 x)] true (I ((Lib.bitLen x.toNat : Nat) : Int)) := by
  refine con_of_calls (vals := [.int .u64 x]) fun w _ => ?_
  refine (Tryz.bits_Len x w h.1 h.2).mono ?_
  rintro e w' ⟨rfl, rfl⟩
  exact ⟨rfl, Below.refl _ _⟩



-- cmp.isNaN[int64]
theorem isNaNI_ok (x : Int) : Con Tryz.prog 115 [I x] true (Bv false) := by
  refine fn_ok (fn := Tryz.f115) (nt := 6) Tryz.func115 rfl rfl rfl rfl (by simp [taggedL, tagged]) fun B hB => ?_
  refine aR [] [0] [] [I x] [] [] hB trivial ?_
  refine aR [(2, .dec false)] [2] [] [Bv false] [] [¬ (x ≠ x)] hB ⟨(fun hq => hq rfl), trivial⟩ ?_
  refine aw_ret ?_
  refine ae_ret hB (Bv false) (by kernel_rfl) (.inl rfl) rfl (fun _ => trivial)



-- cmp.Compare[int64]
theorem CompareI_ok (x : Int) (y : Int) : Con Tryz.prog 69 [I x, I y] true (I (cmpI x y)) := by
  refine fn_ok (fn := Tryz.f69) (nt := 20) Tryz.func69 rfl rfl rfl rfl (by simp [taggedL, tagged]) fun B hB => ?_
  refine aR [] [0, 1] [] [I x, I y] [] [] hB trivial ?_
  refine aR [(1, .call [(true, .any)] true (Bv false))] [0, 1, 5] [] [I x, I y, Bv false] [] [Con Tryz.prog 115 [I x] true (Bv false) ∧ True] hB ⟨⟨(isNaNI_ok x), trivial⟩, trivial⟩ ?_
  refine aR [(1, .call [(true, .any)] true (Bv false))] [0, 1, 5, 6] [] [I x, I y, Bv false, Bv false] [] [Con Tryz.prog 115 [I y] true (Bv false) ∧ True] hB ⟨⟨(isNaNI_ok y), trivial⟩, trivial⟩ ?_
  refine aw_seq ?_
  refine aR [] [0, 1, 6, 11] [] [I x, I y, Bv false, Bv false] [] [] hB trivial ?_
  refine aw_false rfl ?_
  refine aw_skip ?_
  refine ae_then ?_
  refine aw_seq ?_
  refine aR [] [0, 1, 13] [] [I x, I y, Bv false] [] [] hB trivial ?_
  refine aw_false rfl ?_
  refine aw_skip ?_
  refine ae_then ?_
  refine aw_seq ?_
  refine aw_seq ?_
  by_cases h1 : x < y
  ·refine aw_r [(2, .dec true)] [0, 1, 16] [] [I x, I y, Bv true] [] [x < y] hB ⟨h1, trivial⟩ ?_
   refine ae_then ?_
   refine aw_true rfl ?_
   refine aR [] [4] [] [I (-1)] [] [] hB trivial ?_
   refine aw_ret ?_
   refine ae_ret_then ?_
   refine ae_ret hB (I (-1)) (by kernel_rfl) (.inl (by refine congrArg I ?_; unfold cmpI; first | (rw [if_pos (by omega)]; done) | (rw [if_neg (by omega), if_pos (by omega)]; done) | (rw [if_neg (by omega), if_neg (by omega)]; done))) rfl (fun _ => trivial)
  refine aw_r [(2, .dec false)] [0, 1, 16] [] [I x, I y, Bv false] [] [¬ (x < y)] hB ⟨h1, trivial⟩ ?_
  refine ae_then ?_
  refine aw_false rfl ?_
  refine aw_skip ?_
  refine ae_then ?_
  refine aw_seq ?_
  refine aw_seq ?_
  by_cases h2 : y < x
  ·refine aw_r [(2, .dec true)] [19] [] [Bv true] [] [y < x] hB ⟨h2, trivial⟩ ?_
   refine ae_then ?_
   refine aw_true rfl ?_
   refine aR [] [4] [] [I 1] [] [] hB trivial ?_
   refine aw_ret ?_
   refine ae_ret_then ?_
   refine ae_ret hB (I 1) (by kernel_rfl) (.inl (by refine congrArg I ?_; unfold cmpI; first | (rw [if_pos (by omega)]; done) | (rw [if_neg (by omega), if_pos (by omega)]; done) | (rw [if_neg (by omega), if_neg (by omega)]; done))) rfl (fun _ => trivial)
  refine aw_r [(2, .dec false)] [19] [] [Bv false] [] [¬ (y < x)] hB ⟨h2, trivial⟩ ?_
  refine ae_then ?_
  refine aw_false rfl ?_
  refine aw_skip ?_
  refine ae_then ?_
  refine aR [] [4] [] [I 0] [] [] hB trivial ?_
  refine aw_ret ?_
  refine ae_ret hB (I 0) (by kernel_rfl) (.inl (by refine congrArg I ?_; unfold cmpI; first | (rw [if_pos (by omega)]; done) | (rw [if_neg (by omega), if_pos (by omega)]; done) | (rw [if_neg (by omega), if_neg (by omega)]; done))) rfl (fun _ => trivial)



-- cmp.isNaN[string]
theorem isNaNS_ok (x : ByteArray) : Con Tryz.prog 116 [Sv x] true (Bv false) := by
  refine fn_ok (fn := Tryz.f116) (nt := 6) Tryz.func116 rfl rfl rfl rfl (by simp [taggedL, tagged]) fun B hB => ?_
  refine aR [] [0] [] [Sv x] [] [] hB trivial ?_
  refine aR [(2, .dec false)] [2] [] [Bv false] [] [¬ (x ≠ x)] hB ⟨(fun hq => hq rfl), trivial⟩ ?_
  refine aw_ret ?_
  refine ae_ret hB (Bv false) (by kernel_rfl) (.inl rfl) rfl (fun _ => trivial)



-- cmp.Compare[string]
theorem CompareS_ok (x : ByteArray) (y : ByteArray) : Con Tryz.prog 70 [Sv x, Sv y] true (I (cmpS x y)) := by
  refine fn_ok (fn := Tryz.f70) (nt := 20) Tryz.func70 rfl rfl rfl rfl (by simp [taggedL, tagged]) fun B hB => ?_
  refine aR [] [0, 1] [] [Sv x, Sv y] [] [] hB trivial ?_
  refine aR [(1, .call [(true, .any)] true (Bv false))] [0, 1, 5] [] [Sv x, Sv y, Bv false] [] [Con Tryz.prog 116 [Sv x] true (Bv false) ∧ True] hB ⟨⟨(isNaNS_ok x), trivial⟩, trivial⟩ ?_
  refine aR [(1, .call [(true, .any)] true (Bv false))] [0, 1, 5, 6] [] [Sv x, Sv y, Bv false, Bv false] [] [Con Tryz.prog 116 [Sv y] true (Bv false) ∧ True] hB ⟨⟨(isNaNS_ok y), trivial⟩, trivial⟩ ?_
  refine aw_seq ?_
  refine aR [] [0, 1, 6, 11] [] [Sv x, Sv y, Bv false, Bv false] [] [] hB trivial ?_
  refine aw_false rfl ?_
  refine aw_skip ?_
  refine ae_then ?_
  refine aw_seq ?_
  refine aR [] [0, 1, 13] [] [Sv x, Sv y, Bv false] [] [] hB trivial ?_
  refine aw_false rfl ?_
  refine aw_skip ?_
  refine ae_then ?_
  refine aw_seq ?_
  refine aw_seq ?_
  by_cases h1 : sless x y = true
  ·refine aw_r [(2, .dec true)] [0, 1, 16] [] [Sv x, Sv y, Bv true] [] [sless x y = true] hB ⟨h1, trivial⟩ ?_
   refine ae_then ?_
   refine aw_true rfl ?_
   refine aR [] [4] [] [I (-1)] [] [] hB trivial ?_
   refine aw_ret ?_
   refine ae_ret_then ?_
   refine ae_ret hB (I (-1)) (by kernel_rfl) (.inl (by refine congrArg I ?_; unfold cmpS; first | (rw [if_pos (by assumption)]; done) | (rw [if_neg (by assumption), if_pos (by assumption)]; done) | (rw [if_neg (by assumption), if_neg (by assumption)]; done))) rfl (fun _ => trivial)
  refine aw_r [(2, .dec false)] [0, 1, 16] [] [Sv x, Sv y, Bv false] [] [¬ (sless x y = true)] hB ⟨h1, trivial⟩ ?_
  refine ae_then ?_
  refine aw_false rfl ?_
  refine aw_skip ?_
  refine ae_then ?_
  refine aw_seq ?_
  refine aw_seq ?_
  by_cases h2 : sless x y = false ∧ x ≠ y
  ·refine aw_r [(2, .dec true)] [19] [] [Bv true] [] [sless x y = false ∧ x ≠ y] hB ⟨h2, trivial⟩ ?_
   refine ae_then ?_
   refine aw_true rfl ?_
   refine aR [] [4] [] [I 1] [] [] hB trivial ?_
   refine aw_ret ?_
   refine ae_ret_then ?_
   refine ae_ret hB (I 1) (by kernel_rfl) (.inl (by refine congrArg I ?_; unfold cmpS; first | (rw [if_pos (by assumption)]; done) | (rw [if_neg (by assumption), if_pos (by assumption)]; done) | (rw [if_neg (by assumption), if_neg (by assumption)]; done))) rfl (fun _ => trivial)
  refine aw_r [(2, .dec false)] [19] [] [Bv false] [] [¬ (sless x y = false ∧ x ≠ y)] hB ⟨h2, trivial⟩ ?_
  refine ae_then ?_
  refine aw_false rfl ?_
  refine aw_skip ?_
  refine ae_then ?_
  refine aR [] [4] [] [I 0] [] [] hB trivial ?_
  refine aw_ret ?_
  refine ae_ret hB (I 0) (by kernel_rfl) (.inl (by refine congrArg I ?_; unfold cmpS; first | (rw [if_pos (by assumption)]; done) | (rw [if_neg (by assumption), if_pos (by assumption)]; done) | (rw [if_neg (by assumption), if_neg (by assumption)]; done))) rfl (fun _ => trivial)



-- cmp.Or[int]
theorem OrI_ok (vals : List Int) : Con Tryz.prog 68 [slI false vals] true (I (orL vals)) := by
  refine fn_ok (fn := Tryz.f68) (nt := 18) Tryz.func68 rfl rfl rfl rfl (by simp [taggedL, tagged, tagI]) fun B hB => ?_
  refine aw_lens (x := slI false vals) 0 rfl (fun len_vals => ?_)
  simp [LenOK, LenL, cI, fI, slI] at len_vals
  refine aR [] [0] [] [slI false vals] [] [] hB trivial ?_
  refine aR [] [0, 3] [] [slI false vals, I 0] [] [] hB trivial ?_
  refine aw_seq ?_
  refine aR [] [3, 6, 7, 8] [] [I 0, slI false vals, I (vals.length : Int), I 0] [] [] hB trivial ?_
  refine aw_block ?_
  refine aw_loop (fun gn gσ => ∃ (t8 : Int), gn = ((vals.length : Int) - t8).toNat ∧ (0 ≤ t8 ∧ t8 ≤ (vals.length : Int)) ∧ (∀ j : Nat, (j : Int) < t8 → at_ vals j = 0) ∧ gσ = mkS [(3, I 0), (6, slI false vals), (7, I (vals.length : Int)), (8, I t8)] []) (((vals.length : Int) - 0).toNat) ⟨0, rfl, (by omega), (by intro j hj; omega), rfl⟩ (fun gn gσ hI => ?_)
  obtain ⟨t8, rfl, hi0, hz0, rfl⟩ := hI
  refine aw_seq ?_
  by_cases h1 : t8 < (vals.length : Int)
  ·have hi : t8.toNat < vals.length := by omega
   refine aw_r [(0, .dec true)] [3, 6, 7, 8, 9] [] [I 0, slI false vals, I (vals.length : Int), I t8, Bv true] [] [t8 < (vals.length : Int)] hB ⟨h1, trivial⟩ ?_
   refine ae_then ?_
   refine aw_seq ?_
   refine aw_true rfl ?_
   refine aw_skip ?_
   refine ae_then ?_
   refine aw_seq ?_
   refine aw_block ?_
   refine aR [] [3, 5, 6, 7, 8] [] [I 0, I (at_ vals t8.toNat), slI false vals, I (vals.length : Int), I t8] [] [(0 : Int) ≤ t8 ∧ t8 < (vals.length : Int)] hB ⟨⟨(by omega), (by omega)⟩, trivial⟩ ?_
   refine aw_seq ?_
   by_cases h2 : (at_ vals t8.toNat) = 0
   ·refine aw_r [(2, .dec false)] [3, 5, 6, 7, 8, 14] [] [I 0, I (at_ vals t8.toNat), slI false vals, I (vals.length : Int), I t8, Bv false] [] [¬ ((at_ vals t8.toNat) ≠ 0)] hB ⟨(fun hq => hq h2), trivial⟩ ?_
    refine ae_then ?_
    refine aw_false rfl ?_
    refine aw_skip ?_
    refine ae_block 1 ?_
    refine ae_then ?_
    refine aw_r [] [3, 6, 7, 8] [] [I 0, slI false vals, I (vals.length : Int), I (t8 + 1)] [] [inR .i64 (t8 + 1)] hB ⟨(inR_i64 (by omega) (by omega)), trivial⟩ ?_
    exact ae_again _ (by omega) ⟨(t8 + 1), rfl, (by omega), (by intro j hj; by_cases ej : j = t8.toNat; (subst ej; assumption); exact hz0 j (by omega)), rfl⟩
   refine aw_r [(2, .dec true)] [3, 5, 6, 7, 8, 14] [] [I 0, I (at_ vals t8.toNat), slI false vals, I (vals.length : Int), I t8, Bv true] [] [(at_ vals t8.toNat) ≠ 0] hB ⟨h2, trivial⟩ ?_
   refine ae_then ?_
   refine aw_true rfl ?_
   refine aR [] [2] [] [I (at_ vals t8.toNat)] [] [] hB trivial ?_
   refine aw_ret ?_
   refine ae_ret_block (ae_ret_then (ae_ret_then (ae_ret_block (ae_ret_then ?_))))
   refine ae_ret hB (I (at_ vals t8.toNat)) (by kernel_rfl) (.inl (by refine congrArg I ?_; first | (rw [orL_none (fun j hj => hz0 j (by omega))]; done) | (rw [orL_at hi (fun j hj => hz0 j (by omega)) (by assumption)]; done) | (rw [orL_at hi (fun j hj => hz0 j (by omega)) (by assumption)]))) rfl (fun _ => trivial)
  refine aw_r [(0, .dec false)] [3, 6, 7, 8, 9] [] [I 0, slI false vals, I (vals.length : Int), I t8, Bv false] [] [¬ (t8 < (vals.length : Int))] hB ⟨h1, trivial⟩ ?_
  refine ae_then ?_
  refine aw_seq ?_
  refine aw_false rfl ?_
  refine aw_exit ?_
  refine ae_exit_then ?_
  refine ae_exit_then ?_
  refine ae_exit_same ?_
  refine ae_then ?_
  refine aR [] [2] [] [I 0] [] [] hB trivial ?_
  refine aw_ret ?_
  refine ae_ret hB (I 0) (by kernel_rfl) (.inl (by refine congrArg I ?_; first | (rw [orL_none (fun j hj => hz0 j (by omega))]; done) | (rw [orL_at hi (fun j hj => hz0 j (by omega)) (by assumption)]; done) | (rw [orL_at hi (fun j hj => hz0 j (by omega)) (by assumption)]))) rfl (fun _ => trivial)



-- impl.compareHyps
theorem compareHyps_ok (a : Hyp) (b : Hyp) : Con Tryz.prog 89 [agHyp a, agHyp b] true (I (cmpH a b)) := by
  refine fn_ok (fn := Tryz.f89) (nt := 17) Tryz.func89 rfl rfl rfl rfl (by simp [taggedL, tagged]) fun B hB => ?_
  refine aR [(0, .new 2), (1, .new 3)] [2, 3] [2, 3] [.ref 2 0, .ref 3 0] [some (bxHyp a), some (bxHyp b)] [] hB trivial ?_
  refine aR [(4, .call [(true, .any), (true, .any)] true (I (cmpI a.Cost b.Cost))), (9, .call [(true, .any), (true, .any)] true (I (cmpS a.Label b.Label))), (10, .new 15), (11, .call [(false, slI false ([(cmpI a.Cost b.Cost), (cmpS a.Label b.Label)]))] true (I (orL ([(cmpI a.Cost b.Cost), (cmpS a.Label b.Label)]))))] [4] [] [I (orL ([(cmpI a.Cost b.Cost), (cmpS a.Label b.Label)]))] [] [Con Tryz.prog 69 [I a.Cost, I b.Cost] true (I (cmpI a.Cost b.Cost)) ∧ True, Con Tryz.prog 70 [Sv a.Label, Sv b.Label] true (I (cmpS a.Label b.Label)) ∧ True, Con Tryz.prog 68 [slI false ([(cmpI a.Cost b.Cost), (cmpS a.Label b.Label)])] true (I (orL ([(cmpI a.Cost b.Cost), (cmpS a.Label b.Label)]))) ∧ ((false = true → true = true) ∧ 1 = 1 ∧ 2 = (([(cmpI a.Cost b.Cost), (cmpS a.Label b.Label)]).length) ∧ ∀ i_, i_ < (([(cmpI a.Cost b.Cost), (cmpS a.Label b.Label)]).length) → (litF [I (cmpI a.Cost b.Cost), I (cmpS a.Label b.Label)] 1) i_ = (fI ([(cmpI a.Cost b.Cost), (cmpS a.Label b.Label)])) i_ ∨ (AV.idsL ((fI ([(cmpI a.Cost b.Cost), (cmpS a.Label b.Label)])) i_) = [] ∧ leL (fun _ => none) false ((litF [I (cmpI a.Cost b.Cost), I (cmpS a.Label b.Label)] 1) i_) ((fI ([(cmpI a.Cost b.Cost), (cmpS a.Label b.Label)])) i_))) ∧ True] hB ⟨⟨(CompareI_ok a.Cost b.Cost), trivial⟩, ⟨(CompareS_ok a.Label b.Label), trivial⟩, ⟨(OrI_ok ([(cmpI a.Cost b.Cost), (cmpS a.Label b.Label)])), ⟨(fun h => by cases h), rfl, (by first | rfl | (simp; done) | (simp; omega) | omega), fun i_ hi_ => .inl (match i_, hi_ with | 0, _ => rfl | 1, _ => rfl | (i + 2), h => absurd h (by simp))⟩, trivial⟩, trivial⟩ ?_
  refine aw_ret ?_
  refine ae_ret hB (I (orL ([(cmpI a.Cost b.Cost), (cmpS a.Label b.Label)]))) (by kernel_rfl) (.inl (by rfl)) rfl (fun _ => trivial)



-- impl.hypsOf$1
theorem hypsOf1_ok (g : Hyp) (h : Hyp) : Con Tryz.prog 91 [agHyp g, .ptr false [Sv h.Label, I h.Cost]] true (Bv (decide (g.Label = h.Label))) := by
  refine fn_ok (fn := Tryz.f91) (nt := 9) Tryz.func91 rfl rfl rfl rfl (by simp [taggedL, tagged]) fun B hB => ?_
  refine aR [(0, .new 2)] [1, 2] [2] [.ptr false [Sv h.Label, I h.Cost], .ref 2 0] [some (bxHyp g)] [] hB trivial ?_
  refine aR [] [3] [] [Bv (decide (g.Label = h.Label))] [] [] hB trivial ?_
  refine aw_ret ?_
  refine ae_ret hB (Bv (decide (g.Label = h.Label))) (by kernel_rfl) (.inl rfl) rfl (fun _ => trivial)



-- impl.hypsOf
theorem shHins_ok (data : List Hyp) (a : Int) (b : Int) (hb : a = 0 ∧ b = (data.length : Int)) (hl : data.length < 20) : ∃ (data' : List Hyp), (data' = isoL cmpH data data.length) ∧ CallOK Tryz.prog 168 [.arr 8471, I a, I b, .fn 89 []] (lookO [(8471, tAHyp data)]) true (.tup []) (lookO [(8471, tAHyp data')]) := by
  have hh : ∃ r : (List Hyp), ((r = isoL cmpH data data.length) ∧ (True)) ∧ CallOK Tryz.prog 168 [.arr 8471, I a, I b, .fn 89 []] (lookO [(8471, tAHyp data)]) true (.tup []) (lookO [(8471, tAHyp r)]) := by
    refine fn_okX (Φ := fun r : (List Hyp) => (r = isoL cmpH data data.length) ∧ (True)) [(8471, tAHyp data)] (fun r => [(8471, tAHyp r)]) (fn := Tryz.f168) (nt := 53) Tryz.func168 rfl rfl (args := [.arr 8471, I a, I b, .fn 89 []]) rfl (allcons (.inr trivial) (allcons (.inl ⟨rfl, trivial⟩) (allcons (.inl ⟨rfl, trivial⟩) (allcons (.inl ⟨rfl, trivial⟩) allnil)))) (res := fun r => .tup []) ?_
    refine xR [] [0, 1, 2, 3, 8] [8471] [.arr 8471, I a, I b, .fn 89 [], I (a + 1)] [some (tAHyp data)] [inR .i64 (a + 1)] ⟨(inR_i64 (by omega) (by omega)), trivial⟩ ?_
    refine x_block ?_
    refine x_loop (X := Int × (List Hyp)) (fun x => mkS [(0, .arr 8471), (1, I a), (2, I b), (3, .fn 89 []), (8, I x.1)] [(8471, tAHyp x.2)]) (fun x => (1 ≤ x.1 ∧ (x.1 ≤ (data.length : Int) ∨ x.1 = 1)) ∧ (x.2 = isoL cmpH data (min x.1.toNat data.length) ++ data.drop x.1.toNat) ∧ True) (fun x => ((data.length : Int) - x.1).toNat) ((a + 1), data) rfl (show (1 ≤ (a + 1) ∧ ((a + 1) ≤ (data.length : Int) ∨ (a + 1) = 1)) ∧ (data = isoL cmpH data (min (a + 1).toNat data.length) ++ data.drop (a + 1).toNat) ∧ True from ⟨(by omega), (by first | exact iso_start _ _ | (rw [show (a + 1).toNat = 1 from by omega]; exact iso_start _ _)), trivial⟩) (fun x hI => ?_)
    obtain ⟨i, ys⟩ := x
    obtain ⟨hi0, hys, _⟩ : (1 ≤ i ∧ (i ≤ (data.length : Int) ∨ i = 1)) ∧ (ys = isoL cmpH data (min i.toNat data.length) ++ data.drop i.toNat) ∧ True := hI
    show XW _ _ _ _ (mkS [(0, .arr 8471), (1, I a), (2, I b), (3, .fn 89 []), (8, I i)] [(8471, tAHyp ys)]) _ _
    refine x_seq ?_
    refine x_seq ?_
    by_cases h1 : i < b
    ·have hi : i.toNat < data.length := by omega
     have hmi : min i.toNat data.length = i.toNat := by omega
     rw [hmi, iso_in hi] at hys
     have hpl := isoL_len cmpH data i.toNat
     have hyl : ys.length = data.length := by rw [hys, List.length_append, shf_len (by omega), List.length_drop, hpl]; omega
     refine x_r [(2, .dec true)] [0, 1, 2, 3, 8, 14] [8471] [.arr 8471, I a, I b, .fn 89 [], I i, Bv true] [some (tAHyp ys)] [i < b] ⟨h1, trivial⟩ ?_
     refine xe_then ?_
     refine x_true rfl ?_
     refine x_skip ?_
     refine xe_then ?_
     refine x_seq ?_
     refine x_block ?_
     refine xR [] [0, 1, 2, 3, 8, 9] [8471] [.arr 8471, I a, I b, .fn 89 [], I i, I i] [some (tAHyp ys)] [] trivial ?_
     refine x_block ?_
     refine x_loop (X := Int × (List Hyp)) (fun x => mkS [(0, .arr 8471), (1, I a), (2, I b), (3, .fn 89 []), (8, I i), (9, I x.1)] [(8471, tAHyp x.2)]) (fun x => (0 ≤ x.1 ∧ x.1 ≤ i) ∧ (x.2 = shfL (isoL cmpH data i.toNat) (at_ data i.toNat) x.1.toNat ++ data.drop (i.toNat + 1)) ∧ (∀ k : Nat, x.1 ≤ (k : Int) → (k : Int) < i → cmpH (at_ data i.toNat) (at_ (isoL cmpH data i.toNat) k) < 0) ∧ True) (fun x => x.1.toNat) (i, ys) rfl (show (0 ≤ i ∧ i ≤ i) ∧ (ys = shfL (isoL cmpH data i.toNat) (at_ data i.toNat) i.toNat ++ data.drop (i.toNat + 1)) ∧ (∀ k : Nat, i ≤ (k : Int) → (k : Int) < i → cmpH (at_ data i.toNat) (at_ (isoL cmpH data i.toNat) k) < 0) ∧ True from ⟨(by omega), (by first | exact hys | (rw [hys]; done)), (by intro k h1 h2; omega), trivial⟩) (fun x hI => ?_)
     obtain ⟨j, ys'⟩ := x
     obtain ⟨hj0, hin, hgt, _⟩ : (0 ≤ j ∧ j ≤ i) ∧ (ys' = shfL (isoL cmpH data i.toNat) (at_ data i.toNat) j.toNat ++ data.drop (i.toNat + 1)) ∧ (∀ k : Nat, j ≤ (k : Int) → (k : Int) < i → cmpH (at_ data i.toNat) (at_ (isoL cmpH data i.toNat) k) < 0) ∧ True := hI
     show XW _ _ _ _ (mkS [(0, .arr 8471), (1, I a), (2, I b), (3, .fn 89 []), (8, I i), (9, I j)] [(8471, tAHyp ys')]) _ _
     refine x_seq ?_
     refine x_seq ?_
     by_cases h2 : a < j
     ·have hyl' : ys'.length = data.length := by rw [hin, List.length_append, shf_len (by omega), List.length_drop, hpl]; omega
      have e1 : at_ ys' j.toNat = (at_ data i.toNat) := by rw [hin]; exact shf_at (by omega)
      have e2 : at_ ys' (j - 1).toNat = at_ (isoL cmpH data i.toNat) (j.toNat - 1) := by rw [hin, shf_below (by omega) (by omega)]; congr 1; omega
      by_cases h3 : (cmpH (at_ ys' j.toNat) (at_ ys' ((j - 1).toNat))) < 0
      ·have hq := h3
       rw [e1, e2] at hq
       have hst : (ys'.set j.toNat (at_ ys' (j - 1).toNat)).set (j - 1).toNat (at_ ys' j.toNat) = shfL (isoL cmpH data i.toNat) (at_ data i.toNat) (j - 1).toNat ++ data.drop (i.toNat + 1) := by have q := shf_step (p := (isoL cmpH data i.toNat)) (x := (at_ data i.toNat)) (r := data.drop (i.toNat + 1)) (j := (j - 1).toNat) (by omega); rw [show (j - 1).toNat + 1 = j.toNat from by omega] at q; rw [e1, e2, hin, ← q, show j.toNat - 1 = (j - 1).toNat from by omega]
       have hgn : ∀ k : Nat, j - 1 ≤ (k : Int) → (k : Int) < i → cmpH (at_ data i.toNat) (at_ (isoL cmpH data i.toNat) k) < 0 := fun k h1 h2 => by by_cases e : (k : Int) = j - 1; (rw [show k = j.toNat - 1 from by omega]; exact hq); exact hgt k (by omega) h2
       refine x_r [(2, .dec true), (14, .call [(true, .any), (true, .any)] true (I (cmpH (at_ ys' j.toNat) (at_ ys' ((j - 1).toNat))))), (15, .dec true)] [0, 1, 2, 3, 8, 9, 34] [8471] [.arr 8471, I a, I b, .fn 89 [], I i, I j, Bv true] [some (tAHyp ys')] [a < j, (0 : Int) ≤ j ∧ j < (ys'.length : Int), j.toNat < ys'.length, inR .i64 (j - 1), (0 : Int) ≤ (j - 1) ∧ (j - 1) < (ys'.length : Int), (j - 1).toNat < ys'.length, Con Tryz.prog 89 [agHyp (at_ ys' j.toNat), agHyp (at_ ys' ((j - 1).toNat))] true (I (cmpH (at_ ys' j.toNat) (at_ ys' ((j - 1).toNat)))) ∧ True, (cmpH (at_ ys' j.toNat) (at_ ys' ((j - 1).toNat))) < 0] ⟨h2, ⟨(by omega), (by omega)⟩, (by omega), (inR_i64 (by omega) (by omega)), ⟨(by omega), (by omega)⟩, (by omega), ⟨(compareHyps_ok (at_ ys' j.toNat) (at_ ys' ((j - 1).toNat))), trivial⟩, h3, trivial⟩ ?_
       refine xe_then ?_
       refine x_true rfl ?_
       refine x_skip ?_
       refine xe_then ?_
       refine x_seq ?_
       refine x_block ?_
       refine x_r [] [0, 1, 2, 3, 8, 9] [8471] [.arr 8471, I a, I b, .fn 89 [], I i, I j] [some (.arr 2 ys'.length (fun q => bif Nat.beq q ((j - 1).toNat) then spl ((fun q => bif Nat.beq q j.toNat then [Sv ((at_ ys' ((j - 1).toNat)).Label), I ((at_ ys' ((j - 1).toNat)).Cost)] else (fHyp ys') q) ((j - 1).toNat)) 0 [Sv ((at_ ys' j.toNat).Label), I ((at_ ys' j.toNat).Cost)] else (fun q => bif Nat.beq q j.toNat then [Sv ((at_ ys' ((j - 1).toNat)).Label), I ((at_ ys' ((j - 1).toNat)).Cost)] else (fHyp ys') q) q))] [inR .i64 (j - 1), inR .i64 (j - 1), (0 : Int) ≤ (j - 1) ∧ (j - 1) < (ys'.length : Int), (j - 1).toNat < ys'.length, (0 : Int) ≤ j ∧ j < (ys'.length : Int), j.toNat < ys'.length, (0 : Int) ≤ j ∧ j < (ys'.length : Int), j.toNat < ys'.length, (0 : Int) ≤ (j - 1) ∧ (j - 1) < (ys'.length : Int), (j - 1).toNat < ys'.length] ⟨(inR_i64 (by omega) (by omega)), (inR_i64 (by omega) (by omega)), ⟨(by omega), (by omega)⟩, (by omega), ⟨(by omega), (by omega)⟩, (by omega), ⟨(by omega), (by omega)⟩, (by omega), ⟨(by omega), (by omega)⟩, (by omega), trivial⟩ ?_
       refine xe_block 3 ?_
       refine xe_then ?_
       refine x_r [] [0, 1, 2, 3, 8, 9] [8471] [.arr 8471, I a, I b, .fn 89 [], I i, I (j - 1)] [some (.arr 2 ys'.length (fun q => bif Nat.beq q ((j - 1).toNat) then spl ((fun q => bif Nat.beq q j.toNat then [Sv ((at_ ys' ((j - 1).toNat)).Label), I ((at_ ys' ((j - 1).toNat)).Cost)] else (fHyp ys') q) ((j - 1).toNat)) 0 [Sv ((at_ ys' j.toNat).Label), I ((at_ ys' j.toNat).Cost)] else (fun q => bif Nat.beq q j.toNat then [Sv ((at_ ys' ((j - 1).toNat)).Label), I ((at_ ys' ((j - 1).toNat)).Cost)] else (fHyp ys') q) q))] [inR .i64 (j - 1)] ⟨(inR_i64 (by omega) (by omega)), trivial⟩ ?_
       refine xe_weak [] (T := [(0, .arr 8471), (1, I a), (2, I b), (3, .fn 89 []), (8, I i), (9, I (j - 1))]) (O := [(8471, tAHyp ((ys'.set j.toNat (at_ ys' ((j - 1).toNat))).set ((j - 1).toNat) (at_ ys' j.toNat)))]) rfl (⟨.inl rfl, .inl rfl, .inl rfl, .inl rfl, .inl rfl, .inl rfl, trivial⟩) (⟨.inr ⟨rfl, (by first | rfl | (simp; done) | (simp; omega) | omega), fun i_ hi_ => .inl (upd_spl (enc := cHyp) (fun i_ hi_ => (upd_enc (enc := cHyp) rfl i_ hi_)) ((by first | omega | (simp only [List.length_set]; omega))) rfl i_ hi_)⟩, trivial⟩) (xe_again ((j - 1), ((ys'.set j.toNat (at_ ys' ((j - 1).toNat))).set ((j - 1).toNat) (at_ ys' j.toNat))) rfl (show (0 ≤ (j - 1) ∧ (j - 1) ≤ i) ∧ (((ys'.set j.toNat (at_ ys' ((j - 1).toNat))).set ((j - 1).toNat) (at_ ys' j.toNat)) = shfL (isoL cmpH data i.toNat) (at_ data i.toNat) (j - 1).toNat ++ data.drop (i.toNat + 1)) ∧ (∀ k : Nat, (j - 1) ≤ (k : Int) → (k : Int) < i → cmpH (at_ data i.toNat) (at_ (isoL cmpH data i.toNat) k) < 0) ∧ True from ⟨(by omega), (by exact hst), (by exact hgn), trivial⟩) (by first | (show ((j - 1).toNat : Nat) < j.toNat; omega) | (dsimp only; omega)))
      have hq := h3
      rw [e1, e2] at hq
      have hio := iso_out (c := cmpH) (xs := data) (i := i.toNat) (j := j.toNat) (by omega) (fun k h1 h2 => hgt k (by omega) (by omega)) (Or.inr hq)
      rw [hio] at hin
      refine x_r [(2, .dec true), (14, .call [(true, .any), (true, .any)] true (I (cmpH (at_ ys' j.toNat) (at_ ys' ((j - 1).toNat))))), (15, .dec false)] [0, 1, 2, 3, 8, 9, 34] [8471] [.arr 8471, I a, I b, .fn 89 [], I i, I j, Bv false] [some (tAHyp ys')] [a < j, (0 : Int) ≤ j ∧ j < (ys'.length : Int), j.toNat < ys'.length, inR .i64 (j - 1), (0 : Int) ≤ (j - 1) ∧ (j - 1) < (ys'.length : Int), (j - 1).toNat < ys'.length, Con Tryz.prog 89 [agHyp (at_ ys' j.toNat), agHyp (at_ ys' ((j - 1).toNat))] true (I (cmpH (at_ ys' j.toNat) (at_ ys' ((j - 1).toNat)))) ∧ True, ¬ ((cmpH (at_ ys' j.toNat) (at_ ys' ((j - 1).toNat))) < 0)] ⟨h2, ⟨(by omega), (by omega)⟩, (by omega), (inR_i64 (by omega) (by omega)), ⟨(by omega), (by omega)⟩, (by omega), ⟨(compareHyps_ok (at_ ys' j.toNat) (at_ ys' ((j - 1).toNat))), trivial⟩, h3, trivial⟩ ?_
      refine xe_then ?_
      refine x_false rfl ?_
      refine x_exit ?_
      refine xe_exit_then ?_
      refine xe_loop_exit ?_
      refine xe_exit_same ?_
      refine xe_block 1 ?_
      refine xe_then ?_
      refine x_r [] [0, 1, 2, 3, 8] [8471] [.arr 8471, I a, I b, .fn 89 [], I (i + 1)] [some (tAHyp ys')] [inR .i64 (i + 1)] ⟨(inR_i64 (by omega) (by omega)), trivial⟩ ?_
      exact xe_again ((i + 1), ys') rfl (show (1 ≤ (i + 1) ∧ ((i + 1) ≤ (data.length : Int) ∨ (i + 1) = 1)) ∧ (ys' = isoL cmpH data (min (i + 1).toNat data.length) ++ data.drop (i + 1).toNat) ∧ True from ⟨(by omega), (by rw [hin, show (i + 1).toNat = i.toNat + 1 from by omega, show min (i.toNat + 1) data.length = i.toNat + 1 from by omega]), trivial⟩) (by first | (show (((data.length : Int) - (i + 1)).toNat : Nat) < ((data.length : Int) - i).toNat; omega) | (dsimp only; omega))
     have hio := iso_out (c := cmpH) (xs := data) (i := i.toNat) (j := j.toNat) (by omega) (fun k h1 h2 => hgt k (by omega) (by omega)) (Or.inl (by omega))
     rw [hio] at hin
     refine x_r [(2, .dec false)] [0, 1, 2, 3, 8, 9, 34] [8471] [.arr 8471, I a, I b, .fn 89 [], I i, I j, Bv false] [some (tAHyp ys')] [¬ (a < j)] ⟨h2, trivial⟩ ?_
     refine xe_then ?_
     refine x_false rfl ?_
     refine x_exit ?_
     refine xe_exit_then ?_
     refine xe_loop_exit ?_
     refine xe_exit_same ?_
     refine xe_block 1 ?_
     refine xe_then ?_
     refine x_r [] [0, 1, 2, 3, 8] [8471] [.arr 8471, I a, I b, .fn 89 [], I (i + 1)] [some (tAHyp ys')] [inR .i64 (i + 1)] ⟨(inR_i64 (by omega) (by omega)), trivial⟩ ?_
     exact xe_again ((i + 1), ys') rfl (show (1 ≤ (i + 1) ∧ ((i + 1) ≤ (data.length : Int) ∨ (i + 1) = 1)) ∧ (ys' = isoL cmpH data (min (i + 1).toNat data.length) ++ data.drop (i + 1).toNat) ∧ True from ⟨(by omega), (by rw [hin, show (i + 1).toNat = i.toNat + 1 from by omega, show min (i.toNat + 1) data.length = i.toNat + 1 from by omega]), trivial⟩) (by first | (show (((data.length : Int) - (i + 1)).toNat : Nat) < ((data.length : Int) - i).toNat; omega) | (dsimp only; omega))
    have hyf : ys = isoL cmpH data data.length := by rw [hys, show min i.toNat data.length = data.length from by omega, List.drop_eq_nil_of_le (by omega), List.append_nil]
    refine x_r [(2, .dec false)] [0, 1, 2, 3, 8, 14] [8471] [.arr 8471, I a, I b, .fn 89 [], I i, Bv false] [some (tAHyp ys)] [¬ (i < b)] ⟨h1, trivial⟩ ?_
    refine xe_then ?_
    refine x_false rfl ?_
    refine x_exit ?_
    refine xe_exit_then ?_
    refine xe_loop_exit ?_
    refine xe_exit_same ?_
    refine xe_norm ys (show (ys = isoL cmpH data data.length) ∧ (True) from ⟨(by exact hyf), trivial⟩) (⟨.inl rfl, trivial⟩) (.tup []) (by kernel_rfl) (.inl rfl) (fun _ => rfl) (fun _ => (by simp [tagged, taggedL]))
  obtain ⟨data', ⟨hh0, _⟩, hc⟩ := hh
  exact ⟨data', hh0, hc⟩

theorem shHpdq_ok (data : List Hyp) (a : Int) (b : Int) (limit : Int) (hb : a = 0 ∧ b = (data.length : Int)) (hl : data.length ≤ 12) : ∃ (data' : List Hyp), (data' = isoL cmpH data data.length) ∧ CallOK Tryz.prog 132 [.arr 8471, I a, I b, I limit, .fn 89 []] (lookO [(8471, tAHyp data)]) true (.tup []) (lookO [(8471, tAHyp data')]) := by
  have hh : ∃ r : (List Hyp), ((r = isoL cmpH data data.length) ∧ (True)) ∧ CallOK Tryz.prog 132 [.arr 8471, I a, I b, I limit, .fn 89 []] (lookO [(8471, tAHyp data)]) true (.tup []) (lookO [(8471, tAHyp r)]) := by
    refine fn_okX (Φ := fun r : (List Hyp) => (r = isoL cmpH data data.length) ∧ (True)) [(8471, tAHyp data)] (fun r => [(8471, tAHyp r)]) (fn := Tryz.f132) (nt := 148) Tryz.func132 rfl rfl (args := [.arr 8471, I a, I b, I limit, .fn 89 []]) rfl (allcons (.inr trivial) (allcons (.inl ⟨rfl, trivial⟩) (allcons (.inl ⟨rfl, trivial⟩) (allcons (.inl ⟨rfl, trivial⟩) (allcons (.inl ⟨rfl, trivial⟩) allnil))))) (res := fun r => .tup []) ?_
    refine xR [] [0, 1, 2, 3, 4, 10] [8471] [.arr 8471, I a, I b, I limit, .fn 89 [], Bv true] [some (tAHyp data)] [] trivial ?_
    refine xR [] [0, 1, 2, 3, 4, 10, 11] [8471] [.arr 8471, I a, I b, I limit, .fn 89 [], Bv true, Bv true] [some (tAHyp data)] [] trivial ?_
    refine x_block ?_
    refine x_loop (X := Int × Int × Int × Bool × Bool) (fun x => mkS [(0, .arr 8471), (1, I x.1), (2, I x.2.1), (3, I x.2.2.1), (4, .fn 89 []), (10, Bv x.2.2.2.1), (11, Bv x.2.2.2.2)] [(8471, tAHyp data)]) (fun x => (x.1 = 0 ∧ x.2.1 = (data.length : Int)) ∧ True) (fun x => (0 : Nat)) (a, b, limit, true, true) rfl (show (a = 0 ∧ b = (data.length : Int)) ∧ True from ⟨(by omega), trivial⟩) (fun x hI => ?_)
    obtain ⟨a', b', limit', wasBalanced, wasPartitioned⟩ := x
    obtain ⟨hab, _⟩ : (a' = 0 ∧ b' = (data.length : Int)) ∧ True := hI
    show XW _ _ _ _ (mkS [(0, .arr 8471), (1, I a'), (2, I b'), (3, I limit'), (4, .fn 89 []), (10, Bv wasBalanced), (11, Bv wasPartitioned)] [(8471, tAHyp data)]) _ _
    refine x_block ?_
    refine xR [] [0, 1, 2, 3, 4, 10, 11, 12] [8471] [.arr 8471, I a', I b', I limit', .fn 89 [], Bv wasBalanced, Bv wasPartitioned, I (b' - a')] [some (tAHyp data)] [inR .i64 (b' - a')] ⟨(inR_i64 (by omega) (by omega)), trivial⟩ ?_
    refine x_seq ?_
    refine xR [(1, .dec true)] [0, 1, 2, 3, 4, 10, 11, 12, 25] [8471] [.arr 8471, I a', I b', I limit', .fn 89 [], Bv wasBalanced, Bv wasPartitioned, I (b' - a'), Bv true] [some (tAHyp data)] [(b' - a') ≤ 12] ⟨(by omega), trivial⟩ ?_
    refine x_true rfl ?_
    refine x_seq ?_
    obtain ⟨data'_1, hx1_0, hc1⟩ := shHins_ok data a' b' (by first | omega | (subst_vars; omega)) (by first | omega | (subst_vars; omega))
    refine x_r [(4, .lend [(8471, tAHyp data, tAHyp data'_1)] [] [(true, .any), (true, .any), (true, .any), (true, .any)] true (.tup []))] [] [8471] [] [some (tAHyp data'_1)] [CallOK Tryz.prog 168 [.arr 8471, I a', I b', .fn 89 []] (lookO [(8471, tAHyp data)]) true (.tup []) (lookO [(8471, tAHyp data'_1)]) ∧ (((tAHyp data : Ob) = tAHyp data ∨ obLe noOb true (tAHyp data) (tAHyp data)) ∧ taggedO false (tAHyp data)) ∧ True] ⟨⟨hc1, ⟨.inl rfl, fun _ _ => tagcHyp false _⟩, trivial⟩, trivial⟩ ?_
    refine xe_then ?_
    refine x_ret ?_
    refine xe_ret_then (xe_ret_block (xe_loop_ret (xe_ret_block ?_)))
    refine xe_end data'_1 (show (data'_1 = isoL cmpH data data.length) ∧ (True) from ⟨(by assumption), trivial⟩) (⟨.inl rfl, trivial⟩) (.tup []) (by kernel_rfl) (.inl rfl) (fun _ => rfl) (fun _ => (by simp [tagged, taggedL]))
  obtain ⟨data', ⟨hh0, _⟩, hc⟩ := hh
  exact ⟨data', hh0, hc⟩

theorem shHsort_ok (data : List Hyp) (hl : data.length ≤ 12) : ∃ (data' : List Hyp), (data' = isoL cmpH data data.length) ∧ CallOK Tryz.prog 88 [.arr 8471, .fn 89 []] (lookO [(8471, tAHyp data)]) true (.tup []) (lookO [(8471, tAHyp data')]) := by
  have hh : ∃ r : (List Hyp), ((r = isoL cmpH data data.length) ∧ (True)) ∧ CallOK Tryz.prog 88 [.arr 8471, .fn 89 []] (lookO [(8471, tAHyp data)]) true (.tup []) (lookO [(8471, tAHyp r)]) := by
    refine fn_okX (Φ := fun r : (List Hyp) => (r = isoL cmpH data data.length) ∧ (True)) [(8471, tAHyp data)] (fun r => [(8471, tAHyp r)]) (fn := Tryz.f88) (nt := 14) Tryz.func88 rfl rfl (args := [.arr 8471, .fn 89 []]) rfl (allcons (.inr trivial) (allcons (.inl ⟨rfl, trivial⟩) allnil)) (res := fun r => .tup []) ?_
    refine xR [] [0, 1, 4] [8471] [.arr 8471, .fn 89 [], I (data.length : Int)] [some (tAHyp data)] [] trivial ?_
    obtain ⟨data'_1, hx1_0, hc1⟩ := shHpdq_ok data 0 (data.length : Int) ((Lib.bitLen (data.length : Int).toNat : Nat) : Int) (by first | omega | (subst_vars; omega)) (by first | omega | (subst_vars; omega))
    refine x_r [(4, .call [(true, .any)] true (I ((Lib.bitLen (data.length : Int).toNat : Nat) : Int))), (6, .lend [(8471, tAHyp data, tAHyp data'_1)] [] [(true, .any), (true, .any), (true, .any), (true, .any), (true, .any)] true (.tup []))] [] [8471] [] [some (tAHyp data'_1)] [inR .u64 (data.length : Int), Con Tryz.prog 67 [.val (.int .u64 (data.length : Int))] true (I ((Lib.bitLen (data.length : Int).toNat : Nat) : Int)) ∧ True, CallOK Tryz.prog 132 [.arr 8471, I 0, I (data.length : Int), I ((Lib.bitLen (data.length : Int).toNat : Nat) : Int), .fn 89 []] (lookO [(8471, tAHyp data)]) true (.tup []) (lookO [(8471, tAHyp data'_1)]) ∧ (((tAHyp data : Ob) = tAHyp data ∨ obLe noOb true (tAHyp data) (tAHyp data)) ∧ taggedO false (tAHyp data)) ∧ True] ⟨(inR_u64 (by omega) (by omega)), ⟨(lenU_ok (data.length : Int) (by omega)), trivial⟩, ⟨hc1, ⟨.inl rfl, fun _ _ => tagcHyp false _⟩, trivial⟩, trivial⟩ ?_
    refine xe_norm data'_1 (show (data'_1 = isoL cmpH data data.length) ∧ (True) from ⟨(by first | assumption | omega), trivial⟩) (⟨.inl rfl, trivial⟩) (.tup []) (by kernel_rfl) (.inl rfl) (fun _ => rfl) (fun _ => (by simp [tagged, taggedL]))
  obtain ⟨data', ⟨hh0, _⟩, hc⟩ := hh
  exact ⟨data', hh0, hc⟩

theorem cfHyp_ok_idx (s : List Hyp) (h : Hyp) : Con Tryz.prog 133 [slHyp false s, .fn 91 [.ptr false [Sv h.Label, I h.Cost]]] true (I (firstN s.length (fun j => decide ((at_ s j).Label = h.Label)))) := by
  refine fn_ok (fn := Tryz.f133) (nt := 19) Tryz.func133 rfl rfl rfl rfl (by simp [taggedL, tagged, tagHyp]) fun B hB => ?_
  refine aw_lens (x := slHyp false s) 0 rfl (fun len_s => ?_)
  simp [LenOK, LenL, cHyp, fHyp, slHyp] at len_s
  refine aR [] [0, 1] [] [slHyp false s, .fn 91 [.ptr false [Sv h.Label, I h.Cost]]] [] [] hB trivial ?_
  refine aw_seq ?_
  refine aR [] [0, 1, 7, 8] [] [slHyp false s, .fn 91 [.ptr false [Sv h.Label, I h.Cost]], I (s.length : Int), I 0] [] [] hB trivial ?_
  refine aw_block ?_
  refine aw_loop (fun gn gσ => ∃ (t8 : Int), gn = ((s.length : Int) - t8).toNat ∧ (0 ≤ t8 ∧ t8 ≤ (s.length : Int)) ∧ (∀ j : Nat, (j : Int) < t8 → decide ((at_ s j).Label = h.Label) = false) ∧ gσ = mkS [(0, slHyp false s), (1, .fn 91 [.ptr false [Sv h.Label, I h.Cost]]), (7, I (s.length : Int)), (8, I t8)] []) (((s.length : Int) - 0).toNat) ⟨0, rfl, (by omega), (by intro j hj; omega), rfl⟩ (fun gn gσ hI => ?_)
  obtain ⟨t8, rfl, hi0, hall0, rfl⟩ := hI
  refine aw_seq ?_
  by_cases h1 : t8 < (s.length : Int)
  ·have hi : t8.toNat < s.length := by omega
   refine aw_r [(0, .dec true)] [0, 1, 7, 8, 9] [] [slHyp false s, .fn 91 [.ptr false [Sv h.Label, I h.Cost]], I (s.length : Int), I t8, Bv true] [] [t8 < (s.length : Int)] hB ⟨h1, trivial⟩ ?_
   refine ae_then ?_
   refine aw_seq ?_
   refine aw_true rfl ?_
   refine aw_skip ?_
   refine ae_then ?_
   refine aw_seq ?_
   refine aw_block ?_
   refine aR [] [0, 1, 5, 7, 8] [] [slHyp false s, .fn 91 [.ptr false [Sv h.Label, I h.Cost]], I t8, I (s.length : Int), I t8] [] [] hB trivial ?_
   refine aw_seq ?_
   rcases Bool.eq_false_or_eq_true (decide ((at_ s t8.toNat).Label = h.Label)) with h2 | h2
   ·have hfin : firstN s.length (fun j => decide ((at_ s j).Label = h.Label)) = t8.toNat := firstN_hit hi h2 (fun j hj => hall0 j (by omega))
    refine aw_r [(5, .call [(true, .any), (true, .any)] true (Bv true))] [0, 1, 5, 7, 8, 16] [] [slHyp false s, .fn 91 [.ptr false [Sv h.Label, I h.Cost]], I t8, I (s.length : Int), I t8, Bv true] [] [(0 : Int) ≤ t8 ∧ t8 < (s.length : Int), Con Tryz.prog 91 [agHyp (at_ s t8.toNat), .ptr false [Sv h.Label, I h.Cost]] true (Bv true) ∧ True] hB ⟨⟨(by omega), (by omega)⟩, ⟨(con_bool h2 (hypsOf1_ok (at_ s t8.toNat) h)), trivial⟩, trivial⟩ ?_
    refine ae_then ?_
    refine aw_true rfl ?_
    refine aR [] [4] [] [I t8] [] [] hB trivial ?_
    refine aw_ret ?_
    refine ae_ret_block (ae_ret_then (ae_ret_then (ae_ret_block (ae_ret_then ?_))))
    refine ae_ret hB (I t8) (by kernel_rfl) (.inl (by refine congrArg I ?_; first | (rw [hfin]; done) | (rw [hfin]; omega))) rfl (fun _ => trivial)
   refine aw_r [(5, .call [(true, .any), (true, .any)] true (Bv false))] [0, 1, 5, 7, 8, 16] [] [slHyp false s, .fn 91 [.ptr false [Sv h.Label, I h.Cost]], I t8, I (s.length : Int), I t8, Bv false] [] [(0 : Int) ≤ t8 ∧ t8 < (s.length : Int), Con Tryz.prog 91 [agHyp (at_ s t8.toNat), .ptr false [Sv h.Label, I h.Cost]] true (Bv false) ∧ True] hB ⟨⟨(by omega), (by omega)⟩, ⟨(con_bool h2 (hypsOf1_ok (at_ s t8.toNat) h)), trivial⟩, trivial⟩ ?_
   refine ae_then ?_
   refine aw_false rfl ?_
   refine aw_skip ?_
   refine ae_block 1 ?_
   refine ae_then ?_
   refine aw_r [] [0, 1, 7, 8] [] [slHyp false s, .fn 91 [.ptr false [Sv h.Label, I h.Cost]], I (s.length : Int), I (t8 + 1)] [] [inR .i64 (t8 + 1)] hB ⟨(inR_i64 (by omega) (by omega)), trivial⟩ ?_
   exact ae_again _ (by omega) ⟨(t8 + 1), rfl, (by omega), (by intro j hj; by_cases ej : j = t8.toNat; (subst ej; first | assumption | rfl); exact hall0 j (by omega)), rfl⟩
  have hfin : firstN s.length (fun j => decide ((at_ s j).Label = h.Label)) = -1 := firstN_none (fun j hj => hall0 j (by omega))
  refine aw_r [(0, .dec false)] [0, 1, 7, 8, 9] [] [slHyp false s, .fn 91 [.ptr false [Sv h.Label, I h.Cost]], I (s.length : Int), I t8, Bv false] [] [¬ (t8 < (s.length : Int))] hB ⟨h1, trivial⟩ ?_
  refine ae_then ?_
  refine aw_seq ?_
  refine aw_false rfl ?_
  refine aw_exit ?_
  refine ae_exit_then ?_
  refine ae_exit_then ?_
  refine ae_exit_same ?_
  refine ae_then ?_
  refine aR [] [4] [] [I (-1)] [] [] hB trivial ?_
  refine aw_ret ?_
  refine ae_ret hB (I (-1)) (by kernel_rfl) (.inl (by refine congrArg I ?_; first | (rw [hfin]; done) | (rw [hfin]; omega))) rfl (fun _ => trivial)

theorem cfHyp_ok (s : List Hyp) (h : Hyp) : Con Tryz.prog 90 [slHyp false s, .fn 91 [.ptr false [Sv h.Label, I h.Cost]]] true (Bv (anyN s.length (fun j => decide ((at_ s j).Label = h.Label)))) := by
  refine fn_ok (fn := Tryz.f90) (nt := 9) Tryz.func90 rfl rfl rfl rfl (by simp [taggedL, tagged, tagHyp]) fun B hB => ?_
  refine aw_lens (x := slHyp false s) 0 rfl (fun len_s => ?_)
  simp [LenOK, LenL, cHyp, fHyp, slHyp] at len_s
  refine aR [] [0, 1] [] [slHyp false s, .fn 91 [.ptr false [Sv h.Label, I h.Cost]]] [] [] hB trivial ?_
  refine aR [(2, .call [(true, .any), (true, .any)] true (I (firstN s.length (fun j => decide ((at_ s j).Label = h.Label)))))] [4] [] [Bv (decide (0 ≤ (firstN s.length (fun j => decide ((at_ s j).Label = h.Label)))))] [] [Con Tryz.prog 133 [slHyp false s, .fn 91 [.ptr false [Sv h.Label, I h.Cost]]] true (I (firstN s.length (fun j => decide ((at_ s j).Label = h.Label)))) ∧ True] hB ⟨⟨(cfHyp_ok_idx s h), trivial⟩, trivial⟩ ?_
  refine aw_ret ?_
  refine ae_ret hB (Bv (decide (0 ≤ (firstN s.length (fun j => decide ((at_ s j).Label = h.Label)))))) (by kernel_rfl) (.inl (by exact congrArg Bv (firstN_any _ _))) rfl (fun _ => trivial)

theorem hypsOf_ok (list : List Hyp) (most : Int) (hl : list.length ≤ 12) : ∃ (v : List Hyp), (v = hypL most list) ∧ Con Tryz.prog 52 [slHyp false list, I most] true (slHyp true v) := by
  have hh : ∃ r : (List Hyp), ((r = hypL most list) ∧ (True)) ∧ CallOK Tryz.prog 52 [slHyp false list, I most] (lookO []) true (slHyp true r) (lookO []) := by
    refine fn_okX (Φ := fun r : (List Hyp) => (r = hypL most list) ∧ (True)) [] (fun r => []) (fn := Tryz.f52) (nt := 35) Tryz.func52 rfl rfl (args := [slHyp false list, I most]) rfl (allcons (.inl ⟨rfl, tagHyp false _⟩) (allcons (.inl ⟨rfl, trivial⟩) allnil)) (res := fun r => slHyp true r) ?_
    refine xR [] [0, 1] [] [slHyp false list, I most] [] [] trivial ?_
    refine x_seq ?_
    obtain ⟨out_1, hx1_0, hc1⟩ := cloneH0_ok list (by omega)
    refine x_r [(1, .lend [] [(8471, tAHyp out_1)] [(true, .any)] false (.arr 8471))] [1, 5] [8471] [I most, .arr 8471] [some (tAHyp out_1)] [CallOK Tryz.prog 87 [slHyp false list] (lookO []) false (.arr 8471) (lookO [(8471, tAHyp out_1)]) ∧ True] ⟨⟨hc1, trivial⟩, trivial⟩ ?_
    refine xe_then ?_
    refine x_seq ?_
    obtain ⟨data'_2, hx2_0, hc2⟩ := shHsort_ok out_1 (by first | omega | (simp only [*]; omega) | (rw [hx1_0]; omega))
    have hsl : data'_2.length = list.length := by rw [hx2_0, isoL_len]; simp [*]
    have hsd : data'_2 = isoL cmpH list list.length := by rw [hx2_0]; simp only [*]
    refine x_r [(1, .lend [(8471, tAHyp out_1, tAHyp data'_2)] [] [(true, .any), (true, .any)] true (.tup []))] [1, 5] [8471] [I most, .arr 8471] [some (tAHyp data'_2)] [CallOK Tryz.prog 88 [.arr 8471, .fn 89 []] (lookO [(8471, tAHyp out_1)]) true (.tup []) (lookO [(8471, tAHyp data'_2)]) ∧ (((tAHyp out_1 : Ob) = tAHyp out_1 ∨ obLe noOb true (tAHyp out_1) (tAHyp out_1)) ∧ taggedO false (tAHyp out_1)) ∧ True] ⟨⟨hc2, ⟨.inl rfl, fun _ _ => tagcHyp false _⟩, trivial⟩, trivial⟩ ?_
    refine xe_then ?_
    refine xR [] [1, 5, 6] [8471] [I most, .arr 8471, nilA] [some (tAHyp data'_2)] [] trivial ?_
    refine x_seq ?_
    refine xR [] [1, 6, 13, 14, 15] [8471] [I most, nilA, .arr 8471, I (data'_2.length : Int), I 0] [some (tAHyp data'_2)] [] trivial ?_
    refine x_block ?_
    refine x_nil 6 706 2 (fun _ => []) (by kernel_rfl) ?_
    refine x_weak [] (T := [(1, I most), (6, .arr 706), (13, .arr 8471), (14, I (data'_2.length : Int)), (15, I 0)]) (O := [(706, tAHyp ([] : List Hyp)), (8471, tAHyp data'_2)]) rfl (⟨.inl rfl, .inl rfl, .inl rfl, .inl rfl, .inl rfl, trivial⟩) (⟨.inr ⟨rfl, (by first | rfl | (simp; done) | (simp; omega) | omega), fun i_ hi_ => absurd hi_ (Nat.not_lt_zero _)⟩, .inl rfl, trivial⟩) ?_
    refine x_loop (X := (List Hyp) × Int) (fun x => mkS [(1, I most), (6, .arr 706), (13, .arr 8471), (14, I (data'_2.length : Int)), (15, I x.2)] [(706, tAHyp x.1), (8471, tAHyp data'_2)]) (fun x => (0 ≤ x.2 ∧ x.2 ≤ (list.length : Int)) ∧ (x.1 = pickH most data'_2 x.2.toNat) ∧ True) (fun x => ((list.length : Int) - x.2).toNat) (([] : List Hyp), 0) rfl (show (0 ≤ (0 : Int) ∧ (0 : Int) ≤ (list.length : Int)) ∧ (([] : List Hyp) = pickH most data'_2 (0 : Int).toNat) ∧ True from ⟨(by omega), (by rfl), trivial⟩) (fun x hI => ?_)
    obtain ⟨out, t15⟩ := x
    obtain ⟨hi0, hou, _⟩ : (0 ≤ t15 ∧ t15 ≤ (list.length : Int)) ∧ (out = pickH most data'_2 t15.toNat) ∧ True := hI
    show XW _ _ _ _ (mkS [(1, I most), (6, .arr 706), (13, .arr 8471), (14, I (data'_2.length : Int)), (15, I t15)] [(706, tAHyp out), (8471, tAHyp data'_2)]) _ _
    refine x_seq ?_
    by_cases h1 : t15 < (data'_2.length : Int)
    ·have hi : t15.toNat < data'_2.length := by omega
     have hol : out.length ≤ t15.toNat := by rw [hou]; exact pickH_len most data'_2 _
     refine x_r [(0, .dec true)] [1, 6, 13, 14, 15, 16] [706, 8471] [I most, .arr 706, .arr 8471, I (data'_2.length : Int), I t15, Bv true] [some (tAHyp out), some (tAHyp data'_2)] [t15 < (data'_2.length : Int)] ⟨h1, trivial⟩ ?_
     refine xe_then ?_
     refine x_seq ?_
     refine x_true rfl ?_
     refine x_skip ?_
     refine xe_then ?_
     refine x_seq ?_
     refine x_block ?_
     refine xR [(2, .new 8)] [1, 6, 8, 13, 14, 15] [8, 706, 8471] [I most, .arr 706, .ref 8 0, .arr 8471, I (data'_2.length : Int), I t15] [some (bxHyp (at_ data'_2 t15.toNat)), some (tAHyp out), some (tAHyp data'_2)] [(0 : Int) ≤ t15 ∧ t15 < (data'_2.length : Int), t15.toNat < data'_2.length] ⟨⟨(by omega), (by omega)⟩, (by omega), trivial⟩ ?_
     refine x_seq ?_
     by_cases h2 : (out.length : Int) < most
     ·have hms := h2
      rcases Bool.eq_false_or_eq_true (anyN out.length (fun j => decide ((at_ out j).Label = (at_ data'_2 t15.toNat).Label))) with h3 | h3
      ·have hst := pick_n (most := most) (xs := data'_2) (k := t15) (by omega) (fun q => by have q2 := q.2; rw [← hou] at q2; unfold hasHL at q2; rw [h3] at q2; cases q2)
       refine x_r [(3, .dec true), (7, .call [(false, slHyp false out), (false, .fn 91 [.ptr false [Sv ((at_ data'_2 t15.toNat).Label), I ((at_ data'_2 t15.toNat).Cost)]])] true (Bv true))] [1, 6, 8, 13, 14, 15, 28] [8, 706, 8471] [I most, .arr 706, .ref 8 0, .arr 8471, I (data'_2.length : Int), I t15, Bv false] [some (bxHyp (at_ data'_2 t15.toNat)), some (tAHyp out), some (tAHyp data'_2)] [(out.length : Int) < most, Con Tryz.prog 90 [slHyp false out, .fn 91 [.ptr false [Sv ((at_ data'_2 t15.toNat).Label), I ((at_ data'_2 t15.toNat).Cost)]]] true (Bv true) ∧ ((false = true → true = true) ∧ 2 = 2 ∧ out.length = out.length ∧ ∀ i_, i_ < out.length → (fHyp out) i_ = (fHyp out) i_ ∨ (AV.idsL ((fHyp out) i_) = [] ∧ leL (fun _ => none) false ((fHyp out) i_) ((fHyp out) i_))) ∧ (91 = 91 ∧ ((false = true → true = true) ∧ AV.idsL [Sv ((at_ data'_2 t15.toNat).Label), I ((at_ data'_2 t15.toNat).Cost)] = [] ∧ (valOf (Sv ((at_ data'_2 t15.toNat).Label)) = valOf (Sv ((at_ data'_2 t15.toNat).Label))) ∧ (valOf (I ((at_ data'_2 t15.toNat).Cost)) = valOf (I ((at_ data'_2 t15.toNat).Cost))) ∧ ([] : List AV) = []) ∧ ([] : List AV) = []) ∧ True] ⟨h2, ⟨(con_bool h3 (cfHyp_ok out (at_ data'_2 t15.toNat))), ⟨(fun h => by cases h), rfl, rfl, fun i _ => .inl rfl⟩, ⟨rfl, ⟨⟨(fun h => by cases h), rfl, ⟨rfl, ⟨rfl, rfl⟩⟩⟩, rfl⟩⟩, trivial⟩, trivial⟩ ?_
       refine xe_then ?_
       refine x_false rfl ?_
       refine x_skip ?_
       refine xe_block 1 ?_
       refine xe_then ?_
       refine x_r [] [1, 6, 13, 14, 15] [706, 8471] [I most, .arr 706, .arr 8471, I (data'_2.length : Int), I (t15 + 1)] [some (tAHyp out), some (tAHyp data'_2)] [inR .i64 (t15 + 1)] ⟨(inR_i64 (by omega) (by omega)), trivial⟩ ?_
       exact xe_again (out, (t15 + 1)) rfl (show (0 ≤ (t15 + 1) ∧ (t15 + 1) ≤ (list.length : Int)) ∧ (out = pickH most data'_2 (t15 + 1).toNat) ∧ True from ⟨(by omega), (by (rw [hst, ← hou])), trivial⟩) (by first | (show (((list.length : Int) - (t15 + 1)).toNat : Nat) < ((list.length : Int) - t15).toNat; omega) | (dsimp only; omega))
      have hst := pick_y (most := most) (xs := data'_2) (k := t15) (by omega) (by rw [← hou]; exact hms) (by rw [← hou]; exact h3)
      refine x_r [(3, .dec true), (7, .call [(false, slHyp false out), (false, .fn 91 [.ptr false [Sv ((at_ data'_2 t15.toNat).Label), I ((at_ data'_2 t15.toNat).Cost)]])] true (Bv false))] [1, 6, 8, 13, 14, 15, 28] [8, 706, 8471] [I most, .arr 706, .ref 8 0, .arr 8471, I (data'_2.length : Int), I t15, Bv true] [some (bxHyp (at_ data'_2 t15.toNat)), some (tAHyp out), some (tAHyp data'_2)] [(out.length : Int) < most, Con Tryz.prog 90 [slHyp false out, .fn 91 [.ptr false [Sv ((at_ data'_2 t15.toNat).Label), I ((at_ data'_2 t15.toNat).Cost)]]] true (Bv false) ∧ ((false = true → true = true) ∧ 2 = 2 ∧ out.length = out.length ∧ ∀ i_, i_ < out.length → (fHyp out) i_ = (fHyp out) i_ ∨ (AV.idsL ((fHyp out) i_) = [] ∧ leL (fun _ => none) false ((fHyp out) i_) ((fHyp out) i_))) ∧ (91 = 91 ∧ ((false = true → true = true) ∧ AV.idsL [Sv ((at_ data'_2 t15.toNat).Label), I ((at_ data'_2 t15.toNat).Cost)] = [] ∧ (valOf (Sv ((at_ data'_2 t15.toNat).Label)) = valOf (Sv ((at_ data'_2 t15.toNat).Label))) ∧ (valOf (I ((at_ data'_2 t15.toNat).Cost)) = valOf (I ((at_ data'_2 t15.toNat).Cost))) ∧ ([] : List AV) = []) ∧ ([] : List AV) = []) ∧ True] ⟨h2, ⟨(con_bool h3 (cfHyp_ok out (at_ data'_2 t15.toNat))), ⟨(fun h => by cases h), rfl, rfl, fun i _ => .inl rfl⟩, ⟨rfl, ⟨⟨(fun h => by cases h), rfl, ⟨rfl, ⟨rfl, rfl⟩⟩⟩, rfl⟩⟩, trivial⟩, trivial⟩ ?_
      refine xe_then ?_
      refine x_true rfl ?_
      refine x_r [(2, .new 31), (3, .new 32)] [1, 6, 13, 14, 15] [32, 8471] [I most, .arr 32, .arr 8471, I (data'_2.length : Int), I t15] [some (.arr 2 (out.length + 1) (catF out.length (fHyp out) (litF [Sv ((at_ data'_2 t15.toNat).Label), I ((at_ data'_2 t15.toNat).Cost)] 2))), some (tAHyp data'_2)] [(out.length + 1) * 24 ≤ 140737488355328] ⟨(by omega), trivial⟩ ?_
      refine xe_block 1 ?_
      refine xe_then ?_
      refine x_r [] [1, 6, 13, 14, 15] [32, 8471] [I most, .arr 32, .arr 8471, I (data'_2.length : Int), I (t15 + 1)] [some (.arr 2 (out.length + 1) (catF out.length (fHyp out) (litF [Sv ((at_ data'_2 t15.toNat).Label), I ((at_ data'_2 t15.toNat).Cost)] 2))), some (tAHyp data'_2)] [inR .i64 (t15 + 1)] ⟨(inR_i64 (by omega) (by omega)), trivial⟩ ?_
      refine xe_weak [(706, 32)] (T := [(1, I most), (6, .arr 706), (13, .arr 8471), (14, I (data'_2.length : Int)), (15, I (t15 + 1))]) (O := [(706, tAHyp (out ++ [(at_ data'_2 t15.toNat)])), (8471, tAHyp data'_2)]) rfl (⟨.inl rfl, .inl rfl, .inl rfl, .inl rfl, .inl rfl, trivial⟩) (⟨.inr ⟨rfl, (by first | rfl | (simp; done) | (simp; omega) | omega), fun i_ hi_ => .inl (cat_snoc (enc := cHyp) (xs := out) rfl i_ hi_)⟩, .inl rfl, trivial⟩) (xe_again ((out ++ [(at_ data'_2 t15.toNat)]), (t15 + 1)) rfl (show (0 ≤ (t15 + 1) ∧ (t15 + 1) ≤ (list.length : Int)) ∧ ((out ++ [(at_ data'_2 t15.toNat)]) = pickH most data'_2 (t15 + 1).toNat) ∧ True from ⟨(by omega), (by (rw [hst, ← hou])), trivial⟩) (by first | (show (((list.length : Int) - (t15 + 1)).toNat : Nat) < ((list.length : Int) - t15).toNat; omega) | (dsimp only; omega)))
     have hst := pick_n (most := most) (xs := data'_2) (k := t15) (by omega) (fun q => by rw [← hou] at q; omega)
     refine x_r [(3, .dec false)] [1, 6, 8, 13, 14, 15, 28] [8, 706, 8471] [I most, .arr 706, .ref 8 0, .arr 8471, I (data'_2.length : Int), I t15, Bv false] [some (bxHyp (at_ data'_2 t15.toNat)), some (tAHyp out), some (tAHyp data'_2)] [¬ ((out.length : Int) < most)] ⟨h2, trivial⟩ ?_
     refine xe_then ?_
     refine x_false rfl ?_
     refine x_skip ?_
     refine xe_block 1 ?_
     refine xe_then ?_
     refine x_r [] [1, 6, 13, 14, 15] [706, 8471] [I most, .arr 706, .arr 8471, I (data'_2.length : Int), I (t15 + 1)] [some (tAHyp out), some (tAHyp data'_2)] [inR .i64 (t15 + 1)] ⟨(inR_i64 (by omega) (by omega)), trivial⟩ ?_
     exact xe_again (out, (t15 + 1)) rfl (show (0 ≤ (t15 + 1) ∧ (t15 + 1) ≤ (list.length : Int)) ∧ (out = pickH most data'_2 (t15 + 1).toNat) ∧ True from ⟨(by omega), (by (rw [hst, ← hou])), trivial⟩) (by first | (show (((list.length : Int) - (t15 + 1)).toNat : Nat) < ((list.length : Int) - t15).toNat; omega) | (dsimp only; omega))
    have hie : t15.toNat = data'_2.length := by omega
    refine x_r [(0, .dec false)] [1, 6, 13, 14, 15, 16] [706, 8471] [I most, .arr 706, .arr 8471, I (data'_2.length : Int), I t15, Bv false] [some (tAHyp out), some (tAHyp data'_2)] [¬ (t15 < (data'_2.length : Int))] ⟨h1, trivial⟩ ?_
    refine xe_then ?_
    refine x_seq ?_
    refine x_false rfl ?_
    refine x_exit ?_
    refine xe_exit_then ?_
    refine xe_loop_exit ?_
    refine xe_exit_same ?_
    refine xe_then ?_
    refine xR [] [4] [706] [.arr 706] [some (tAHyp out)] [] trivial ?_
    refine x_ret ?_
    refine xe_end out (show (out = hypL most list) ∧ (True) from ⟨(by (unfold hypL; rw [hou, hie, hsl, hsd])), trivial⟩) (trivial) (.arr 706) (by kernel_rfl) (.inr ⟨(fun _ => rfl), rfl, rfl, fun i _ => .inl rfl⟩) (fun _ => rfl) (fun _ => (tagHyp true _))
  obtain ⟨v, ⟨hh0, _⟩, hc⟩ := hh
  exact ⟨v, hh0, hc⟩



-- impl.recognized
theorem recognized_ok (s : Store) (ik : Ink) (t : Setting) (hst : okStore' s = true) (ok : okInk' ik = true) (hset : okSet t = true) (h12 : s.Templates.length ≤ 12) (hsk : 1 ≤ ik.Strokes.length) (h72 : (ik.Strokes.length : Int) * t.Points ≤ 72) : ∃ (v : List Hyp), (v = recR s ik t) ∧ Con Tryz.prog 22 [agStore s, .agg [slStroke false ik.Strokes], agSetting t] true (slHyp true v) := by
  have hil := okI_len ok
  have hse := okSet_iff.1 hset
  have hpb := penI_bd (ik := ik) hse.2.2 (by omega)
  have hfe := fe_72 ok hse.1 hsk h72
  have okf := hfe.2
  have hs40 := (okStore_iff.1 hst).2.1
  have hh : ∃ r : (List Hyp), ((r = recR s ik t) ∧ (True)) ∧ CallOK Tryz.prog 22 [agStore s, .agg [slStroke false ik.Strokes], agSetting t] (lookO []) true (slHyp true r) (lookO []) := by
    refine fn_okX (Φ := fun r : (List Hyp) => (r = recR s ik t) ∧ (True)) [] (fun r => []) (fn := Tryz.f22) (nt := 55) Tryz.func22 rfl rfl (args := [agStore s, .agg [slStroke false ik.Strokes], agSetting t]) rfl (allcons (.inl ⟨rfl, by simp [tagged, taggedL, tagTemplate]⟩) (allcons (.inl ⟨rfl, by simp [tagged, taggedL, tagStroke]⟩) (allcons (.inl ⟨rfl, by simp [tagged, taggedL]⟩) allnil))) (res := fun r => slHyp true r) ?_
    refine xR [(0, .new 3), (1, .new 4), (2, .new 5)] [3, 4, 5] [3, 4, 5] [.ref 3 0, .ref 4 0, .ref 5 0] [some (bxStore s), some (.box [slStroke false ik.Strokes]), some (bxSetting t)] [] trivial ?_
    refine xR [(3, .call [(true, .any), (true, .any)] true (.tup [slFeat true ((feR ik t.Points).1), I ((feR ik t.Points).2)]))] [3, 4, 5, 7] [3, 4, 5] [.ref 3 0, .ref 4 0, .ref 5 0, slFeat true ((feR ik t.Points).1)] [some (bxStore s), some (.box [slStroke false ik.Strokes]), some (bxSetting t)] [Con Tryz.prog 50 [.agg [slStroke false ik.Strokes], I t.Points] true (.tup [slFeat true ((feR ik t.Points).1), I ((feR ik t.Points).2)]) ∧ True] ⟨⟨(implFeatsOf_ok ik t.Points), trivial⟩, trivial⟩ ?_
    refine xR [] [3, 5, 7, 9] [3, 5] [.ref 3 0, .ref 5 0, slFeat true ((feR ik t.Points).1), I (t.Pen * ((ik.Strokes.length : Int) - 1))] [some (bxStore s), some (bxSetting t)] [inR .i64 ((ik.Strokes.length : Int) - 1), inR .i64 (t.Pen * ((ik.Strokes.length : Int) - 1))] ⟨(inR_i64 (by omega) (by omega)), (inR_i64 (by omega) (by omega)), trivial⟩ ?_
    refine xR [] [3, 5, 7, 9, 10] [3, 5] [.ref 3 0, .ref 5 0, slFeat true ((feR ik t.Points).1), I (t.Pen * ((ik.Strokes.length : Int) - 1)), nilA] [some (bxStore s), some (bxSetting t)] [] trivial ?_
    refine x_seq ?_
    refine x_seq ?_
    obtain ⟨ms_1, hx1_0, hc1⟩ := matchesOf_ok s ((feR ik t.Points).1) hst okf (by omega)
    have hms := hx1_0
    have hml := mtS_len s (feR ik t.Points).1 s.Templates.length
    rw [← hms] at hml
    refine x_r [(2, .lend [] [(7211, tAMatch ms_1)] [(true, .any), (false, slFeat false ((feR ik t.Points).1))] false (.arr 7211))] [3, 5, 9, 10, 29, 30, 31] [3, 5, 7211] [.ref 3 0, .ref 5 0, I (t.Pen * ((ik.Strokes.length : Int) - 1)), nilA, .arr 7211, I (ms_1.length : Int), I 0] [some (bxStore s), some (bxSetting t), some (tAMatch ms_1)] [CallOK Tryz.prog 51 [agStore s, slFeat false ((feR ik t.Points).1)] (lookO []) false (.arr 7211) (lookO [(7211, tAMatch ms_1)]) ∧ ((false = true → true = true) ∧ 3 = 3 ∧ (((feR ik t.Points).1).length) = (((feR ik t.Points).1).length) ∧ ∀ i_, i_ < (((feR ik t.Points).1).length) → (fFeat ((feR ik t.Points).1)) i_ = (fFeat ((feR ik t.Points).1)) i_ ∨ (AV.idsL ((fFeat ((feR ik t.Points).1)) i_) = [] ∧ leL (fun _ => none) false ((fFeat ((feR ik t.Points).1)) i_) ((fFeat ((feR ik t.Points).1)) i_))) ∧ True] ⟨⟨hc1, ⟨(fun h => by cases h), rfl, rfl, fun i _ => .inl rfl⟩, trivial⟩, trivial⟩ ?_
    refine xe_then ?_
    refine x_block ?_
    refine x_nil 10 710 2 (fun _ => []) (by kernel_rfl) ?_
    refine x_weak [] (T := [(3, .ref 3 0), (5, .ref 5 0), (9, I (t.Pen * ((ik.Strokes.length : Int) - 1))), (10, .arr 710), (29, .arr 7211), (30, I (ms_1.length : Int)), (31, I 0)]) (O := [(3, bxStore s), (5, bxSetting t), (710, tAHyp ([] : List Hyp)), (7211, tAMatch ms_1)]) rfl (⟨.inl rfl, .inl rfl, .inl rfl, .inl rfl, .inl rfl, .inl rfl, .inl rfl, trivial⟩) (⟨.inl rfl, .inl rfl, .inr ⟨rfl, (by first | rfl | (simp; done) | (simp; omega) | omega), fun i_ hi_ => absurd hi_ (Nat.not_lt_zero _)⟩, .inl rfl, trivial⟩) ?_
    refine x_loop (X := (List Hyp) × Int) (fun x => mkS [(3, .ref 3 0), (5, .ref 5 0), (9, I (t.Pen * ((ik.Strokes.length : Int) - 1))), (10, .arr 710), (29, .arr 7211), (30, I (ms_1.length : Int)), (31, I x.2)] [(3, bxStore s), (5, bxSetting t), (710, tAHyp x.1), (7211, tAMatch ms_1)]) (fun x => (0 ≤ x.2 ∧ x.2 ≤ (ms_1.length : Int)) ∧ (x.1 = (ms_1.take x.2.toNat).map (hypO s (penI ik t))) ∧ True) (fun x => ((ms_1.length : Int) - x.2).toNat) (([] : List Hyp), 0) rfl (show (0 ≤ (0 : Int) ∧ (0 : Int) ≤ (ms_1.length : Int)) ∧ (([] : List Hyp) = (ms_1.take (0 : Int).toNat).map (hypO s (penI ik t))) ∧ True from ⟨(by omega), (by rfl), trivial⟩) (fun x hI => ?_)
    obtain ⟨list, t31⟩ := x
    obtain ⟨hi0, hls, _⟩ : (0 ≤ t31 ∧ t31 ≤ (ms_1.length : Int)) ∧ (list = (ms_1.take t31.toNat).map (hypO s (penI ik t))) ∧ True := hI
    show XW _ _ _ _ (mkS [(3, .ref 3 0), (5, .ref 5 0), (9, I (t.Pen * ((ik.Strokes.length : Int) - 1))), (10, .arr 710), (29, .arr 7211), (30, I (ms_1.length : Int)), (31, I t31)] [(3, bxStore s), (5, bxSetting t), (710, tAHyp list), (7211, tAMatch ms_1)]) _ _
    refine x_seq ?_
    by_cases h1 : t31 < (ms_1.length : Int)
    ·have hi : t31.toNat < ms_1.length := by omega
     obtain ⟨jj, hj1, hj2, hj3⟩ := mtS_mem (s := s) (fs := (feR ik t.Points).1) (k := s.Templates.length) (by rw [← hms]; exact at_mem hi)
     have hix : (at_ ms_1 t31.toNat).Index = (jj : Int) := by rw [hj3]; rfl
     have hcv := mt_cv okf ((okStore_iff.1 hst).2.2 jj hj1) hj2
     have hcst : (at_ ms_1 t31.toNat).Cost = (mtM s (feR ik t.Points).1 jj).Cost := by rw [hj3]
     have hll : list.length = t31.toNat := by rw [hls]; simp; omega
     refine x_r [(0, .dec true)] [3, 5, 9, 10, 29, 30, 31, 32] [3, 5, 710, 7211] [.ref 3 0, .ref 5 0, I (t.Pen * ((ik.Strokes.length : Int) - 1)), .arr 710, .arr 7211, I (ms_1.length : Int), I t31, Bv true] [some (bxStore s), some (bxSetting t), some (tAHyp list), some (tAMatch ms_1)] [t31 < (ms_1.length : Int)] ⟨h1, trivial⟩ ?_
     refine xe_then ?_
     refine x_seq ?_
     refine x_true rfl ?_
     refine x_skip ?_
     refine xe_then ?_
     refine x_seq ?_
     refine x_block ?_
     refine xR [(2, .new 12)] [3, 5, 9, 10, 12, 29, 30, 31] [3, 5, 12, 710, 7211] [.ref 3 0, .ref 5 0, I (t.Pen * ((ik.Strokes.length : Int) - 1)), .arr 710, .ref 12 0, .arr 7211, I (ms_1.length : Int), I t31] [some (bxStore s), some (bxSetting t), some (bxMatch (at_ ms_1 t31.toNat)), some (tAHyp list), some (tAMatch ms_1)] [(0 : Int) ≤ t31 ∧ t31 < (ms_1.length : Int), t31.toNat < ms_1.length] ⟨⟨(by omega), (by omega)⟩, (by omega), trivial⟩ ?_
     refine x_r [(13, .new 48), (14, .new 49)] [3, 5, 9, 10, 29, 30, 31] [3, 5, 49, 7211] [.ref 3 0, .ref 5 0, I (t.Pen * ((ik.Strokes.length : Int) - 1)), .arr 49, .arr 7211, I (ms_1.length : Int), I t31] [some (bxStore s), some (bxSetting t), some (.arr 2 (list.length + 1) (catF list.length (fHyp list) (litF [Sv ((at_ s.Templates (((at_ ms_1 t31.toNat).Index).toNat)).Label), I (((at_ ms_1 t31.toNat).Cost) + (t.Pen * ((ik.Strokes.length : Int) - 1)))] 2))), some (tAMatch ms_1)] [(0 : Int) ≤ ((at_ ms_1 t31.toNat).Index) ∧ ((at_ ms_1 t31.toNat).Index) < (s.Templates.length : Int), inR .i64 (((at_ ms_1 t31.toNat).Cost) + (t.Pen * ((ik.Strokes.length : Int) - 1))), (list.length + 1) * 24 ≤ 140737488355328] ⟨⟨(by omega), (by omega)⟩, (inR_i64 (by omega) (by omega)), (by omega), trivial⟩ ?_
     refine xe_block 1 ?_
     refine xe_then ?_
     refine x_r [] [3, 5, 9, 10, 29, 30, 31] [3, 5, 49, 7211] [.ref 3 0, .ref 5 0, I (t.Pen * ((ik.Strokes.length : Int) - 1)), .arr 49, .arr 7211, I (ms_1.length : Int), I (t31 + 1)] [some (bxStore s), some (bxSetting t), some (.arr 2 (list.length + 1) (catF list.length (fHyp list) (litF [Sv ((at_ s.Templates (((at_ ms_1 t31.toNat).Index).toNat)).Label), I (((at_ ms_1 t31.toNat).Cost) + (t.Pen * ((ik.Strokes.length : Int) - 1)))] 2))), some (tAMatch ms_1)] [inR .i64 (t31 + 1)] ⟨(inR_i64 (by omega) (by omega)), trivial⟩ ?_
     refine xe_weak [(710, 49)] (T := [(3, .ref 3 0), (5, .ref 5 0), (9, I (t.Pen * ((ik.Strokes.length : Int) - 1))), (10, .arr 710), (29, .arr 7211), (30, I (ms_1.length : Int)), (31, I (t31 + 1))]) (O := [(3, bxStore s), (5, bxSetting t), (710, tAHyp (list ++ [(Hyp.mk ((at_ s.Templates (((at_ ms_1 t31.toNat).Index).toNat)).Label) (((at_ ms_1 t31.toNat).Cost) + (t.Pen * ((ik.Strokes.length : Int) - 1))))])), (7211, tAMatch ms_1)]) rfl (⟨.inl rfl, .inl rfl, .inl rfl, .inl rfl, .inl rfl, .inl rfl, .inl rfl, trivial⟩) (⟨.inl rfl, .inl rfl, .inr ⟨rfl, (by first | rfl | (simp; done) | (simp; omega) | omega), fun i_ hi_ => .inl (cat_snoc (enc := cHyp) (xs := list) rfl i_ hi_)⟩, .inl rfl, trivial⟩) (xe_again ((list ++ [(Hyp.mk ((at_ s.Templates (((at_ ms_1 t31.toNat).Index).toNat)).Label) (((at_ ms_1 t31.toNat).Cost) + (t.Pen * ((ik.Strokes.length : Int) - 1))))]), (t31 + 1)) rfl (show (0 ≤ (t31 + 1) ∧ (t31 + 1) ≤ (ms_1.length : Int)) ∧ ((list ++ [(Hyp.mk ((at_ s.Templates (((at_ ms_1 t31.toNat).Index).toNat)).Label) (((at_ ms_1 t31.toNat).Cost) + (t.Pen * ((ik.Strokes.length : Int) - 1))))]) = (ms_1.take (t31 + 1).toNat).map (hypO s (penI ik t))) ∧ True from ⟨(by omega), (by rw [hls]; exact (mapTake_succ (by omega) hi rfl).symm), trivial⟩) (by first | (show (((ms_1.length : Int) - (t31 + 1)).toNat : Nat) < ((ms_1.length : Int) - t31).toNat; omega) | (dsimp only; omega)))
    have hfin : list = recL s ik t := by rw [hls, hms]; exact map_all (by rw [← hms]; omega)
    have hfl : list.length ≤ 12 := by rw [hfin]; unfold recL; rw [List.length_map]; exact Nat.le_trans (mtS_len _ _ _) h12
    refine x_r [(0, .dec false)] [3, 5, 9, 10, 29, 30, 31, 32] [3, 5, 710, 7211] [.ref 3 0, .ref 5 0, I (t.Pen * ((ik.Strokes.length : Int) - 1)), .arr 710, .arr 7211, I (ms_1.length : Int), I t31, Bv false] [some (bxStore s), some (bxSetting t), some (tAHyp list), some (tAMatch ms_1)] [¬ (t31 < (ms_1.length : Int))] ⟨h1, trivial⟩ ?_
    refine xe_then ?_
    refine x_seq ?_
    refine x_false rfl ?_
    refine x_exit ?_
    refine xe_exit_then ?_
    refine xe_loop_exit ?_
    refine xe_exit_same ?_
    refine xe_then ?_
    refine x_seq ?_
    obtain ⟨v_2, hx2_0, hc2⟩ := hypsOf_ok list t.Most hfl
    refine x_r [(3, .call [(false, slHyp false list), (true, .any)] true (slHyp true v_2))] [6] [] [slHyp true v_2] [] [Con Tryz.prog 52 [slHyp false list, I t.Most] true (slHyp true v_2) ∧ ((false = true → true = true) ∧ 2 = 2 ∧ list.length = list.length ∧ ∀ i_, i_ < list.length → (fHyp list) i_ = (fHyp list) i_ ∨ (AV.idsL ((fHyp list) i_) = [] ∧ leL (fun _ => none) false ((fHyp list) i_) ((fHyp list) i_))) ∧ True] ⟨⟨hc2, ⟨(fun h => by cases h), rfl, rfl, fun i _ => .inl rfl⟩, trivial⟩, trivial⟩ ?_
    refine xe_then ?_
    refine x_ret ?_
    refine xe_end v_2 (show (v_2 = recR s ik t) ∧ (True) from ⟨(by (unfold recR; rw [← hfin]; assumption)), trivial⟩) (trivial) (slHyp true v_2) (by kernel_rfl) (.inl rfl) (fun _ => rfl) (fun _ => (tagHyp true _))
  obtain ⟨v, ⟨hh0, _⟩, hc⟩ := hh
  exact ⟨v, hh0, hc⟩


end Go.Proofs.YtinncgigkiclpaaGreat.Ax
