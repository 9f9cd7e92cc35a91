/- Contracts that the statement FnBeams reaches, part 3. No conditions. -/
import Derived.Test.YtppknhfdmmnmoaaGreatAxLBeams2
import Derived.Test.YtppknhfdmmnmoaaGreatAxR
import Derived.Test.YtppknhfdmmnmoaaGreatAxS
import Derived.Test.YtppknhfdmmnmoaaGreatAxSF
import Derived.Test.YtppknhfdmmnmoaaGreatSfFndShelf
import Derived.Test.YtppknhfdmmnmoaaGreatSfRdgShelf
namespace Go.Proofs.YtppknhfdmmnmoaaGreat.Ax
open Go.RowKit Go.ChangeShapes Go.WideShapes
set_option linter.unusedVariables false
set_option linter.unusedSimpArgs false


-- impl.beamWord
theorem minFnd_ok (s : List Found) (h1 : 1 ≤ s.length) : Con Tryz.prog 39 [slFound false s, .fn 40 []] true (agFound (mnF s (s.length - 1))) := by
  refine fn_ok (fn := Tryz.f39) (nt := 33) Tryz.func39 rfl rfl rfl rfl (by simp [taggedL, tagged, tagFound]) fun B hB => ?_
  refine aw_lens (x := slFound false s) 0 rfl (fun len_s => ?_)
  simp [LenOK, LenL, cFound, fFound, slFound] at len_s
  refine aR [(0, .new 4)] [0, 1, 4] [4] [slFound false s, .fn 40 [], .ref 4 0] [some (.box [Sv (⟨#[]⟩ : ByteArray), I 0, I 0])] [] hB trivial ?_
  refine aw_seq ?_
  refine aR [(2, .dec false)] [0, 1, 4, 9] [4] [slFound false s, .fn 40 [], .ref 4 0, Bv false] [some (.box [Sv (⟨#[]⟩ : ByteArray), I 0, I 0])] [¬ ((s.length : Int) < 1)] hB ⟨(by omega), trivial⟩ ?_
  refine aw_false rfl ?_
  refine aw_skip ?_
  refine ae_then ?_
  refine aR [(3, .new 5)] [0, 1, 4, 5] [4, 5] [slFound false s, .fn 40 [], .ref 4 0, .ref 5 0] [some (.box [Sv (⟨#[]⟩ : ByteArray), I 0, I 0]), some (bxFound (at_ s 0))] [(0 : Int) ≤ 0 ∧ 0 < (s.length : Int)] hB ⟨⟨(by omega), (by omega)⟩, trivial⟩ ?_
  refine aw_seq ?_
  refine aR [] [0, 1, 4, 5, 6] [4, 5] [slFound false s, .fn 40 [], .ref 4 0, .ref 5 0, I 1] [some (.box [Sv (⟨#[]⟩ : ByteArray), I 0, I 0]), some (bxFound (at_ s 0))] [] hB trivial ?_
  refine aw_block ?_
  refine aw_loop (fun gn gσ => ∃ (i : Int) (m : Found), gn = ((s.length : Int) - i).toNat ∧ (1 ≤ i ∧ i ≤ (s.length : Int)) ∧ (m = mnF s (i.toNat - 1)) ∧ gσ = mkS [(0, slFound false s), (1, .fn 40 []), (4, .ref 4 0), (5, .ref 5 0), (6, I i)] [(4, .box [Sv (⟨#[]⟩ : ByteArray), I 0, I 0]), (5, bxFound m)]) (((s.length : Int) - 1).toNat) ⟨1, (at_ s 0), rfl, (by omega), (by rfl), rfl⟩ (fun gn gσ hI => ?_)
  obtain ⟨i, m, rfl, hi1, hm0, rfl⟩ := hI
  refine aw_seq ?_
  refine aw_seq ?_
  by_cases h1 : i < (s.length : Int)
  ·refine aw_r [(3, .dec true)] [0, 1, 4, 5, 6, 17] [4, 5] [slFound false s, .fn 40 [], .ref 4 0, .ref 5 0, I i, Bv true] [some (.box [Sv (⟨#[]⟩ : ByteArray), I 0, I 0]), some (bxFound m)] [i < (s.length : Int)] hB ⟨h1, trivial⟩ ?_
   refine ae_then ?_
   refine aw_true rfl ?_
   refine aw_skip ?_
   refine ae_then ?_
   refine aw_seq ?_
   refine aw_block ?_
   refine aw_seq ?_
   by_cases h2 : (cmpF (at_ s i.toNat) m) < 0
   ·refine aw_r [(6, .call [(true, .any), (true, .any)] true (I (cmpF (at_ s i.toNat) m))), (7, .dec true)] [0, 1, 4, 5, 6, 27] [4, 5] [slFound false s, .fn 40 [], .ref 4 0, .ref 5 0, I i, Bv true] [some (.box [Sv (⟨#[]⟩ : ByteArray), I 0, I 0]), some (bxFound m)] [(0 : Int) ≤ i ∧ i < (s.length : Int), Con Tryz.prog 40 [agFound (at_ s i.toNat), agFound m] true (I (cmpF (at_ s i.toNat) m)) ∧ True, (cmpF (at_ s i.toNat) m) < 0] hB ⟨⟨(by omega), (by omega)⟩, ⟨(compareFound_ok (at_ s i.toNat) m), trivial⟩, h2, trivial⟩ ?_
    refine ae_then ?_
    refine aw_true rfl ?_
    refine aw_r [] [0, 1, 4, 5, 6] [4, 5] [slFound false s, .fn 40 [], .ref 4 0, .ref 5 0, I i] [some (.box [Sv (⟨#[]⟩ : ByteArray), I 0, I 0]), some (bxFound (at_ s i.toNat))] [(0 : Int) ≤ i ∧ i < (s.length : Int)] hB ⟨⟨(by omega), (by omega)⟩, trivial⟩ ?_
    refine ae_block 1 ?_
    refine ae_then ?_
    refine aw_r [] [0, 1, 4, 5, 6] [4, 5] [slFound false s, .fn 40 [], .ref 4 0, .ref 5 0, I (i + 1)] [some (.box [Sv (⟨#[]⟩ : ByteArray), I 0, I 0]), some (bxFound (at_ s i.toNat))] [inR .i64 (i + 1)] hB ⟨(inR_i64 (by omega) (by omega)), trivial⟩ ?_
    exact ae_again _ (by omega) ⟨(i + 1), (at_ s i.toNat), rfl, (by omega), (by (rw [show (i + 1).toNat - 1 = i.toNat from by omega, mnF_step (by omega), ← hm0]; first | (rw [if_pos (by assumption)]; done) | (rw [if_neg (by assumption)]; done))), rfl⟩
   refine aw_r [(6, .call [(true, .any), (true, .any)] true (I (cmpF (at_ s i.toNat) m))), (7, .dec false)] [0, 1, 4, 5, 6, 27] [4, 5] [slFound false s, .fn 40 [], .ref 4 0, .ref 5 0, I i, Bv false] [some (.box [Sv (⟨#[]⟩ : ByteArray), I 0, I 0]), some (bxFound m)] [(0 : Int) ≤ i ∧ i < (s.length : Int), Con Tryz.prog 40 [agFound (at_ s i.toNat), agFound m] true (I (cmpF (at_ s i.toNat) m)) ∧ True, ¬ ((cmpF (at_ s i.toNat) m) < 0)] hB ⟨⟨(by omega), (by omega)⟩, ⟨(compareFound_ok (at_ s i.toNat) m), trivial⟩, h2, trivial⟩ ?_
   refine ae_then ?_
   refine aw_false rfl ?_
   refine aw_skip ?_
   refine ae_block 1 ?_
   refine ae_then ?_
   refine aw_r [] [0, 1, 4, 5, 6] [4, 5] [slFound false s, .fn 40 [], .ref 4 0, .ref 5 0, I (i + 1)] [some (.box [Sv (⟨#[]⟩ : ByteArray), I 0, I 0]), some (bxFound m)] [inR .i64 (i + 1)] hB ⟨(inR_i64 (by omega) (by omega)), trivial⟩ ?_
   exact ae_again _ (by omega) ⟨(i + 1), m, rfl, (by omega), (by (rw [show (i + 1).toNat - 1 = i.toNat from by omega, mnF_step (by omega), ← hm0]; first | (rw [if_pos (by assumption)]; done) | (rw [if_neg (by assumption)]; done))), rfl⟩
  refine aw_r [(3, .dec false)] [0, 1, 4, 5, 6, 17] [4, 5] [slFound false s, .fn 40 [], .ref 4 0, .ref 5 0, I i, Bv false] [some (.box [Sv (⟨#[]⟩ : ByteArray), I 0, I 0]), some (bxFound m)] [¬ (i < (s.length : Int))] hB ⟨h1, trivial⟩ ?_
  refine ae_then ?_
  refine aw_false rfl ?_
  refine aw_exit ?_
  refine ae_exit_then ?_
  refine ae_exit_then ?_
  refine ae_exit_same ?_
  refine ae_then ?_
  refine aR [] [4] [4] [.ref 4 0] [some (bxFound m)] [] hB trivial ?_
  refine aw_ret ?_
  refine ae_ret hB (agFound m) (by kernel_rfl) (.inl (by (rw [hm0, show i.toNat - 1 = s.length - 1 from by omega]))) rfl (fun _ => (by simp [tagged, taggedL]))

theorem beamWord_ok (l : Lattice) (lx : Lexicon) (width : Int) (hl : okLat l) (hx : okLex lx) (hw : 1 ≤ width ∧ width ≤ 30) : ∃ (v : Found) (c : Bool), ((c = true ∧ 0 < (beamF l lx width.toNat).length ∧ v = bmW l lx width.toNat) ∨ (c = false ∧ (beamF l lx width.toNat).length = 0)) ∧ Con Tryz.prog 20 [agLattice l, .agg [slEntry false lx.Entries], I width] true (.tup [agFound v, Bv c]) := by
  have hn20 := hl.1
  have hc := hl.2.1
  have hlc := hx.1
  have hh : ∃ r : Found × Bool, (((r.2 = true ∧ 0 < (beamF l lx width.toNat).length ∧ r.1 = bmW l lx width.toNat) ∨ (r.2 = false ∧ (beamF l lx width.toNat).length = 0)) ∧ (True)) ∧ CallOK Tryz.prog 20 [agLattice l, .agg [slEntry false lx.Entries], I width] (lookO []) true (.tup [agFound r.1, Bv r.2]) (lookO []) := by
    refine fn_okX (Φ := fun r : Found × Bool => ((r.2 = true ∧ 0 < (beamF l lx width.toNat).length ∧ r.1 = bmW l lx width.toNat) ∨ (r.2 = false ∧ (beamF l lx width.toNat).length = 0)) ∧ (True)) [] (fun r => []) (fn := Tryz.f20) (nt := 56) Tryz.func20 rfl rfl (args := [agLattice l, .agg [slEntry false lx.Entries], I width]) rfl (allcons (.inl ⟨rfl, by simp [tagged, taggedL, tagEdge]⟩) (allcons (.inl ⟨rfl, by simp [tagged, taggedL, tagEntry]⟩) (allcons (.inl ⟨rfl, trivial⟩) allnil))) (res := fun r => .tup [agFound r.1, Bv r.2]) ?_
    refine xR [(0, .new 3), (1, .new 4), (2, .new 6)] [2, 3, 4, 6] [3, 4, 6] [I width, .ref 3 0, .ref 4 0, .ref 6 0] [some (bxLattice l), some (.box [slEntry false lx.Entries]), some (.box [Sv (⟨#[]⟩ : ByteArray), I 0, I 0])] [] trivial ?_
    refine xR [] [2, 3, 4, 6, 8] [3, 4, 6] [I width, .ref 3 0, .ref 4 0, .ref 6 0, nilA] [some (bxLattice l), some (.box [slEntry false lx.Entries]), some (.box [Sv (⟨#[]⟩ : ByteArray), I 0, I 0])] [] trivial ?_
    refine x_seq ?_
    refine x_seq ?_
    obtain ⟨v_1, hx1_0, hc1⟩ := beam_ok l lx width hl hx hw
    have hbv : v_1 = beamT l lx width.toNat := hx1_0
    have hbk := (bmT_ok hl lx (w := width.toNat) (by omega) (p := begB lx) (l.Nodes.toNat - 1) (by omega)).1
    have hbl_ : v_1.length = l.Nodes.toNat := by rw [hbv]; exact hbk.1
    have hbr : (at_ v_1 (l.Nodes - 1).toNat).length ≤ width.toNat := by rw [hbv]; exact row_le hbk _
    refine x_r [(3, .call [(true, .any), (true, .any), (true, .any)] true (slLReading true v_1))] [4, 6, 8, 21, 22, 23] [4, 6] [.ref 4 0, .ref 6 0, nilA, slReading true (at_ v_1 ((l.Nodes - 1).toNat)), I (((at_ v_1 ((l.Nodes - 1).toNat)).length) : Int), I 0] [some (.box [slEntry false lx.Entries]), some (.box [Sv (⟨#[]⟩ : ByteArray), I 0, I 0])] [Con Tryz.prog 27 [agLattice l, .agg [slEntry false lx.Entries], I width] true (slLReading true v_1) ∧ True, inR .i64 (l.Nodes - 1), (0 : Int) ≤ (l.Nodes - 1) ∧ (l.Nodes - 1) < (v_1.length : Int)] ⟨⟨hc1, trivial⟩, (inR_i64 (by omega) (by omega)), ⟨(by omega), (by omega)⟩, trivial⟩ ?_
    refine xe_then ?_
    refine x_block ?_
    refine x_nil 8 708 3 (fun _ => []) (by kernel_rfl) ?_
    refine x_weak [] (T := [(4, .ref 4 0), (6, .ref 6 0), (8, .arr 708), (21, slReading true (at_ v_1 ((l.Nodes - 1).toNat))), (22, I (((at_ v_1 ((l.Nodes - 1).toNat)).length) : Int)), (23, I 0)]) (O := [(4, .box [slEntry false lx.Entries]), (6, .box [Sv (⟨#[]⟩ : ByteArray), I 0, I 0]), (708, tAFound ([] : List Found))]) rfl (⟨.inl rfl, .inl rfl, .inl rfl, .inl rfl, .inl rfl, .inl rfl, trivial⟩) (⟨.inl rfl, .inl rfl, .inr ⟨rfl, (by first | rfl | (simp; done) | (simp; omega) | omega), fun i_ hi_ => absurd hi_ (Nat.not_lt_zero _)⟩, trivial⟩) ?_
    refine x_loop (X := (List Found) × Int) (fun x => mkS [(4, .ref 4 0), (6, .ref 6 0), (8, .arr 708), (21, slReading true (at_ v_1 ((l.Nodes - 1).toNat))), (22, I (((at_ v_1 ((l.Nodes - 1).toNat)).length) : Int)), (23, I x.2)] [(4, .box [slEntry false lx.Entries]), (6, .box [Sv (⟨#[]⟩ : ByteArray), I 0, I 0]), (708, tAFound x.1)]) (fun x => (0 ≤ x.2 ∧ x.2 ≤ ((at_ v_1 (l.Nodes - 1).toNat).length : Int)) ∧ (x.1 = bwI2 lx (at_ v_1 (l.Nodes - 1).toNat) x.2.toNat) ∧ True) (fun x => (((at_ v_1 (l.Nodes - 1).toNat).length : Int) - x.2).toNat) (([] : List Found), 0) rfl (show (0 ≤ (0 : Int) ∧ (0 : Int) ≤ ((at_ v_1 (l.Nodes - 1).toNat).length : Int)) ∧ (([] : List Found) = bwI2 lx (at_ v_1 (l.Nodes - 1).toNat) (0 : Int).toNat) ∧ True from ⟨(by omega), (by rfl), trivial⟩) (fun x hI => ?_)
    obtain ⟨list, t23⟩ := x
    obtain ⟨hi0, hli, _⟩ : (0 ≤ t23 ∧ t23 ≤ ((at_ v_1 (l.Nodes - 1).toNat).length : Int)) ∧ (list = bwI2 lx (at_ v_1 (l.Nodes - 1).toNat) t23.toNat) ∧ True := hI
    show XW _ _ _ _ (mkS [(4, .ref 4 0), (6, .ref 6 0), (8, .arr 708), (21, slReading true (at_ v_1 ((l.Nodes - 1).toNat))), (22, I (((at_ v_1 ((l.Nodes - 1).toNat)).length) : Int)), (23, I t23)] [(4, .box [slEntry false lx.Entries]), (6, .box [Sv (⟨#[]⟩ : ByteArray), I 0, I 0]), (708, tAFound list)]) _ _
    refine x_seq ?_
    by_cases h1 : t23 < (((at_ v_1 ((l.Nodes - 1).toNat)).length) : Int)
    ·have hi : t23.toNat < (at_ v_1 (l.Nodes - 1).toNat).length := by omega
     have hii : (t23 + 1).toNat = t23.toNat + 1 := by omega
     have hbl := bw2_len lx (at_ v_1 (l.Nodes - 1).toNat) t23.toNat
     rw [← hli] at hbl
     refine x_r [(0, .dec true)] [4, 6, 8, 21, 22, 23, 24] [4, 6, 708] [.ref 4 0, .ref 6 0, .arr 708, slReading true (at_ v_1 ((l.Nodes - 1).toNat)), I (((at_ v_1 ((l.Nodes - 1).toNat)).length) : Int), I t23, Bv true] [some (.box [slEntry false lx.Entries]), some (.box [Sv (⟨#[]⟩ : ByteArray), I 0, I 0]), some (tAFound list)] [t23 < (((at_ v_1 ((l.Nodes - 1).toNat)).length) : Int)] ⟨h1, trivial⟩ ?_
     refine xe_then ?_
     refine x_seq ?_
     refine x_true rfl ?_
     refine x_skip ?_
     refine xe_then ?_
     refine x_seq ?_
     refine x_block ?_
     refine xR [(2, .new 10)] [4, 6, 8, 10, 21, 22, 23] [4, 6, 10, 708] [.ref 4 0, .ref 6 0, .arr 708, .ref 10 0, slReading true (at_ v_1 ((l.Nodes - 1).toNat)), I (((at_ v_1 ((l.Nodes - 1).toNat)).length) : Int), I t23] [some (.box [slEntry false lx.Entries]), some (.box [Sv (⟨#[]⟩ : ByteArray), I 0, I 0]), some (bxReading (at_ (at_ v_1 ((l.Nodes - 1).toNat)) t23.toNat)), some (tAFound list)] [(0 : Int) ≤ t23 ∧ t23 < (((at_ v_1 ((l.Nodes - 1).toNat)).length) : Int)] ⟨⟨(by omega), (by omega)⟩, trivial⟩ ?_
     refine x_seq ?_
     obtain ⟨pl_2, found_2, hx2_0, hx2_1, hx2_2, hx2_3, hx2_4, hc2⟩ := placeOf_ok lx ((at_ (at_ v_1 ((l.Nodes - 1).toNat)) t23.toNat).Text) hx
     have hp0 := hx2_0
     have hp1 := hx2_1
     have hp2 := hx2_2
     refine x_r [(3, .call [(true, .any), (true, .any)] true (.tup [I pl_2, Bv found_2]))] [4, 6, 8, 10, 11, 12, 21, 22, 23] [4, 6, 10, 708] [.ref 4 0, .ref 6 0, .arr 708, .ref 10 0, I pl_2, Bv found_2, slReading true (at_ v_1 ((l.Nodes - 1).toNat)), I (((at_ v_1 ((l.Nodes - 1).toNat)).length) : Int), I t23] [some (.box [slEntry false lx.Entries]), some (.box [Sv (⟨#[]⟩ : ByteArray), I 0, I 0]), some (bxReading (at_ (at_ v_1 ((l.Nodes - 1).toNat)) t23.toNat)), some (tAFound list)] [Con Tryz.prog 38 [.agg [slEntry false lx.Entries], Sv ((at_ (at_ v_1 ((l.Nodes - 1).toNat)) t23.toNat).Text)] true (.tup [I pl_2, Bv found_2]) ∧ True] ⟨⟨hc2, trivial⟩, trivial⟩ ?_
     refine xe_then ?_
     refine xR [] [4, 6, 8, 10, 11, 21, 22, 23, 34] [4, 6, 10, 708] [.ref 4 0, .ref 6 0, .arr 708, .ref 10 0, I pl_2, slReading true (at_ v_1 ((l.Nodes - 1).toNat)), I (((at_ v_1 ((l.Nodes - 1).toNat)).length) : Int), I t23, Bv found_2] [some (.box [slEntry false lx.Entries]), some (.box [Sv (⟨#[]⟩ : ByteArray), I 0, I 0]), some (bxReading (at_ (at_ v_1 ((l.Nodes - 1).toNat)) t23.toNat)), some (tAFound list)] [] trivial ?_
     rcases Bool.eq_false_or_eq_true found_2 with h2 | h2
     ·refine x_true (congrArg Bv h2) ?_
      have hpy := hp1 (by assumption)
      have hpy1 := hpy.1
      refine x_r [(12, .new 47), (13, .new 48)] [4, 6, 8, 21, 22, 23] [4, 6, 48] [.ref 4 0, .ref 6 0, .arr 48, slReading true (at_ v_1 ((l.Nodes - 1).toNat)), I (((at_ v_1 ((l.Nodes - 1).toNat)).length) : Int), I t23] [some (.box [slEntry false lx.Entries]), some (.box [Sv (⟨#[]⟩ : ByteArray), I 0, I 0]), some (.arr 3 (list.length + 1) (catF list.length (fFound list) (litF [Sv ((at_ (at_ v_1 ((l.Nodes - 1).toNat)) t23.toNat).Text), I ((at_ (at_ v_1 ((l.Nodes - 1).toNat)) t23.toNat).Cost), I ((at_ lx.Entries pl_2.toNat).Cost)] 3)))] [(0 : Int) ≤ pl_2 ∧ pl_2 < (lx.Entries.length : Int), (list.length + 1) * 32 ≤ 140737488355328] ⟨⟨(by omega), (by omega)⟩, (by omega), trivial⟩ ?_
      refine xe_block 1 ?_
      refine xe_then ?_
      refine x_r [] [4, 6, 8, 21, 22, 23] [4, 6, 48] [.ref 4 0, .ref 6 0, .arr 48, slReading true (at_ v_1 ((l.Nodes - 1).toNat)), I (((at_ v_1 ((l.Nodes - 1).toNat)).length) : Int), I (t23 + 1)] [some (.box [slEntry false lx.Entries]), some (.box [Sv (⟨#[]⟩ : ByteArray), I 0, I 0]), some (.arr 3 (list.length + 1) (catF list.length (fFound list) (litF [Sv ((at_ (at_ v_1 ((l.Nodes - 1).toNat)) t23.toNat).Text), I ((at_ (at_ v_1 ((l.Nodes - 1).toNat)) t23.toNat).Cost), I ((at_ lx.Entries pl_2.toNat).Cost)] 3)))] [inR .i64 (t23 + 1)] ⟨(inR_i64 (by omega) (by omega)), trivial⟩ ?_
      refine xe_weak [(708, 48)] (T := [(4, .ref 4 0), (6, .ref 6 0), (8, .arr 708), (21, slReading true (at_ v_1 ((l.Nodes - 1).toNat))), (22, I (((at_ v_1 ((l.Nodes - 1).toNat)).length) : Int)), (23, I (t23 + 1))]) (O := [(4, .box [slEntry false lx.Entries]), (6, .box [Sv (⟨#[]⟩ : ByteArray), I 0, I 0]), (708, tAFound (list ++ [(Found.mk ((at_ (at_ v_1 ((l.Nodes - 1).toNat)) t23.toNat).Text) ((at_ (at_ v_1 ((l.Nodes - 1).toNat)) t23.toNat).Cost) ((at_ lx.Entries pl_2.toNat).Cost))]))]) rfl (⟨.inl rfl, .inl rfl, .inl rfl, .inl rfl, .inl rfl, .inl rfl, trivial⟩) (⟨.inl rfl, .inl rfl, .inr ⟨rfl, (by first | rfl | (simp; done) | (simp; omega) | omega), fun i_ hi_ => .inl (cat_snoc (enc := cFound) (xs := list) rfl i_ hi_)⟩, trivial⟩) (xe_again ((list ++ [(Found.mk ((at_ (at_ v_1 ((l.Nodes - 1).toNat)) t23.toNat).Text) ((at_ (at_ v_1 ((l.Nodes - 1).toNat)) t23.toNat).Cost) ((at_ lx.Entries pl_2.toNat).Cost))]), (t23 + 1)) rfl (show (0 ≤ (t23 + 1) ∧ (t23 + 1) ≤ ((at_ v_1 (l.Nodes - 1).toNat).length : Int)) ∧ ((list ++ [(Found.mk ((at_ (at_ v_1 ((l.Nodes - 1).toNat)) t23.toNat).Text) ((at_ (at_ v_1 ((l.Nodes - 1).toNat)) t23.toNat).Cost) ((at_ lx.Entries pl_2.toNat).Cost))]) = bwI2 lx (at_ v_1 (l.Nodes - 1).toNat) (t23 + 1).toNat) ∧ True from ⟨(by omega), (by (rw [hii]; first | (rw [bw2_y hx (hp1 (by assumption)) hp0.1, ← hli]) | (rw [bw2_n (hp2 (by assumption)), ← hli]))), trivial⟩) (by first | (show ((((at_ v_1 (l.Nodes - 1).toNat).length : Int) - (t23 + 1)).toNat : Nat) < (((at_ v_1 (l.Nodes - 1).toNat).length : Int) - t23).toNat; omega) | (dsimp only; omega)))
     refine x_false (congrArg Bv h2) ?_
     refine x_skip ?_
     refine xe_block 1 ?_
     refine xe_then ?_
     refine x_r [] [4, 6, 8, 21, 22, 23] [4, 6, 708] [.ref 4 0, .ref 6 0, .arr 708, slReading true (at_ v_1 ((l.Nodes - 1).toNat)), I (((at_ v_1 ((l.Nodes - 1).toNat)).length) : Int), I (t23 + 1)] [some (.box [slEntry false lx.Entries]), some (.box [Sv (⟨#[]⟩ : ByteArray), I 0, I 0]), some (tAFound list)] [inR .i64 (t23 + 1)] ⟨(inR_i64 (by omega) (by omega)), trivial⟩ ?_
     exact xe_again (list, (t23 + 1)) rfl (show (0 ≤ (t23 + 1) ∧ (t23 + 1) ≤ ((at_ v_1 (l.Nodes - 1).toNat).length : Int)) ∧ (list = bwI2 lx (at_ v_1 (l.Nodes - 1).toNat) (t23 + 1).toNat) ∧ True from ⟨(by omega), (by (rw [hii]; first | (rw [bw2_y hx (hp1 (by assumption)) hp0.1, ← hli]) | (rw [bw2_n (hp2 (by assumption)), ← hli]))), trivial⟩) (by first | (show ((((at_ v_1 (l.Nodes - 1).toNat).length : Int) - (t23 + 1)).toNat : Nat) < (((at_ v_1 (l.Nodes - 1).toNat).length : Int) - t23).toNat; omega) | (dsimp only; omega))
    have hfin : list = beamF l lx width.toNat := by rw [hli, show t23.toNat = (at_ v_1 (l.Nodes - 1).toNat).length from by omega, hbv]; rfl
    refine x_r [(0, .dec false)] [4, 6, 8, 21, 22, 23, 24] [4, 6, 708] [.ref 4 0, .ref 6 0, .arr 708, slReading true (at_ v_1 ((l.Nodes - 1).toNat)), I (((at_ v_1 ((l.Nodes - 1).toNat)).length) : Int), I t23, Bv false] [some (.box [slEntry false lx.Entries]), some (.box [Sv (⟨#[]⟩ : ByteArray), I 0, I 0]), some (tAFound list)] [¬ (t23 < (((at_ v_1 ((l.Nodes - 1).toNat)).length) : Int))] ⟨h1, trivial⟩ ?_
    refine xe_then ?_
    refine x_seq ?_
    refine x_false rfl ?_
    refine x_exit ?_
    refine xe_exit_then ?_
    refine xe_loop_exit ?_
    refine xe_exit_same ?_
    refine xe_then ?_
    refine x_seq ?_
    refine x_seq ?_
    by_cases h3 : (list.length : Int) = 0
    ·refine x_r [(2, .dec true)] [6, 8, 52] [6, 708] [.ref 6 0, .arr 708, Bv true] [some (.box [Sv (⟨#[]⟩ : ByteArray), I 0, I 0]), some (tAFound list)] [(list.length : Int) = 0] ⟨h3, trivial⟩ ?_
     refine xe_then ?_
     refine x_true rfl ?_
     refine xR [] [6, 7] [6] [.ref 6 0, Bv false] [some (.box [Sv (⟨#[]⟩ : ByteArray), I 0, I 0])] [] trivial ?_
     refine x_ret ?_
     refine xe_ret_then ?_
     refine xe_end ((Found.mk (⟨#[]⟩ : ByteArray) 0 0), false) (show ((false = true ∧ 0 < (beamF l lx width.toNat).length ∧ (Found.mk (⟨#[]⟩ : ByteArray) 0 0) = bmW l lx width.toNat) ∨ (false = false ∧ (beamF l lx width.toNat).length = 0)) ∧ (True) from ⟨(by first | exact .inr ⟨rfl, by rw [← hfin]; omega⟩ | exact .inl ⟨rfl, by rw [← hfin]; omega, by rw [hfin]; rfl⟩), trivial⟩) (trivial) (.tup [.agg [Sv (⟨#[]⟩ : ByteArray), I 0, I 0], Bv false]) (by kernel_rfl) (.inl rfl) (fun _ => rfl) (fun _ => (by simp [tagged, taggedL]))
    refine x_r [(2, .dec false)] [6, 8, 52] [6, 708] [.ref 6 0, .arr 708, Bv false] [some (.box [Sv (⟨#[]⟩ : ByteArray), I 0, I 0]), some (tAFound list)] [¬ ((list.length : Int) = 0)] ⟨h3, trivial⟩ ?_
    refine xe_then ?_
    refine x_false rfl ?_
    refine x_skip ?_
    refine xe_then ?_
    refine xR [(1, .call [(false, slFound false list), (true, .any)] true (agFound (mnF list (list.length - 1))))] [6, 7] [6] [.ref 6 0, Bv true] [some (bxFound (mnF list (list.length - 1)))] [Con Tryz.prog 39 [slFound false list, .fn 40 []] true (agFound (mnF list (list.length - 1))) ∧ ((false = true → true = true) ∧ 3 = 3 ∧ list.length = list.length ∧ ∀ i_, i_ < list.length → (fFound list) i_ = (fFound list) i_ ∨ (AV.idsL ((fFound list) i_) = [] ∧ leL (fun _ => none) false ((fFound list) i_) ((fFound list) i_))) ∧ True] ⟨⟨(minFnd_ok list (by omega)), ⟨(fun h => by cases h), rfl, rfl, fun i _ => .inl rfl⟩, trivial⟩, trivial⟩ ?_
    refine x_ret ?_
    refine xe_end ((mnF list (list.length - 1)), true) (show ((true = true ∧ 0 < (beamF l lx width.toNat).length ∧ (mnF list (list.length - 1)) = bmW l lx width.toNat) ∨ (true = false ∧ (beamF l lx width.toNat).length = 0)) ∧ (True) from ⟨(by first | exact .inr ⟨rfl, by rw [← hfin]; omega⟩ | exact .inl ⟨rfl, by rw [← hfin]; omega, by rw [hfin]; rfl⟩), trivial⟩) (trivial) (.tup [agFound (mnF list (list.length - 1)), Bv true]) (by kernel_rfl) (.inl rfl) (fun _ => rfl) (fun _ => (by simp [tagged, taggedL]))
  obtain ⟨⟨v, c⟩, ⟨hh0, _⟩, hc⟩ := hh
  exact ⟨v, c, hh0, hc⟩



-- impl.BeamWord
theorem BeamWord_ok (l : Lattice) (lx : Lexicon) (width : Int) (hl : okLat l) (hx : okLex lx) (hw : 1 ≤ width ∧ width ≤ 30) : ∃ (v : Found) (c : Int), ((c = 0 ∧ 0 < (beamF l lx width.toNat).length ∧ v = bmW l lx width.toNat) ∨ (c = 3 ∧ (beamF l lx width.toNat).length = 0)) ∧ Con Tryz.prog 7 [agLattice l, .agg [slEntry false lx.Entries], I width] true (.tup [agFound v, I c]) := by
  have hh : ∃ r : Found × Int, (((r.2 = 0 ∧ 0 < (beamF l lx width.toNat).length ∧ r.1 = bmW l lx width.toNat) ∨ (r.2 = 3 ∧ (beamF l lx width.toNat).length = 0)) ∧ (True)) ∧ CallOK Tryz.prog 7 [agLattice l, .agg [slEntry false lx.Entries], I width] (lookO []) true (.tup [agFound r.1, I r.2]) (lookO []) := by
    refine fn_okX (Φ := fun r : Found × Int => ((r.2 = 0 ∧ 0 < (beamF l lx width.toNat).length ∧ r.1 = bmW l lx width.toNat) ∨ (r.2 = 3 ∧ (beamF l lx width.toNat).length = 0)) ∧ (True)) [] (fun r => []) (fn := Tryz.f7) (nt := 30) Tryz.func7 rfl rfl (args := [agLattice l, .agg [slEntry false lx.Entries], I width]) rfl (allcons (.inl ⟨rfl, by simp [tagged, taggedL, tagEdge]⟩) (allcons (.inl ⟨rfl, by simp [tagged, taggedL, tagEntry]⟩) (allcons (.inl ⟨rfl, trivial⟩) allnil))) (res := fun r => .tup [agFound r.1, I r.2]) ?_
    refine xR [(0, .new 3), (1, .new 4), (2, .new 6)] [2, 3, 4, 6] [3, 4, 6] [I width, .ref 3 0, .ref 4 0, .ref 6 0] [some (bxLattice l), some (.box [slEntry false lx.Entries]), some (.box [Sv (⟨#[]⟩ : ByteArray), I 0, I 0])] [] trivial ?_
    refine x_seq ?_
    refine xR [(3, .call [(true, .any), (true, .any), (true, .any)] true (I 0))] [2, 3, 4, 6, 8] [3, 4, 6] [I width, .ref 3 0, .ref 4 0, .ref 6 0, I 0] [some (bxLattice l), some (.box [slEntry false lx.Entries]), some (.box [Sv (⟨#[]⟩ : ByteArray), I 0, I 0])] [Con Tryz.prog 19 [agLattice l, .agg [slEntry false lx.Entries], I width] true (I 0) ∧ True] ⟨⟨(beamable_ok l lx width hl hx hw), trivial⟩, trivial⟩ ?_
    refine xR [(1, .dec false)] [2, 3, 4, 6, 8, 16] [3, 4, 6] [I width, .ref 3 0, .ref 4 0, .ref 6 0, I 0, Bv false] [some (bxLattice l), some (.box [slEntry false lx.Entries]), some (.box [Sv (⟨#[]⟩ : ByteArray), I 0, I 0])] [¬ ((0 : Int) ≠ 0)] ⟨(fun hq => hq (by decide)), trivial⟩ ?_
    refine x_false rfl ?_
    refine x_skip ?_
    refine xe_then ?_
    refine x_seq ?_
    obtain ⟨v_1, c_1, hx1_0, hc1⟩ := beamWord_ok l lx width hl hx hw
    have hbw := hx1_0
    refine x_r [(3, .call [(true, .any), (true, .any), (true, .any)] true (.tup [agFound v_1, Bv c_1])), (7, .new 9)] [6, 9, 10] [6, 9] [.ref 6 0, .ref 9 0, Bv c_1] [some (.box [Sv (⟨#[]⟩ : ByteArray), I 0, I 0]), some (bxFound v_1)] [Con Tryz.prog 20 [agLattice l, .agg [slEntry false lx.Entries], I width] true (.tup [agFound v_1, Bv c_1]) ∧ True] ⟨⟨hc1, trivial⟩, trivial⟩ ?_
    refine xe_then ?_
    refine x_seq ?_
    refine x_seq ?_
    rcases Bool.eq_false_or_eq_true c_1 with h1 | h1
    ·subst h1
     refine x_r [] [6, 9, 27] [6, 9] [.ref 6 0, .ref 9 0, Bv false] [some (.box [Sv (⟨#[]⟩ : ByteArray), I 0, I 0]), some (bxFound v_1)] [] trivial ?_
     refine xe_then ?_
     refine x_false rfl ?_
     refine x_skip ?_
     refine xe_then ?_
     refine xR [] [6, 7] [6] [.ref 6 0, I 0] [some (bxFound v_1)] [] trivial ?_
     refine x_ret ?_
     refine xe_end (v_1, 0) (show ((0 = 0 ∧ 0 < (beamF l lx width.toNat).length ∧ v_1 = bmW l lx width.toNat) ∨ (0 = 3 ∧ (beamF l lx width.toNat).length = 0)) ∧ (True) from ⟨(by first | (rcases hbw with q | q; (exact .inl ⟨rfl, q.2.1, q.2.2⟩); (cases q.1)) | (rcases hbw with q | q; (cases q.1); (exact .inr ⟨rfl, q.2⟩)) | (rcases hbw with q | q <;> first | exact .inl ⟨rfl, q.2.1, q.2.2⟩ | exact .inr ⟨rfl, q.2⟩ | simp_all)), trivial⟩) (trivial) (.tup [agFound v_1, I 0]) (by kernel_rfl) (.inl rfl) (fun _ => rfl) (fun _ => (by simp [tagged, taggedL]))
    subst h1
    refine x_r [] [6, 9, 27] [6, 9] [.ref 6 0, .ref 9 0, Bv true] [some (.box [Sv (⟨#[]⟩ : ByteArray), I 0, I 0]), some (bxFound v_1)] [] trivial ?_
    refine xe_then ?_
    refine x_true rfl ?_
    refine xR [] [6, 7] [6] [.ref 6 0, I 3] [some (.box [Sv (⟨#[]⟩ : ByteArray), I 0, I 0])] [] trivial ?_
    refine x_ret ?_
    refine xe_ret_then ?_
    refine xe_end ((Found.mk (⟨#[]⟩ : ByteArray) 0 0), 3) (show ((3 = 0 ∧ 0 < (beamF l lx width.toNat).length ∧ (Found.mk (⟨#[]⟩ : ByteArray) 0 0) = bmW l lx width.toNat) ∨ (3 = 3 ∧ (beamF l lx width.toNat).length = 0)) ∧ (True) from ⟨(by first | (rcases hbw with q | q; (exact .inl ⟨rfl, q.2.1, q.2.2⟩); (cases q.1)) | (rcases hbw with q | q; (cases q.1); (exact .inr ⟨rfl, q.2⟩)) | (rcases hbw with q | q <;> first | exact .inl ⟨rfl, q.2.1, q.2.2⟩ | exact .inr ⟨rfl, q.2⟩ | simp_all)), trivial⟩) (trivial) (.tup [.agg [Sv (⟨#[]⟩ : ByteArray), I 0, I 0], I 3]) (by kernel_rfl) (.inl rfl) (fun _ => rfl) (fun _ => (by simp [tagged, taggedL]))
  obtain ⟨⟨v, c⟩, ⟨hh0, _⟩, hc⟩ := hh
  exact ⟨v, c, hh0, hc⟩



-- impl.textCost
theorem textCost_ok (l : Lattice) (w : ByteArray) (hl : okLat l) (hw : w.size ≤ 1000) : Con Tryz.prog 41 [agLattice l, Sv w] true (I (tcF l w)) := by
  have hn := hl.1
  have hc := hl.2.1
  refine fn_ok (fn := Tryz.f41) (nt := 96) Tryz.func41 rfl rfl rfl rfl (by simp [taggedL, tagged, tagEdge]) fun B hB => ?_
  refine aw_lens (x := agLattice l) 0 rfl (fun len_l => ?_)
  simp [LenOK, LenL, cEdge, fEdge, slEdge] at len_l
  refine aR [(0, .new 2)] [1, 2] [2] [Sv w, .ref 2 0] [some (bxLattice l)] [] hB trivial ?_
  refine aR [(2, .new 15)] [1, 2, 5] [2, 15] [Sv w, .ref 2 0, .arr 15] [some (bxLattice l), some (.arr 1 l.Nodes.toNat (fun _ => [I 0]))] [(0 : Int) ≤ l.Nodes ∧ (l.Nodes : Int) ≤ l.Nodes ∧ (8 : Int) * l.Nodes ≤ 281474976710656 ∧ l.Nodes ≤ 9223372036854775807] hB ⟨⟨(by omega), (by omega), (by omega), (by omega)⟩, trivial⟩ ?_
  refine aw_seq ?_
  refine aR [] [1, 2, 5, 17, 18] [2, 15] [Sv w, .ref 2 0, .arr 15, I (l.Nodes.toNat : Int), I 0] [some (bxLattice l), some (.arr 1 l.Nodes.toNat (fun _ => [I 0]))] [] hB trivial ?_
  refine aw_block ?_
  refine aw_weak hB [] (T := [(1, Sv w), (2, .ref 2 0), (5, .arr 15), (17, I (l.Nodes.toNat : Int)), (18, I 0)]) (O := [(2, bxLattice l), (15, tAI (List.replicate l.Nodes.toNat (0 : Int)))]) rfl (⟨.inl rfl, .inl rfl, .inl rfl, .inl rfl, .inl rfl, trivial⟩) (⟨.inl rfl, .inr ⟨rfl, (by first | rfl | (simp; done) | (simp; omega) | omega), fun i_ hi_ => .inl (const_enc (enc := cI) rfl i_ hi_)⟩, trivial⟩) ?_
  refine aw_loop (fun gn gσ => ∃ (t18 : Int) (cs : List Int), gn = (l.Nodes - t18).toNat ∧ (0 ≤ t18 ∧ t18 ≤ l.Nodes) ∧ (cs = farN l.Nodes.toNat t18.toNat) ∧ (cs.length = l.Nodes.toNat) ∧ gσ = mkS [(1, Sv w), (2, .ref 2 0), (5, .arr 15), (17, I (l.Nodes.toNat : Int)), (18, I t18)] [(2, bxLattice l), (15, tAI cs)]) ((l.Nodes - 0).toNat) ⟨0, (List.replicate l.Nodes.toNat (0 : Int)), rfl, (by omega), (by exact far_0 rfl), (by simp), rfl⟩ (fun gn gσ hI => ?_)
  obtain ⟨t18, cs, rfl, hi0, hcs, hcl, rfl⟩ := hI
  refine aw_seq ?_
  by_cases h1 : t18 < (l.Nodes.toNat : Int)
  ·refine aw_r [(0, .dec true)] [1, 2, 5, 17, 18, 19] [2, 15] [Sv w, .ref 2 0, .arr 15, I (l.Nodes.toNat : Int), I t18, Bv true] [some (bxLattice l), some (tAI cs)] [t18 < (l.Nodes.toNat : Int)] hB ⟨h1, trivial⟩ ?_
   refine ae_then ?_
   refine aw_seq ?_
   refine aw_true rfl ?_
   refine aw_skip ?_
   refine ae_then ?_
   refine aw_seq ?_
   refine aw_block ?_
   refine aR [] [1, 2, 5, 6, 17, 18] [2, 15] [Sv w, .ref 2 0, .arr 15, I t18, I (l.Nodes.toNat : Int), I t18] [some (bxLattice l), some (tAI cs)] [] hB trivial ?_
   refine aw_r [] [1, 2, 5, 17, 18] [2, 15] [Sv w, .ref 2 0, .arr 15, I (l.Nodes.toNat : Int), I t18] [some (bxLattice l), some (.arr 1 cs.length (fun q => bif Nat.beq q t18.toNat then [I 1099511627776] else (fI cs) q))] [(0 : Int) ≤ t18 ∧ t18 < (cs.length : Int), t18.toNat < cs.length] hB ⟨⟨(by omega), (by omega)⟩, (by omega), trivial⟩ ?_
   refine ae_block 1 ?_
   refine ae_then ?_
   refine aw_r [] [1, 2, 5, 17, 18] [2, 15] [Sv w, .ref 2 0, .arr 15, I (l.Nodes.toNat : Int), I (t18 + 1)] [some (bxLattice l), some (.arr 1 cs.length (fun q => bif Nat.beq q t18.toNat then [I 1099511627776] else (fI cs) q))] [inR .i64 (t18 + 1)] hB ⟨(inR_i64 (by omega) (by omega)), trivial⟩ ?_
   refine ae_weak hB [] (T := [(1, Sv w), (2, .ref 2 0), (5, .arr 15), (17, I (l.Nodes.toNat : Int)), (18, I (t18 + 1))]) (O := [(2, bxLattice l), (15, tAI (cs.set t18.toNat 1099511627776))]) rfl (⟨.inl rfl, .inl rfl, .inl rfl, .inl rfl, .inl rfl, trivial⟩) (⟨.inl rfl, .inr ⟨rfl, (by first | rfl | (simp; done) | (simp; omega) | omega), fun i_ hi_ => .inl (upd_enc (enc := cI) rfl i_ hi_)⟩, trivial⟩) (ae_again _ (by omega) ⟨(t18 + 1), (cs.set t18.toNat 1099511627776), rfl, (by omega), (by rw [hcs, far_next (by omega), show (t18 + 1).toNat = t18.toNat + 1 from by omega]), (by rw [List.length_set]; exact hcl), rfl⟩)
  have hcf : cs = List.replicate l.Nodes.toNat 1099511627776 := by rw [hcs, show t18.toNat = l.Nodes.toNat from by omega, far_all]
  refine aw_r [(0, .dec false)] [1, 2, 5, 17, 18, 19] [2, 15] [Sv w, .ref 2 0, .arr 15, I (l.Nodes.toNat : Int), I t18, Bv false] [some (bxLattice l), some (tAI cs)] [¬ (t18 < (l.Nodes.toNat : Int))] hB ⟨h1, trivial⟩ ?_
  refine ae_then ?_
  refine aw_seq ?_
  refine aw_false rfl ?_
  refine aw_exit ?_
  refine ae_exit_then ?_
  refine ae_exit_then ?_
  refine ae_exit_same ?_
  refine ae_then ?_
  refine aR [] [1, 2, 5] [2, 15] [Sv w, .ref 2 0, .arr 15] [some (bxLattice l), some (.arr 1 cs.length (fun q => bif Nat.beq q 0 then [I 0] else (fI cs) q))] [(0 : Int) ≤ 0 ∧ 0 < (cs.length : Int), 0 < cs.length] hB ⟨⟨(by omega), (by omega)⟩, (by omega), trivial⟩ ?_
  refine aw_seq ?_
  refine aR [] [1, 2, 5, 28, 29] [2, 15] [Sv w, .ref 2 0, .arr 15, I (w.size : Int), I 0] [some (bxLattice l), some (.arr 1 cs.length (fun q => bif Nat.beq q 0 then [I 0] else (fI cs) q))] [] hB trivial ?_
  refine aw_block ?_
  refine aw_weak hB [] (T := [(1, Sv w), (2, .ref 2 0), (5, .arr 15), (28, I (w.size : Int)), (29, I 0)]) (O := [(2, bxLattice l), (15, tAI (cs.set 0 0))]) rfl (⟨.inl rfl, .inl rfl, .inl rfl, .inl rfl, .inl rfl, trivial⟩) (⟨.inl rfl, .inr ⟨rfl, (by first | rfl | (simp; done) | (simp; omega) | omega), fun i_ hi_ => .inl (upd_enc (enc := cI) rfl i_ hi_)⟩, trivial⟩) ?_
  refine aw_loop (fun gn gσ => ∃ (c2 : List Int) (t29 : Int), gn = ((w.size : Int) - t29).toNat ∧ (0 ≤ t29 ∧ t29 ≤ (w.size : Int)) ∧ (c2 = tcRow l w t29.toNat) ∧ (∀ j : Nat, (j : Int) < t29 → tcA l w j = true) ∧ gσ = mkS [(1, Sv w), (2, .ref 2 0), (5, .arr 15), (28, I (w.size : Int)), (29, I t29)] [(2, bxLattice l), (15, tAI c2)]) (((w.size : Int) - 0).toNat) ⟨(cs.set 0 0), 0, rfl, (by omega), (by rw [hcf]; rfl), (by intro j hj; omega), rfl⟩ (fun gn gσ hI => ?_)
  obtain ⟨c2, t29, rfl, hi9, hc2, hal, rfl⟩ := hI
  have hrow := tcRow_ok hl w t29.toNat
  rw [← hc2] at hrow
  have hrl := hrow.1
  refine aw_seq ?_
  by_cases h2 : t29 < (w.size : Int)
  ·have hi9 : t29.toNat < w.size := by omega
   refine aw_r [(0, .dec true)] [1, 2, 5, 28, 29, 30] [2, 15] [Sv w, .ref 2 0, .arr 15, I (w.size : Int), I t29, Bv true] [some (bxLattice l), some (tAI c2)] [t29 < (w.size : Int)] hB ⟨h2, trivial⟩ ?_
   refine ae_then ?_
   refine aw_seq ?_
   refine aw_true rfl ?_
   refine aw_skip ?_
   refine ae_then ?_
   refine aw_seq ?_
   refine aw_block ?_
   refine aR [] [1, 2, 5, 7, 28, 29] [2, 15] [Sv w, .ref 2 0, .arr 15, I t29, I (w.size : Int), I t29] [some (bxLattice l), some (tAI c2)] [] hB trivial ?_
   refine aR [(2, .new 34)] [1, 2, 5, 7, 8, 28, 29] [2, 15, 34] [Sv w, .ref 2 0, .arr 15, I t29, .arr 34, I (w.size : Int), I t29] [some (bxLattice l), some (tAI c2), some (.arr 1 l.Nodes.toNat (fun _ => [I 0]))] [(0 : Int) ≤ l.Nodes ∧ (l.Nodes : Int) ≤ l.Nodes ∧ (8 : Int) * l.Nodes ≤ 281474976710656 ∧ l.Nodes ≤ 9223372036854775807] hB ⟨⟨(by omega), (by omega), (by omega), (by omega)⟩, trivial⟩ ?_
   refine aw_seq ?_
   refine aR [] [1, 2, 5, 7, 8, 28, 29, 36, 37] [2, 15, 34] [Sv w, .ref 2 0, .arr 15, I t29, .arr 34, I (w.size : Int), I t29, I (l.Nodes.toNat : Int), I 0] [some (bxLattice l), some (tAI c2), some (.arr 1 l.Nodes.toNat (fun _ => [I 0]))] [] hB trivial ?_
   refine aw_block ?_
   refine aw_weak hB [] (T := [(1, Sv w), (2, .ref 2 0), (5, .arr 15), (7, I t29), (8, .arr 34), (28, I (w.size : Int)), (29, I t29), (36, I (l.Nodes.toNat : Int)), (37, I 0)]) (O := [(2, bxLattice l), (15, tAI c2), (34, tAI (List.replicate l.Nodes.toNat (0 : Int)))]) rfl (⟨.inl rfl, .inl rfl, .inl rfl, .inl rfl, .inl rfl, .inl rfl, .inl rfl, .inl rfl, .inl rfl, trivial⟩) (⟨.inl rfl, .inl rfl, .inr ⟨rfl, (by first | rfl | (simp; done) | (simp; omega) | omega), fun i_ hi_ => .inl (const_enc (enc := cI) rfl i_ hi_)⟩, trivial⟩) ?_
   refine aw_loop (fun gn gσ => ∃ (t37 : Int) (nx : List Int), gn = (l.Nodes - t37).toNat ∧ (0 ≤ t37 ∧ t37 ≤ l.Nodes) ∧ (nx = farN l.Nodes.toNat t37.toNat) ∧ (nx.length = l.Nodes.toNat) ∧ gσ = mkS [(1, Sv w), (2, .ref 2 0), (5, .arr 15), (7, I t29), (8, .arr 34), (28, I (w.size : Int)), (29, I t29), (36, I (l.Nodes.toNat : Int)), (37, I t37)] [(2, bxLattice l), (15, tAI c2), (34, tAI nx)]) ((l.Nodes - 0).toNat) ⟨0, (List.replicate l.Nodes.toNat (0 : Int)), rfl, (by omega), (by exact far_0 rfl), (by simp), rfl⟩ (fun gn gσ hI => ?_)
   obtain ⟨t37, nx, rfl, hi7, hnx, hnl, rfl⟩ := hI
   refine aw_seq ?_
   by_cases h3 : t37 < (l.Nodes.toNat : Int)
   ·refine aw_r [(0, .dec true)] [1, 2, 5, 7, 8, 28, 29, 36, 37, 38] [2, 15, 34] [Sv w, .ref 2 0, .arr 15, I t29, .arr 34, I (w.size : Int), I t29, I (l.Nodes.toNat : Int), I t37, Bv true] [some (bxLattice l), some (tAI c2), some (tAI nx)] [t37 < (l.Nodes.toNat : Int)] hB ⟨h3, trivial⟩ ?_
    refine ae_then ?_
    refine aw_seq ?_
    refine aw_true rfl ?_
    refine aw_skip ?_
    refine ae_then ?_
    refine aw_seq ?_
    refine aw_block ?_
    refine aR [] [1, 2, 5, 7, 8, 9, 28, 29, 36, 37] [2, 15, 34] [Sv w, .ref 2 0, .arr 15, I t29, .arr 34, I t37, I (w.size : Int), I t29, I (l.Nodes.toNat : Int), I t37] [some (bxLattice l), some (tAI c2), some (tAI nx)] [] hB trivial ?_
    refine aw_r [] [1, 2, 5, 7, 8, 28, 29, 36, 37] [2, 15, 34] [Sv w, .ref 2 0, .arr 15, I t29, .arr 34, I (w.size : Int), I t29, I (l.Nodes.toNat : Int), I t37] [some (bxLattice l), some (tAI c2), some (.arr 1 nx.length (fun q => bif Nat.beq q t37.toNat then [I 1099511627776] else (fI nx) q))] [(0 : Int) ≤ t37 ∧ t37 < (nx.length : Int), t37.toNat < nx.length] hB ⟨⟨(by omega), (by omega)⟩, (by omega), trivial⟩ ?_
    refine ae_block 5 ?_
    refine ae_then ?_
    refine aw_r [] [1, 2, 5, 7, 8, 28, 29, 36, 37] [2, 15, 34] [Sv w, .ref 2 0, .arr 15, I t29, .arr 34, I (w.size : Int), I t29, I (l.Nodes.toNat : Int), I (t37 + 1)] [some (bxLattice l), some (tAI c2), some (.arr 1 nx.length (fun q => bif Nat.beq q t37.toNat then [I 1099511627776] else (fI nx) q))] [inR .i64 (t37 + 1)] hB ⟨(inR_i64 (by omega) (by omega)), trivial⟩ ?_
    refine ae_weak hB [] (T := [(1, Sv w), (2, .ref 2 0), (5, .arr 15), (7, I t29), (8, .arr 34), (28, I (w.size : Int)), (29, I t29), (36, I (l.Nodes.toNat : Int)), (37, I (t37 + 1))]) (O := [(2, bxLattice l), (15, tAI c2), (34, tAI (nx.set t37.toNat 1099511627776))]) rfl (⟨.inl rfl, .inl rfl, .inl rfl, .inl rfl, .inl rfl, .inl rfl, .inl rfl, .inl rfl, .inl rfl, trivial⟩) (⟨.inl rfl, .inl rfl, .inr ⟨rfl, (by first | rfl | (simp; done) | (simp; omega) | omega), fun i_ hi_ => .inl (upd_enc (enc := cI) rfl i_ hi_)⟩, trivial⟩) (ae_again _ (by omega) ⟨(t37 + 1), (nx.set t37.toNat 1099511627776), rfl, (by omega), (by rw [hnx, far_next (by omega), show (t37 + 1).toNat = t37.toNat + 1 from by omega]), (by rw [List.length_set]; exact hnl), rfl⟩)
   have hnf : nx = List.replicate l.Nodes.toNat 1099511627776 := by rw [hnx, show t37.toNat = l.Nodes.toNat from by omega, far_all]
   refine aw_r [(0, .dec false)] [1, 2, 5, 7, 8, 28, 29, 36, 37, 38] [2, 15, 34] [Sv w, .ref 2 0, .arr 15, I t29, .arr 34, I (w.size : Int), I t29, I (l.Nodes.toNat : Int), I t37, Bv false] [some (bxLattice l), some (tAI c2), some (tAI nx)] [¬ (t37 < (l.Nodes.toNat : Int))] hB ⟨h3, trivial⟩ ?_
   refine ae_then ?_
   refine aw_seq ?_
   refine aw_false rfl ?_
   refine aw_exit ?_
   refine ae_exit_then ?_
   refine ae_exit_then ?_
   refine ae_exit_same ?_
   refine ae_then ?_
   refine aR [] [1, 2, 5, 7, 8, 10, 28, 29] [2, 15, 34] [Sv w, .ref 2 0, .arr 15, I t29, .arr 34, Bv false, I (w.size : Int), I t29] [some (bxLattice l), some (tAI c2), some (tAI nx)] [] hB trivial ?_
   refine aw_seq ?_
   refine aR [] [1, 2, 5, 7, 8, 10, 28, 29, 45, 46, 47] [2, 15, 34] [Sv w, .ref 2 0, .arr 15, I t29, .arr 34, Bv false, I (w.size : Int), I t29, slEdge false l.Edges, I (l.Edges.length : Int), I 0] [some (bxLattice l), some (tAI c2), some (tAI nx)] [] hB trivial ?_
   refine aw_block ?_
   refine aw_loop (fun gn gσ => ∃ (alive : Bool) (t47 : Int) (n2 : List Int), gn = ((l.Edges.length : Int) - t47).toNat ∧ (0 ≤ t47 ∧ t47 ≤ (l.Edges.length : Int)) ∧ ((n2, alive) = rowE l c2 (chA w t29.toNat) t47.toNat) ∧ gσ = mkS [(1, Sv w), (2, .ref 2 0), (5, .arr 15), (7, I t29), (8, .arr 34), (10, Bv alive), (28, I (w.size : Int)), (29, I t29), (45, slEdge false l.Edges), (46, I (l.Edges.length : Int)), (47, I t47)] [(2, bxLattice l), (15, tAI c2), (34, tAI n2)]) (((l.Edges.length : Int) - 0).toNat) ⟨false, 0, nx, rfl, (by omega), (by rw [hnf]; rfl), rfl⟩ (fun gn gσ hI => ?_)
   obtain ⟨alive, t47, n2, rfl, hi4, hn2, rfl⟩ := hI
   have hre := rowE_ok hl (by omega) hrow (chA w t29.toNat) t47.toNat (by omega)
   rw [← hn2] at hre
   replace hre : okRow l.Nodes.toNat _ n2 := hre
   have hnl2 := hre.1
   refine aw_seq ?_
   by_cases h4 : t47 < (l.Edges.length : Int)
   ·have hi : t47.toNat < l.Edges.length := by omega
    have hed := hl.2.2.1 _ hi
    have hee := hed.1
    have hec := hed.2.1
    have hr1 := hrow.2 (at_ l.Edges t47.toNat).From.toNat (by omega)
    have hr2 := hre.2 (at_ l.Edges t47.toNat).To.toNat (by omega)
    refine aw_r [(0, .dec true)] [1, 2, 5, 7, 8, 10, 28, 29, 45, 46, 47, 48] [2, 15, 34] [Sv w, .ref 2 0, .arr 15, I t29, .arr 34, Bv alive, I (w.size : Int), I t29, slEdge false l.Edges, I (l.Edges.length : Int), I t47, Bv true] [some (bxLattice l), some (tAI c2), some (tAI n2)] [t47 < (l.Edges.length : Int)] hB ⟨h4, trivial⟩ ?_
    refine ae_then ?_
    refine aw_seq ?_
    refine aw_true rfl ?_
    refine aw_skip ?_
    refine ae_then ?_
    refine aw_seq ?_
    refine aw_block ?_
    refine aR [(2, .new 12)] [1, 2, 5, 7, 8, 10, 12, 28, 29, 45, 46, 47] [2, 12, 15, 34] [Sv w, .ref 2 0, .arr 15, I t29, .arr 34, Bv alive, .ref 12 0, I (w.size : Int), I t29, slEdge false l.Edges, I (l.Edges.length : Int), I t47] [some (bxLattice l), some (bxEdge (at_ l.Edges t47.toNat)), some (tAI c2), some (tAI n2)] [(0 : Int) ≤ t47 ∧ t47 < (l.Edges.length : Int)] hB ⟨⟨(by omega), (by omega)⟩, trivial⟩ ?_
    refine aw_seq ?_
    by_cases h5 : ((at_ l.Edges t47.toNat).Label) = (w.extract t29.toNat (t29 + 1).toNat)
    ·have hlb := h5
     rw [show w.extract t29.toNat (t29 + 1).toNat = chA w t29.toNat from by rw [show (t29 + 1).toNat = t29.toNat + 1 from by omega]; rfl] at hlb
     by_cases h6 : (at_ c2 (((at_ l.Edges t47.toNat).From).toNat)) < 1099511627776
     ·refine aw_r [(7, .dec true), (14, .dec true)] [1, 2, 5, 7, 8, 10, 12, 28, 29, 45, 46, 47, 66] [2, 12, 15, 34] [Sv w, .ref 2 0, .arr 15, I t29, .arr 34, Bv alive, .ref 12 0, I (w.size : Int), I t29, slEdge false l.Edges, I (l.Edges.length : Int), I t47, Bv true] [some (bxLattice l), some (bxEdge (at_ l.Edges t47.toNat)), some (tAI c2), some (tAI n2)] [inR .i64 (t29 + 1), (0 : Int) ≤ t29 ∧ t29 ≤ (t29 + 1) ∧ (t29 + 1) ≤ (w.size : Int), ((at_ l.Edges t47.toNat).Label) = (w.extract t29.toNat (t29 + 1).toNat), (0 : Int) ≤ ((at_ l.Edges t47.toNat).From) ∧ ((at_ l.Edges t47.toNat).From) < (c2.length : Int), ((at_ l.Edges t47.toNat).From).toNat < c2.length, (at_ c2 (((at_ l.Edges t47.toNat).From).toNat)) < 1099511627776] hB ⟨(inR_i64 (by omega) (by omega)), ⟨(by omega), (by omega), (by omega)⟩, h5, ⟨(by omega), (by omega)⟩, (by omega), h6, trivial⟩ ?_
      refine ae_then ?_
      refine aw_true rfl ?_
      refine aR [] [1, 2, 5, 7, 8, 28, 29, 45, 46, 47] [2, 15, 34] [Sv w, .ref 2 0, .arr 15, I t29, .arr 34, I (w.size : Int), I t29, slEdge false l.Edges, I (l.Edges.length : Int), I t47] [some (bxLattice l), some (tAI c2), some (.arr 1 n2.length (fun q => bif Nat.beq q (((at_ l.Edges t47.toNat).To).toNat) then [I (min (at_ n2 (((at_ l.Edges t47.toNat).To).toNat)) ((at_ c2 (((at_ l.Edges t47.toNat).From).toNat)) + ((at_ l.Edges t47.toNat).Cost)))] else (fI n2) q))] [(0 : Int) ≤ ((at_ l.Edges t47.toNat).To) ∧ ((at_ l.Edges t47.toNat).To) < (n2.length : Int), ((at_ l.Edges t47.toNat).To).toNat < n2.length, (0 : Int) ≤ ((at_ l.Edges t47.toNat).From) ∧ ((at_ l.Edges t47.toNat).From) < (c2.length : Int), ((at_ l.Edges t47.toNat).From).toNat < c2.length, inR .i64 ((at_ c2 (((at_ l.Edges t47.toNat).From).toNat)) + ((at_ l.Edges t47.toNat).Cost)), (0 : Int) ≤ ((at_ l.Edges t47.toNat).To) ∧ ((at_ l.Edges t47.toNat).To) < (n2.length : Int), ((at_ l.Edges t47.toNat).To).toNat < n2.length] hB ⟨⟨(by omega), (by omega)⟩, (by omega), ⟨(by omega), (by omega)⟩, (by omega), (inR_i64 (by omega) (by omega)), ⟨(by omega), (by omega)⟩, (by omega), trivial⟩ ?_
      refine aw_r [] [1, 2, 5, 7, 8, 10, 28, 29, 45, 46, 47] [2, 15, 34] [Sv w, .ref 2 0, .arr 15, I t29, .arr 34, Bv true, I (w.size : Int), I t29, slEdge false l.Edges, I (l.Edges.length : Int), I t47] [some (bxLattice l), some (tAI c2), some (.arr 1 n2.length (fun q => bif Nat.beq q (((at_ l.Edges t47.toNat).To).toNat) then [I (min (at_ n2 (((at_ l.Edges t47.toNat).To).toNat)) ((at_ c2 (((at_ l.Edges t47.toNat).From).toNat)) + ((at_ l.Edges t47.toNat).Cost)))] else (fI n2) q))] [] hB trivial ?_
      refine ae_block 7 ?_
      refine ae_then ?_
      refine aw_r [] [1, 2, 5, 7, 8, 10, 28, 29, 45, 46, 47] [2, 15, 34] [Sv w, .ref 2 0, .arr 15, I t29, .arr 34, Bv true, I (w.size : Int), I t29, slEdge false l.Edges, I (l.Edges.length : Int), I (t47 + 1)] [some (bxLattice l), some (tAI c2), some (.arr 1 n2.length (fun q => bif Nat.beq q (((at_ l.Edges t47.toNat).To).toNat) then [I (min (at_ n2 (((at_ l.Edges t47.toNat).To).toNat)) ((at_ c2 (((at_ l.Edges t47.toNat).From).toNat)) + ((at_ l.Edges t47.toNat).Cost)))] else (fI n2) q))] [inR .i64 (t47 + 1)] hB ⟨(inR_i64 (by omega) (by omega)), trivial⟩ ?_
      refine ae_weak hB [] (T := [(1, Sv w), (2, .ref 2 0), (5, .arr 15), (7, I t29), (8, .arr 34), (10, Bv true), (28, I (w.size : Int)), (29, I t29), (45, slEdge false l.Edges), (46, I (l.Edges.length : Int)), (47, I (t47 + 1))]) (O := [(2, bxLattice l), (15, tAI c2), (34, tAI (n2.set (((at_ l.Edges t47.toNat).To).toNat) (min (at_ n2 (((at_ l.Edges t47.toNat).To).toNat)) ((at_ c2 (((at_ l.Edges t47.toNat).From).toNat)) + ((at_ l.Edges t47.toNat).Cost)))))]) rfl (⟨.inl rfl, .inl rfl, .inl rfl, .inl rfl, .inl rfl, .inl rfl, .inl rfl, .inl rfl, .inl rfl, .inl rfl, .inl rfl, trivial⟩) (⟨.inl rfl, .inl rfl, .inr ⟨rfl, (by first | rfl | (simp; done) | (simp; omega) | omega), fun i_ hi_ => .inl (upd_enc (enc := cI) rfl i_ hi_)⟩, trivial⟩) (ae_again _ (by omega) ⟨true, (t47 + 1), (n2.set (((at_ l.Edges t47.toNat).To).toNat) (min (at_ n2 (((at_ l.Edges t47.toNat).To).toNat)) ((at_ c2 (((at_ l.Edges t47.toNat).From).toNat)) + ((at_ l.Edges t47.toNat).Cost)))), rfl, (by omega), (by rw [show (t47 + 1).toNat = t47.toNat + 1 from by omega]; show _ = (if _ then _ else _); rw [← hn2]; first | (rw [if_pos ⟨by assumption, by assumption⟩]; done) | (rw [if_neg (fun q => absurd q.1 (by assumption))]; done) | (rw [if_neg (fun q => absurd q.2 (by assumption))]; done)), rfl⟩)
     refine aw_r [(7, .dec true), (14, .dec false)] [1, 2, 5, 7, 8, 10, 12, 28, 29, 45, 46, 47, 66] [2, 12, 15, 34] [Sv w, .ref 2 0, .arr 15, I t29, .arr 34, Bv alive, .ref 12 0, I (w.size : Int), I t29, slEdge false l.Edges, I (l.Edges.length : Int), I t47, Bv false] [some (bxLattice l), some (bxEdge (at_ l.Edges t47.toNat)), some (tAI c2), some (tAI n2)] [inR .i64 (t29 + 1), (0 : Int) ≤ t29 ∧ t29 ≤ (t29 + 1) ∧ (t29 + 1) ≤ (w.size : Int), ((at_ l.Edges t47.toNat).Label) = (w.extract t29.toNat (t29 + 1).toNat), (0 : Int) ≤ ((at_ l.Edges t47.toNat).From) ∧ ((at_ l.Edges t47.toNat).From) < (c2.length : Int), ((at_ l.Edges t47.toNat).From).toNat < c2.length, ¬ ((at_ c2 (((at_ l.Edges t47.toNat).From).toNat)) < 1099511627776)] hB ⟨(inR_i64 (by omega) (by omega)), ⟨(by omega), (by omega), (by omega)⟩, h5, ⟨(by omega), (by omega)⟩, (by omega), h6, trivial⟩ ?_
     refine ae_then ?_
     refine aw_false rfl ?_
     refine aw_skip ?_
     refine ae_block 7 ?_
     refine ae_then ?_
     refine aw_r [] [1, 2, 5, 7, 8, 10, 28, 29, 45, 46, 47] [2, 15, 34] [Sv w, .ref 2 0, .arr 15, I t29, .arr 34, Bv alive, I (w.size : Int), I t29, slEdge false l.Edges, I (l.Edges.length : Int), I (t47 + 1)] [some (bxLattice l), some (tAI c2), some (tAI n2)] [inR .i64 (t47 + 1)] hB ⟨(inR_i64 (by omega) (by omega)), trivial⟩ ?_
     exact ae_again _ (by omega) ⟨alive, (t47 + 1), n2, rfl, (by omega), (by rw [show (t47 + 1).toNat = t47.toNat + 1 from by omega]; show _ = (if _ then _ else _); rw [← hn2]; first | (rw [if_pos ⟨by assumption, by assumption⟩]; done) | (rw [if_neg (fun q => absurd q.1 (by assumption))]; done) | (rw [if_neg (fun q => absurd q.2 (by assumption))]; done)), rfl⟩
    have hlb := h5
    rw [show w.extract t29.toNat (t29 + 1).toNat = chA w t29.toNat from by rw [show (t29 + 1).toNat = t29.toNat + 1 from by omega]; rfl] at hlb
    refine aw_r [(7, .dec false)] [1, 2, 5, 7, 8, 10, 12, 28, 29, 45, 46, 47, 66] [2, 12, 15, 34] [Sv w, .ref 2 0, .arr 15, I t29, .arr 34, Bv alive, .ref 12 0, I (w.size : Int), I t29, slEdge false l.Edges, I (l.Edges.length : Int), I t47, Bv false] [some (bxLattice l), some (bxEdge (at_ l.Edges t47.toNat)), some (tAI c2), some (tAI n2)] [inR .i64 (t29 + 1), (0 : Int) ≤ t29 ∧ t29 ≤ (t29 + 1) ∧ (t29 + 1) ≤ (w.size : Int), ¬ (((at_ l.Edges t47.toNat).Label) = (w.extract t29.toNat (t29 + 1).toNat))] hB ⟨(inR_i64 (by omega) (by omega)), ⟨(by omega), (by omega), (by omega)⟩, h5, trivial⟩ ?_
    refine ae_then ?_
    refine aw_false rfl ?_
    refine aw_skip ?_
    refine ae_block 7 ?_
    refine ae_then ?_
    refine aw_r [] [1, 2, 5, 7, 8, 10, 28, 29, 45, 46, 47] [2, 15, 34] [Sv w, .ref 2 0, .arr 15, I t29, .arr 34, Bv alive, I (w.size : Int), I t29, slEdge false l.Edges, I (l.Edges.length : Int), I (t47 + 1)] [some (bxLattice l), some (tAI c2), some (tAI n2)] [inR .i64 (t47 + 1)] hB ⟨(inR_i64 (by omega) (by omega)), trivial⟩ ?_
    exact ae_again _ (by omega) ⟨alive, (t47 + 1), n2, rfl, (by omega), (by rw [show (t47 + 1).toNat = t47.toNat + 1 from by omega]; show _ = (if _ then _ else _); rw [← hn2]; first | (rw [if_pos ⟨by assumption, by assumption⟩]; done) | (rw [if_neg (fun q => absurd q.1 (by assumption))]; done) | (rw [if_neg (fun q => absurd q.2 (by assumption))]; done)), rfl⟩
   have hie : t47.toNat = l.Edges.length := by omega
   refine aw_r [(0, .dec false)] [1, 2, 5, 7, 8, 10, 28, 29, 45, 46, 47, 48] [2, 15, 34] [Sv w, .ref 2 0, .arr 15, I t29, .arr 34, Bv alive, I (w.size : Int), I t29, slEdge false l.Edges, I (l.Edges.length : Int), I t47, Bv false] [some (bxLattice l), some (tAI c2), some (tAI n2)] [¬ (t47 < (l.Edges.length : Int))] hB ⟨h4, trivial⟩ ?_
   refine ae_then ?_
   refine aw_seq ?_
   refine aw_false rfl ?_
   refine aw_exit ?_
   refine ae_exit_then ?_
   refine ae_exit_then ?_
   refine ae_exit_same ?_
   refine ae_then ?_
   refine aw_seq ?_
   refine aw_seq ?_
   rcases Bool.eq_false_or_eq_true alive with h7 | h7
   ·subst h7
    refine aw_r [] [1, 2, 8, 28, 29, 87] [2, 34] [Sv w, .ref 2 0, .arr 34, I (w.size : Int), I t29, Bv false] [some (bxLattice l), some (tAI n2)] [] hB trivial ?_
    refine ae_then ?_
    refine aw_false rfl ?_
    refine aw_skip ?_
    refine ae_then ?_
    refine aw_r [] [1, 2, 5, 28, 29] [2, 34] [Sv w, .ref 2 0, .arr 34, I (w.size : Int), I t29] [some (bxLattice l), some (tAI n2)] [] hB trivial ?_
    refine ae_block 3 ?_
    refine ae_then ?_
    refine aw_r [] [1, 2, 5, 28, 29] [2, 34] [Sv w, .ref 2 0, .arr 34, I (w.size : Int), I (t29 + 1)] [some (bxLattice l), some (tAI n2)] [inR .i64 (t29 + 1)] hB ⟨(inR_i64 (by omega) (by omega)), trivial⟩ ?_
    refine ae_weak hB [(15, 34)] (T := [(1, Sv w), (2, .ref 2 0), (5, .arr 15), (28, I (w.size : Int)), (29, I (t29 + 1))]) (O := [(2, bxLattice l), (15, tAI n2)]) rfl (⟨.inl rfl, .inl rfl, .inl rfl, .inl rfl, .inl rfl, trivial⟩) (⟨.inl rfl, .inl rfl, trivial⟩) (ae_again _ (by omega) ⟨n2, (t29 + 1), rfl, (by omega), (by rw [show (t29 + 1).toNat = t29.toNat + 1 from by omega]; show _ = (rowE l (tcRow l w t29.toNat) (chA w t29.toNat) l.Edges.length).1; rw [← hc2, ← hie, ← hn2]), (by intro j hj; by_cases ej : j = t29.toNat; (subst ej; show (rowE l (tcRow l w t29.toNat) (chA w t29.toNat) l.Edges.length).2 = true; rw [← hc2, ← hie, ← hn2]); exact hal j (by omega)), rfl⟩)
   subst h7
   refine aw_r [] [1, 2, 8, 28, 29, 87] [2, 34] [Sv w, .ref 2 0, .arr 34, I (w.size : Int), I t29, Bv true] [some (bxLattice l), some (tAI n2)] [] hB trivial ?_
   refine ae_then ?_
   refine aw_true rfl ?_
   refine aR [] [4] [] [I 1099511627776] [] [] hB trivial ?_
   refine aw_ret ?_
   refine ae_ret_then (ae_ret_block (ae_ret_then (ae_ret_then (ae_ret_block (ae_ret_then ?_)))))
   refine ae_ret hB (I 1099511627776) (by kernel_rfl) (.inl (by refine congrArg I ?_; first | (unfold tcF; rw [if_pos (anyN_at hi9 (by show (!(rowE l (tcRow l w t29.toNat) _ _).2) = true; rw [← hc2, ← hie, ← hn2]; rfl))]; done) | (unfold tcF; rw [if_neg (by rw [anyN_none (fun j hj => by rw [hal j (by omega)]; rfl)]; decide), ← hie9, ← hc2]; done))) rfl (fun _ => trivial)
  have hie9 : t29.toNat = w.size := by omega
  have hrow := tcRow_ok hl w t29.toNat
  rw [← hc2] at hrow
  have hrl := hrow.1
  refine aw_r [(0, .dec false)] [1, 2, 5, 28, 29, 30] [2, 15] [Sv w, .ref 2 0, .arr 15, I (w.size : Int), I t29, Bv false] [some (bxLattice l), some (tAI c2)] [¬ (t29 < (w.size : Int))] hB ⟨h2, trivial⟩ ?_
  refine ae_then ?_
  refine aw_seq ?_
  refine aw_false rfl ?_
  refine aw_exit ?_
  refine ae_exit_then ?_
  refine ae_exit_then ?_
  refine ae_exit_same ?_
  refine ae_then ?_
  refine aR [] [4] [] [I (at_ c2 ((l.Nodes - 1).toNat))] [] [inR .i64 (l.Nodes - 1), (0 : Int) ≤ (l.Nodes - 1) ∧ (l.Nodes - 1) < (c2.length : Int), (l.Nodes - 1).toNat < c2.length] hB ⟨(inR_i64 (by omega) (by omega)), ⟨(by omega), (by omega)⟩, (by omega), trivial⟩ ?_
  refine aw_ret ?_
  refine ae_ret hB (I (at_ c2 ((l.Nodes - 1).toNat))) (by kernel_rfl) (.inl (by refine congrArg I ?_; first | (unfold tcF; rw [if_pos (anyN_at hi9 (by show (!(rowE l (tcRow l w t29.toNat) _ _).2) = true; rw [← hc2, ← hie, ← hn2]; rfl))]; done) | (unfold tcF; rw [if_neg (by rw [anyN_none (fun j hj => by rw [hal j (by omega)]; rfl)]; decide), ← hie9, ← hc2]; done))) rfl (fun _ => trivial)



-- impl.readable
def sfeFnd (x : Found) : List Value := [.string x.Word, .int .i64 x.Path, .int .i64 x.Own]
theorem srFcmp (x y : Found) (w : World) : Calls Tryz.prog 40 (#[.agg (sfeFnd x).toArray, .agg (sfeFnd y).toArray] ++ #[]) w fun e w' => e = .returned (.int .i64 (cmpF x y)) ∧ ∃ q os', w' = Go.Sort.grow (w.drewN q) os' := by
  show Calls Tryz.prog 40 #[.agg #[.string x.Word, .int .i64 x.Path, .int .i64 x.Own], .agg #[.string y.Word, .int .i64 y.Path, .int .i64 y.Own]] w _
  go_enter Tryz.func40, Tryz.ntmps40
  go_wp2
  refine wp_region_split_lit 23 (by kernel_rfl) (by kernel_rfl) (by kernel_rfl) ?_
  repeat (quiet_step (first | (go_at_call 62; exact Calls.quiet_of_same (sfCI _ _ _)) | (go_at_call 63; exact Calls.quiet_of_same (sfCJ _ _ _)) | (go_at_call 60; exact Calls.quiet_of_same (sfCS _ _ _))))
  refine wpQuiet_nil ?_
  intro _ hw'
  obtain ⟨nq, hw''⟩ := hw'
  subst hw''
  simp only [List.drop_succ_cons, List.drop_zero]
  go_wp2_with fail
  have hs_ : ∀ f : Found, RowKit.wrap64 (f.Path + f.Own) = sumF f := fun f => (IntWalk.i64_left _).symm
  simp only [hs_]
  refine (sfOr _ _ _ [cmpI (sumF x) (sumF y), cmpI (x.Word.size : Int) (y.Word.size : Int), cmpS x.Word y.Word] _ rfl (by simp) (fun j hj => ?_)).mono ?_
  · have hj2 : j = 0 ∨ j = 1 ∨ j = 2 := by
      simp at hj; omega
    have e : ∀ (a b c : Obj), (((w.heap.push a).push b).push c)[w.heap.size + 1 + 1]? = some c := fun a b c => by rw [Array.getElem?_push, if_pos (by simp)]
    unfold World.cell?
    rcases hj2 with rfl | rfl | rfl <;> (erw [e]; rfl)
  rintro e w' ⟨rfl, rfl⟩
  go_wp2
  go_ret
  refine ⟨rfl, nq, #[.cells #[Value.string x.Word, Value.int IntKind.i64 x.Path, Value.int IntKind.i64 x.Own] 34 (0, 0), .cells #[Value.string y.Word, Value.int IntKind.i64 y.Path, Value.int IntKind.i64 y.Own] 34 (0, 0), .cells #[Value.int IntKind.i64 (cmpI (sumF x) (sumF y)), Value.int IntKind.i64 (cmpI (x.Word.size : Int) (y.Word.size : Int)), Value.int IntKind.i64 (cmpS x.Word y.Word)] 3 (0, 0)], ?_⟩
  have e : ∀ (a b c : Obj), ((w.heap.push a).push b).push c = w.heap ++ #[a, b, c] := fun a b c => Array.toList_inj.1 (by simp)
  unfold Go.Sort.grow
  show World.mk (((w.heap.push _).push _).push _) w.tape (w.drawn + nq) w.os w.output = World.mk (w.heap ++ #[_, _, _]) w.tape (w.drawn + nq) w.os w.output
  rw [e]

theorem srFsort_ok (data : List Found) (hl : data.length ≤ 4000000) : ∃ (data' : List Found), (data'.Perm data) ∧ (data'.Pairwise fun x_ y_ => ¬ cmpF y_ x_ < 0) ∧ CallOK Tryz.prog 42 [.arr 8631, .fn 40 []] (lookO [(8631, tAFound data)]) true (.tup []) (lookO [(8631, tAFound data')]) := by
  refine ⟨srtF cmpF data, srt_perm (swo_of cmpF_w) data, srt_pw (swo_of cmpF_w) data, ?_⟩
  exact sortf_callOK (enc := sfeFnd) (kc := 3) (by decide) (fun _ => rfl) (fun x v hv => by simp only [sfeFnd, List.mem_cons, List.not_mem_nil, or_false] at hv; rcases hv with rfl | rfl | rfl <;> rfl) (cf := cmpF) (swo_of cmpF_w)
    (fun blk off cap d w h1 h2 h3 => AnyQ.slices_SortFunc_eq Tryz.laysSfFnd 3 (fun w => run_isAgg (by kernel_rfl) w) (fun w => run_sizeOf (by kernel_rfl) w) sfeFnd (fun _ => rfl) (fun x v hv => by simp only [sfeFnd, List.mem_cons, List.not_mem_nil, or_false] at hv; rcases hv with rfl | rfl | rfl <;> rfl) cmpF (swo_of cmpF_w) 40 #[] blk off cap d w (enters_of Tryz.func40 (by kernel_rfl) rfl) (fun m os dk hdk x y => srFcmp x y _) h1 h2 h3)
    (fun p cap fv w => AnyF.slices_SortFunc_none Tryz.laysSfFnd p cap fv w) 8631 data (by omega)

theorem readable_ok (l : Lattice) (lx : Lexicon) (hl : okLat l) (hx : okLex lx) : ∃ (v : List Found), (v.Perm (rdA l lx)) ∧ (v.Pairwise fun x_ y_ => ¬ cmpF y_ x_ < 0) ∧ Con Tryz.prog 21 [agLattice l, .agg [slEntry false lx.Entries]] true (slFound true v) := by
  have hn20 := hl.1
  have hc := hx.1
  have hh : ∃ r : (List Found), ((r.Perm (rdA l lx)) ∧ (r.Pairwise fun x_ y_ => ¬ cmpF y_ x_ < 0) ∧ (True)) ∧ CallOK Tryz.prog 21 [agLattice l, .agg [slEntry false lx.Entries]] (lookO []) true (slFound true r) (lookO []) := by
    refine fn_okX (Φ := fun r : (List Found) => (r.Perm (rdA l lx)) ∧ (r.Pairwise fun x_ y_ => ¬ cmpF y_ x_ < 0) ∧ (True)) [] (fun r => []) (fn := Tryz.f21) (nt := 35) Tryz.func21 rfl rfl (args := [agLattice l, .agg [slEntry false lx.Entries]]) rfl (allcons (.inl ⟨rfl, by simp [tagged, taggedL, tagEdge]⟩) (allcons (.inl ⟨rfl, by simp [tagged, taggedL, tagEntry]⟩) allnil)) (res := fun r => slFound true r) ?_
    refine xR [(0, .new 2), (1, .new 3)] [2, 3] [2, 3] [.ref 2 0, .ref 3 0] [some (bxLattice l), some (.box [slEntry false lx.Entries])] [] trivial ?_
    refine xR [] [2, 3, 5] [2, 3] [.ref 2 0, .ref 3 0, nilA] [some (bxLattice l), some (.box [slEntry false lx.Entries])] [] trivial ?_
    refine x_seq ?_
    refine xR [] [2, 5, 10, 11, 12] [2] [.ref 2 0, nilA, slEntry false lx.Entries, I (lx.Entries.length : Int), I 0] [some (bxLattice l)] [] trivial ?_
    refine x_block ?_
    refine x_nil 5 705 3 (fun _ => []) (by kernel_rfl) ?_
    refine x_weak [] (T := [(2, .ref 2 0), (5, .arr 705), (10, slEntry false lx.Entries), (11, I (lx.Entries.length : Int)), (12, I 0)]) (O := [(2, bxLattice l), (705, tAFound ([] : List Found))]) rfl (⟨.inl rfl, .inl rfl, .inl rfl, .inl rfl, .inl rfl, trivial⟩) (⟨.inl rfl, .inr ⟨rfl, (by first | rfl | (simp; done) | (simp; omega) | omega), fun i_ hi_ => absurd hi_ (Nat.not_lt_zero _)⟩, trivial⟩) ?_
    refine x_loop (X := (List Found) × Int) (fun x => mkS [(2, .ref 2 0), (5, .arr 705), (10, slEntry false lx.Entries), (11, I (lx.Entries.length : Int)), (12, I x.2)] [(2, bxLattice l), (705, tAFound x.1)]) (fun x => (0 ≤ x.2 ∧ x.2 ≤ (lx.Entries.length : Int)) ∧ (x.1 = rdI l lx x.2.toNat) ∧ True) (fun x => ((lx.Entries.length : Int) - x.2).toNat) (([] : List Found), 0) rfl (show (0 ≤ (0 : Int) ∧ (0 : Int) ≤ (lx.Entries.length : Int)) ∧ (([] : List Found) = rdI l lx (0 : Int).toNat) ∧ True from ⟨(by omega), (by rfl), trivial⟩) (fun x hI => ?_)
    obtain ⟨list, t12⟩ := x
    obtain ⟨hi0, hli, _⟩ : (0 ≤ t12 ∧ t12 ≤ (lx.Entries.length : Int)) ∧ (list = rdI l lx t12.toNat) ∧ True := hI
    show XW _ _ _ _ (mkS [(2, .ref 2 0), (5, .arr 705), (10, slEntry false lx.Entries), (11, I (lx.Entries.length : Int)), (12, I t12)] [(2, bxLattice l), (705, tAFound list)]) _ _
    refine x_seq ?_
    by_cases h1 : t12 < (lx.Entries.length : Int)
    ·have hi : t12.toNat < lx.Entries.length := by omega
     have hen := hx.2.1 _ (at_mem hi)
     have hwz := (okWord_iff.1 hen.1).1
     have hii : (t12 + 1).toNat = t12.toNat + 1 := by omega
     have hrl := rdI_len l lx t12.toNat
     rw [← hli] at hrl
     refine x_r [(0, .dec true)] [2, 5, 10, 11, 12, 13] [2, 705] [.ref 2 0, .arr 705, slEntry false lx.Entries, I (lx.Entries.length : Int), I t12, Bv true] [some (bxLattice l), some (tAFound list)] [t12 < (lx.Entries.length : Int)] ⟨h1, trivial⟩ ?_
     refine xe_then ?_
     refine x_seq ?_
     refine x_true rfl ?_
     refine x_skip ?_
     refine xe_then ?_
     refine x_seq ?_
     refine x_block ?_
     refine xR [(2, .new 7)] [2, 5, 7, 10, 11, 12] [2, 7, 705] [.ref 2 0, .arr 705, .ref 7 0, slEntry false lx.Entries, I (lx.Entries.length : Int), I t12] [some (bxLattice l), some (bxEntry (at_ lx.Entries t12.toNat)), some (tAFound list)] [(0 : Int) ≤ t12 ∧ t12 < (lx.Entries.length : Int)] ⟨⟨(by omega), (by omega)⟩, trivial⟩ ?_
     refine xR [(3, .call [(true, .any), (true, .any)] true (I (tcF l ((at_ lx.Entries t12.toNat).Word))))] [2, 5, 7, 8, 10, 11, 12] [2, 7, 705] [.ref 2 0, .arr 705, .ref 7 0, I (tcF l ((at_ lx.Entries t12.toNat).Word)), slEntry false lx.Entries, I (lx.Entries.length : Int), I t12] [some (bxLattice l), some (bxEntry (at_ lx.Entries t12.toNat)), some (tAFound list)] [Con Tryz.prog 41 [agLattice l, Sv ((at_ lx.Entries t12.toNat).Word)] true (I (tcF l ((at_ lx.Entries t12.toNat).Word))) ∧ True] ⟨⟨(textCost_ok l ((at_ lx.Entries t12.toNat).Word) hl (by omega)), trivial⟩, trivial⟩ ?_
     refine x_seq ?_
     by_cases h2 : (tcF l ((at_ lx.Entries t12.toNat).Word)) < 1099511627776
     ·have htc := h2
      refine x_r [(1, .dec true)] [2, 5, 7, 8, 10, 11, 12, 21] [2, 7, 705] [.ref 2 0, .arr 705, .ref 7 0, I (tcF l ((at_ lx.Entries t12.toNat).Word)), slEntry false lx.Entries, I (lx.Entries.length : Int), I t12, Bv true] [some (bxLattice l), some (bxEntry (at_ lx.Entries t12.toNat)), some (tAFound list)] [(tcF l ((at_ lx.Entries t12.toNat).Word)) < 1099511627776] ⟨h2, trivial⟩ ?_
      refine xe_then ?_
      refine x_true rfl ?_
      refine x_r [(7, .new 29), (8, .new 30)] [2, 5, 10, 11, 12] [2, 30] [.ref 2 0, .arr 30, slEntry false lx.Entries, I (lx.Entries.length : Int), I t12] [some (bxLattice l), some (.arr 3 (list.length + 1) (catF list.length (fFound list) (litF [Sv ((at_ lx.Entries t12.toNat).Word), I (tcF l ((at_ lx.Entries t12.toNat).Word)), I ((at_ lx.Entries t12.toNat).Cost)] 3)))] [(list.length + 1) * 32 ≤ 140737488355328] ⟨(by omega), trivial⟩ ?_
      refine xe_block 1 ?_
      refine xe_then ?_
      refine x_r [] [2, 5, 10, 11, 12] [2, 30] [.ref 2 0, .arr 30, slEntry false lx.Entries, I (lx.Entries.length : Int), I (t12 + 1)] [some (bxLattice l), some (.arr 3 (list.length + 1) (catF list.length (fFound list) (litF [Sv ((at_ lx.Entries t12.toNat).Word), I (tcF l ((at_ lx.Entries t12.toNat).Word)), I ((at_ lx.Entries t12.toNat).Cost)] 3)))] [inR .i64 (t12 + 1)] ⟨(inR_i64 (by omega) (by omega)), trivial⟩ ?_
      refine xe_weak [(705, 30)] (T := [(2, .ref 2 0), (5, .arr 705), (10, slEntry false lx.Entries), (11, I (lx.Entries.length : Int)), (12, I (t12 + 1))]) (O := [(2, bxLattice l), (705, tAFound (list ++ [(Found.mk ((at_ lx.Entries t12.toNat).Word) (tcF l ((at_ lx.Entries t12.toNat).Word)) ((at_ lx.Entries t12.toNat).Cost))]))]) rfl (⟨.inl rfl, .inl rfl, .inl rfl, .inl rfl, .inl rfl, trivial⟩) (⟨.inl rfl, .inr ⟨rfl, (by first | rfl | (simp; done) | (simp; omega) | omega), fun i_ hi_ => .inl (cat_snoc (enc := cFound) (xs := list) rfl i_ hi_)⟩, trivial⟩) (xe_again ((list ++ [(Found.mk ((at_ lx.Entries t12.toNat).Word) (tcF l ((at_ lx.Entries t12.toNat).Word)) ((at_ lx.Entries t12.toNat).Cost))]), (t12 + 1)) rfl (show (0 ≤ (t12 + 1) ∧ (t12 + 1) ≤ (lx.Entries.length : Int)) ∧ ((list ++ [(Found.mk ((at_ lx.Entries t12.toNat).Word) (tcF l ((at_ lx.Entries t12.toNat).Word)) ((at_ lx.Entries t12.toNat).Cost))]) = rdI l lx (t12 + 1).toNat) ∧ True from ⟨(by omega), (by (rw [hii]; show _ = (if _ then _ else _); rw [← hli]; first | (rw [if_pos htc]; done) | (rw [if_neg htc]; done))), trivial⟩) (by first | (show (((lx.Entries.length : Int) - (t12 + 1)).toNat : Nat) < ((lx.Entries.length : Int) - t12).toNat; omega) | (dsimp only; omega)))
     have htc := h2
     refine x_r [(1, .dec false)] [2, 5, 7, 8, 10, 11, 12, 21] [2, 7, 705] [.ref 2 0, .arr 705, .ref 7 0, I (tcF l ((at_ lx.Entries t12.toNat).Word)), slEntry false lx.Entries, I (lx.Entries.length : Int), I t12, Bv false] [some (bxLattice l), some (bxEntry (at_ lx.Entries t12.toNat)), some (tAFound list)] [¬ ((tcF l ((at_ lx.Entries t12.toNat).Word)) < 1099511627776)] ⟨h2, trivial⟩ ?_
     refine xe_then ?_
     refine x_false rfl ?_
     refine x_skip ?_
     refine xe_block 1 ?_
     refine xe_then ?_
     refine x_r [] [2, 5, 10, 11, 12] [2, 705] [.ref 2 0, .arr 705, slEntry false lx.Entries, I (lx.Entries.length : Int), I (t12 + 1)] [some (bxLattice l), some (tAFound list)] [inR .i64 (t12 + 1)] ⟨(inR_i64 (by omega) (by omega)), trivial⟩ ?_
     exact xe_again (list, (t12 + 1)) rfl (show (0 ≤ (t12 + 1) ∧ (t12 + 1) ≤ (lx.Entries.length : Int)) ∧ (list = rdI l lx (t12 + 1).toNat) ∧ True from ⟨(by omega), (by (rw [hii]; show _ = (if _ then _ else _); rw [← hli]; first | (rw [if_pos htc]; done) | (rw [if_neg htc]; done))), trivial⟩) (by first | (show (((lx.Entries.length : Int) - (t12 + 1)).toNat : Nat) < ((lx.Entries.length : Int) - t12).toNat; omega) | (dsimp only; omega))
    have hie : t12.toNat = lx.Entries.length := by omega
    have hrl := rdI_len l lx t12.toNat
    rw [← hli] at hrl
    refine x_r [(0, .dec false)] [2, 5, 10, 11, 12, 13] [2, 705] [.ref 2 0, .arr 705, slEntry false lx.Entries, I (lx.Entries.length : Int), I t12, Bv false] [some (bxLattice l), some (tAFound list)] [¬ (t12 < (lx.Entries.length : Int))] ⟨h1, trivial⟩ ?_
    refine xe_then ?_
    refine x_seq ?_
    refine x_false rfl ?_
    refine x_exit ?_
    refine xe_exit_then ?_
    refine xe_loop_exit ?_
    refine xe_exit_same ?_
    refine xe_then ?_
    refine x_seq ?_
    refine x_weak [(8631, 705)] (T := [(2, .ref 2 0), (5, .arr 8631), (10, slEntry false lx.Entries), (11, I (lx.Entries.length : Int)), (12, I t12), (13, Bv false)]) (O := [(2, bxLattice l), (8631, tAFound list)]) rfl (⟨.inl rfl, .inl rfl, .inl rfl, .inl rfl, .inl rfl, .inl rfl, trivial⟩) (⟨.inl rfl, .inl rfl, trivial⟩) ?_
    obtain ⟨data'_1, hx1_0, hx1_1, hc1⟩ := srFsort_ok list (by omega)
    have hpm := hx1_0
    have hsr := hx1_1
    refine x_r [(1, .lend [(8631, tAFound list, tAFound data'_1)] [] [(true, .any), (true, .any)] true (.tup []))] [5] [8631] [.arr 8631] [some (tAFound data'_1)] [CallOK Tryz.prog 42 [.arr 8631, .fn 40 []] (lookO [(8631, tAFound list)]) true (.tup []) (lookO [(8631, tAFound data'_1)]) ∧ (((tAFound list : Ob) = tAFound list ∨ obLe noOb true (tAFound list) (tAFound list)) ∧ taggedO false (tAFound list)) ∧ True] ⟨⟨hc1, ⟨.inl rfl, fun _ _ => tagcFound false _⟩, trivial⟩, trivial⟩ ?_
    refine xe_then ?_
    refine xR [] [4] [8631] [.arr 8631] [some (tAFound data'_1)] [] trivial ?_
    refine x_ret ?_
    refine xe_end data'_1 (show (data'_1.Perm (rdA l lx)) ∧ (data'_1.Pairwise fun x_ y_ => ¬ cmpF y_ x_ < 0) ∧ (True) from ⟨(by (rw [hli, hie] at hpm; exact hpm)), (by exact hsr), trivial⟩) (trivial) (.arr 8631) (by kernel_rfl) (.inr ⟨(fun _ => rfl), rfl, rfl, fun i _ => .inl rfl⟩) (fun _ => rfl) (fun _ => (tagFound true _))
  obtain ⟨v, ⟨hh0, hh1, _⟩, hc⟩ := hh
  exact ⟨v, hh0, hh1, hc⟩



-- impl.BeamLoss
theorem BeamLoss_ok (l : Lattice) (lx : Lexicon) (width : Int) (hl : okLat l) (hx : okLex lx) (hw : 1 ≤ width ∧ width ≤ 30) : ∃ (v : Int) (c : Int), (blOK l lx width.toNat v c) ∧ Con Tryz.prog 8 [agLattice l, .agg [slEntry false lx.Entries], I width] true (.tup [I v, I c]) := by
  have hh : ∃ r : Int × Int, ((blOK l lx width.toNat r.1 r.2) ∧ (True)) ∧ CallOK Tryz.prog 8 [agLattice l, .agg [slEntry false lx.Entries], I width] (lookO []) true (.tup [I r.1, I r.2]) (lookO []) := by
    refine fn_okX (Φ := fun r : Int × Int => (blOK l lx width.toNat r.1 r.2) ∧ (True)) [] (fun r => []) (fn := Tryz.f8) (nt := 37) Tryz.func8 rfl rfl (args := [agLattice l, .agg [slEntry false lx.Entries], I width]) rfl (allcons (.inl ⟨rfl, by simp [tagged, taggedL, tagEdge]⟩) (allcons (.inl ⟨rfl, by simp [tagged, taggedL, tagEntry]⟩) (allcons (.inl ⟨rfl, trivial⟩) allnil))) (res := fun r => .tup [I r.1, I r.2]) ?_
    refine xR [(0, .new 3), (1, .new 4)] [2, 3, 4] [3, 4] [I width, .ref 3 0, .ref 4 0] [some (bxLattice l), some (.box [slEntry false lx.Entries])] [] trivial ?_
    refine x_seq ?_
    obtain ⟨v_1, c_1, hx1_0, hc1⟩ := BeamWord_ok l lx width hl hx hw
    have hbw := hx1_0
    refine x_r [(3, .call [(true, .any), (true, .any), (true, .any)] true (.tup [agFound v_1, I c_1])), (7, .new 8)] [3, 4, 8, 9] [3, 4, 8] [.ref 3 0, .ref 4 0, .ref 8 0, I c_1] [some (bxLattice l), some (.box [slEntry false lx.Entries]), some (bxFound v_1)] [Con Tryz.prog 7 [agLattice l, .agg [slEntry false lx.Entries], I width] true (.tup [agFound v_1, I c_1]) ∧ True] ⟨⟨hc1, trivial⟩, trivial⟩ ?_
    refine xe_then ?_
    refine x_seq ?_
    refine x_seq ?_
    by_cases h1 : c_1 = 0
    ·have hbq : 0 < (beamF l lx width.toNat).length ∧ v_1 = bmW l lx width.toNat := by rcases hbw with q | q; (exact q.2); omega
     have hbp := hbq.1
     have hfb := (bmW_ok hl hx (w := width.toNat) (by omega) hbp).1.2.2.2
     rw [← hbq.2] at hfb
     refine x_r [(1, .dec false)] [3, 4, 8, 9, 19] [3, 4, 8] [.ref 3 0, .ref 4 0, .ref 8 0, I c_1, Bv false] [some (bxLattice l), some (.box [slEntry false lx.Entries]), some (bxFound v_1)] [¬ (c_1 ≠ 0)] ⟨(fun hq => hq h1), trivial⟩ ?_
     refine xe_then ?_
     refine x_false rfl ?_
     refine x_skip ?_
     refine xe_then ?_
     refine x_seq ?_
     obtain ⟨v_2, hx2_0, hx2_1, hc2⟩ := readable_ok l lx hl hx
     have hof := bl_of hl hx (w := width.toNat) (by omega) hbp hx2_0 hx2_1
     have ho1 := hof.1
     have ho2 := hof.2.1.2.2.2
     have ho3 := hof.2.2
     refine x_r [(2, .call [(true, .any), (true, .any)] true (slFound true v_2)), (5, .new 10)] [8, 10] [8, 10] [.ref 8 0, .ref 10 0] [some (bxFound v_1), some (bxFound (at_ v_2 0))] [Con Tryz.prog 21 [agLattice l, .agg [slEntry false lx.Entries]] true (slFound true v_2) ∧ True, (0 : Int) ≤ 0 ∧ 0 < (v_2.length : Int)] ⟨⟨hc2, trivial⟩, ⟨(by omega), (by omega)⟩, trivial⟩ ?_
     refine xe_then ?_
     refine xR [] [6, 7] [] [I (((v_1.Path + v_1.Own) - ((at_ v_2 0).Path)) - ((at_ v_2 0).Own)), I 0] [] [inR .i64 (v_1.Path + v_1.Own), inR .i64 ((v_1.Path + v_1.Own) - ((at_ v_2 0).Path)), inR .i64 (((v_1.Path + v_1.Own) - ((at_ v_2 0).Path)) - ((at_ v_2 0).Own))] ⟨(inR_i64 (by omega) (by omega)), (inR_i64 (by omega) (by omega)), (inR_i64 (by omega) (by omega)), trivial⟩ ?_
     refine x_ret ?_
     refine xe_end ((((v_1.Path + v_1.Own) - ((at_ v_2 0).Path)) - ((at_ v_2 0).Own)), 0) (show (blOK l lx width.toNat (((v_1.Path + v_1.Own) - ((at_ v_2 0).Path)) - ((at_ v_2 0).Own)) 0) ∧ (True) from ⟨(by first | exact .inr ⟨hbz.1, hbz.2, rfl⟩ | (rw [hbq.2]; exact ho3)), trivial⟩) (trivial) (.tup [I (((v_1.Path + v_1.Own) - ((at_ v_2 0).Path)) - ((at_ v_2 0).Own)), I 0]) (by kernel_rfl) (.inl rfl) (fun _ => rfl) (fun _ => (by simp [tagged, taggedL]))
    have hbz : c_1 = 3 ∧ (beamF l lx width.toNat).length = 0 := by rcases hbw with q | q; omega; exact q
    refine x_r [(1, .dec true)] [3, 4, 8, 9, 19] [3, 4, 8] [.ref 3 0, .ref 4 0, .ref 8 0, I c_1, Bv true] [some (bxLattice l), some (.box [slEntry false lx.Entries]), some (bxFound v_1)] [c_1 ≠ 0] ⟨h1, trivial⟩ ?_
    refine xe_then ?_
    refine x_true rfl ?_
    refine xR [] [6, 7] [] [I 0, I c_1] [] [] trivial ?_
    refine x_ret ?_
    refine xe_ret_then ?_
    refine xe_end (0, c_1) (show (blOK l lx width.toNat 0 c_1) ∧ (True) from ⟨(by first | exact .inr ⟨hbz.1, hbz.2, rfl⟩ | (rw [hbq.2]; exact ho3)), trivial⟩) (trivial) (.tup [I 0, I c_1]) (by kernel_rfl) (.inl rfl) (fun _ => rfl) (fun _ => (by simp [tagged, taggedL]))
  obtain ⟨⟨v, c⟩, ⟨hh0, _⟩, hc⟩ := hh
  exact ⟨v, c, hh0, hc⟩



-- spec.IsWord
theorem specIsWord_ok (s : ByteArray) (hs : okWord s = true) : Con Tryz.prog 47 [Sv s] true (Bv true) := by
  have hw := okWord_iff.1 hs
  have hz := hw.1
  refine fn_ok (fn := Tryz.f47) (nt := 18) Tryz.func47 rfl rfl rfl rfl (by simp [taggedL, tagged]) fun B hB => ?_
  refine aR [] [0] [] [Sv s] [] [] hB trivial ?_
  refine aw_seq ?_
  refine aR [] [0, 3] [] [Sv s, I 0] [] [] hB trivial ?_
  refine aw_block ?_
  refine aw_loop (fun gn gσ => ∃ (i : Int), gn = ((s.size : Int) - i).toNat ∧ (0 ≤ i ∧ i ≤ (s.size : Int)) ∧ gσ = mkS [(0, Sv s), (3, I i)] []) (((s.size : Int) - 0).toNat) ⟨0, rfl, (by omega), rfl⟩ (fun gn gσ hI => ?_)
  obtain ⟨i, rfl, hi0, rfl⟩ := hI
  refine aw_seq ?_
  refine aw_seq ?_
  by_cases h1 : i < (s.size : Int)
  ·have hi : i.toNat < s.size := by omega
   have hlt := hw.2 _ hi
   refine aw_r [(3, .dec true)] [0, 3, 7] [] [Sv s, I i, Bv true] [] [i < (s.size : Int)] hB ⟨h1, trivial⟩ ?_
   refine ae_then ?_
   refine aw_true rfl ?_
   refine aw_skip ?_
   refine ae_then ?_
   refine aw_seq ?_
   refine aw_block ?_
   refine aR [(3, .call [(true, .any)] true (Bv true))] [0, 3, 14] [] [Sv s, I i, Bv false] [] [(0 : Int) ≤ i ∧ i < (s.size : Int), Con Tryz.prog 68 [.val (.int .u8 (bAt s i.toNat))] true (Bv true) ∧ True] hB ⟨⟨(by omega), (by omega)⟩, ⟨(con_bool hlt (l01Small_ok (bAt s i.toNat))), trivial⟩, trivial⟩ ?_
   refine aw_false rfl ?_
   refine aw_skip ?_
   refine ae_block 1 ?_
   refine ae_then ?_
   refine aw_r [] [0, 3] [] [Sv s, I (i + 1)] [] [inR .i64 (i + 1)] hB ⟨(inR_i64 (by omega) (by omega)), trivial⟩ ?_
   exact ae_again _ (by omega) ⟨(i + 1), rfl, (by omega), rfl⟩
  refine aw_r [(3, .dec false)] [0, 3, 7] [] [Sv s, I i, Bv false] [] [¬ (i < (s.size : Int))] hB ⟨h1, trivial⟩ ?_
  refine ae_then ?_
  refine aw_false rfl ?_
  refine aw_exit ?_
  refine ae_exit_then ?_
  refine ae_exit_then ?_
  refine ae_exit_same ?_
  refine ae_then ?_
  refine aR [(2, .call [(true, .any), (true, .any), (true, .any)] true (Bv (inB (s.size : Int) 1 10)))] [2] [] [Bv (inB (s.size : Int) 1 10)] [] [Con Tryz.prog 43 [I (s.size : Int), I 1, I 10] true (Bv (inB (s.size : Int) 1 10)) ∧ True] hB ⟨⟨(l00In_ok (s.size : Int) 1 10), trivial⟩, trivial⟩ ?_
  refine aw_ret ?_
  refine ae_ret hB (Bv (inB (s.size : Int) 1 10)) (by kernel_rfl) (.inl (by first | rfl | (refine congrArg Bv ?_; exact inB_iff.2 (by omega)) | (refine congrArg Bv ?_; simp [inB]; omega))) rfl (fun _ => trivial)



-- spec.l16Ok
theorem l16Ok_ok (lx : Lexicon) (hx : okLex lx) : Con Tryz.prog 23 [.ptr false [slEntry false lx.Entries]] true (Bv true) := by
  have hc := hx.1
  refine fn_ok (fn := Tryz.f23) (nt := 60) Tryz.func23 rfl rfl rfl rfl (by simp [taggedL, tagged, tagEntry]) fun B hB => ?_
  refine aw_lens (x := .ptr false [slEntry false lx.Entries]) 0 rfl (fun len_lx => ?_)
  simp [LenOK, LenL, cEntry, fEntry, slEntry] at len_lx
  refine aR [] [0] [] [.ptr false [slEntry false lx.Entries]] [] [] hB trivial ?_
  refine aw_seq ?_
  refine aR [] [0, 3] [] [.ptr false [slEntry false lx.Entries], I 0] [] [] hB trivial ?_
  refine aw_block ?_
  refine aw_loop (fun gn gσ => ∃ (i : Int), gn = ((lx.Entries.length : Int) - i).toNat ∧ (0 ≤ i ∧ i ≤ (lx.Entries.length : Int)) ∧ gσ = mkS [(0, .ptr false [slEntry false lx.Entries]), (3, I i)] []) (((lx.Entries.length : Int) - 0).toNat) ⟨0, rfl, (by omega), rfl⟩ (fun gn gσ hI => ?_)
  obtain ⟨i, rfl, hi0, rfl⟩ := hI
  refine aw_seq ?_
  refine aw_seq ?_
  by_cases h1 : i < (lx.Entries.length : Int)
  ·have hi : i.toNat < lx.Entries.length := by omega
   have hen := hx.2.1 _ (at_mem hi)
   have hed := hen
   refine aw_r [(6, .dec true)] [0, 3, 11] [] [.ptr false [slEntry false lx.Entries], I i, Bv true] [] [i < (lx.Entries.length : Int)] hB ⟨h1, trivial⟩ ?_
   refine ae_then ?_
   refine aw_true rfl ?_
   refine aw_skip ?_
   refine ae_then ?_
   refine aw_seq ?_
   refine aw_block ?_
   refine aR [] [0, 3, 4] [] [.ptr false [slEntry false lx.Entries], I i, .ptr false [Sv ((at_ lx.Entries i.toNat).Word), I ((at_ lx.Entries i.toNat).Cost)]] [] [(0 : Int) ≤ i ∧ i < (lx.Entries.length : Int)] hB ⟨⟨(by omega), (by omega)⟩, trivial⟩ ?_
   refine aw_seq ?_
   by_cases h2 : 0 < i
   ·have hpr := pw_get hx.2.2 (show (i - 1).toNat < i.toNat by omega) hi
    have hpa := (cmpN_w.anti _ _).1 hpr
    refine aw_r [(4, .call [(true, .any)] true (Bv true)), (11, .call [(true, .any), (true, .any), (true, .any)] true (Bv true)), (16, .dec true), (31, .dec false)] [0, 3, 53] [] [.ptr false [slEntry false lx.Entries], I i, Bv false] [] [Con Tryz.prog 47 [Sv ((at_ lx.Entries i.toNat).Word)] true (Bv true) ∧ True, Con Tryz.prog 43 [I ((at_ lx.Entries i.toNat).Cost), I 0, I 1000000] true (Bv true) ∧ True, 0 < i, inR .i64 (i - 1), (0 : Int) ≤ (i - 1) ∧ (i - 1) < (lx.Entries.length : Int), ¬ (sless ((at_ lx.Entries i.toNat).Word) ((at_ lx.Entries ((i - 1).toNat)).Word) = true ∨ ((at_ lx.Entries i.toNat).Word) = ((at_ lx.Entries ((i - 1).toNat)).Word))] hB ⟨⟨(specIsWord_ok ((at_ lx.Entries i.toNat).Word) hen.1), trivial⟩, ⟨(con_bool (inB_iff.2 hen.2) (l00In_ok ((at_ lx.Entries i.toNat).Cost) 0 1000000)), trivial⟩, h2, (inR_i64 (by omega) (by omega)), ⟨(by omega), (by omega)⟩, (by have q := cmpS_neg.1 (show cmpS _ _ < 0 from hpr); exact fun z => z.elim (fun a => by rw [sl_asym q] at a; cases a) (fun a => sl_ne q a.symm)), trivial⟩ ?_
    refine ae_then ?_
    refine aw_false rfl ?_
    refine aw_skip ?_
    refine ae_block 1 ?_
    refine ae_then ?_
    refine aw_r [] [0, 3] [] [.ptr false [slEntry false lx.Entries], I (i + 1)] [] [inR .i64 (i + 1)] hB ⟨(inR_i64 (by omega) (by omega)), trivial⟩ ?_
    exact ae_again _ (by omega) ⟨(i + 1), rfl, (by omega), rfl⟩
   refine aw_r [(4, .call [(true, .any)] true (Bv true)), (11, .call [(true, .any), (true, .any), (true, .any)] true (Bv true)), (16, .dec false)] [0, 3, 53] [] [.ptr false [slEntry false lx.Entries], I i, Bv false] [] [Con Tryz.prog 47 [Sv ((at_ lx.Entries i.toNat).Word)] true (Bv true) ∧ True, Con Tryz.prog 43 [I ((at_ lx.Entries i.toNat).Cost), I 0, I 1000000] true (Bv true) ∧ True, ¬ (0 < i)] hB ⟨⟨(specIsWord_ok ((at_ lx.Entries i.toNat).Word) hen.1), trivial⟩, ⟨(con_bool (inB_iff.2 hen.2) (l00In_ok ((at_ lx.Entries i.toNat).Cost) 0 1000000)), trivial⟩, h2, trivial⟩ ?_
   refine ae_then ?_
   refine aw_false rfl ?_
   refine aw_skip ?_
   refine ae_block 1 ?_
   refine ae_then ?_
   refine aw_r [] [0, 3] [] [.ptr false [slEntry false lx.Entries], I (i + 1)] [] [inR .i64 (i + 1)] hB ⟨(inR_i64 (by omega) (by omega)), trivial⟩ ?_
   exact ae_again _ (by omega) ⟨(i + 1), rfl, (by omega), rfl⟩
  refine aw_r [(6, .dec false)] [0, 3, 11] [] [.ptr false [slEntry false lx.Entries], I i, Bv false] [] [¬ (i < (lx.Entries.length : Int))] hB ⟨h1, trivial⟩ ?_
  refine ae_then ?_
  refine aw_false rfl ?_
  refine aw_exit ?_
  refine ae_exit_then ?_
  refine ae_exit_then ?_
  refine ae_exit_same ?_
  refine ae_then ?_
  refine aR [(5, .dec true)] [2] [] [Bv true] [] [(lx.Entries.length : Int) ≤ 60] hB ⟨(by omega), trivial⟩ ?_
  refine aw_ret ?_
  refine ae_ret hB (Bv true) (by kernel_rfl) (.inl rfl) rfl (fun _ => trivial)



-- spec.l15TextCost
theorem l15TextCost_ok (l : Lattice) (w : ByteArray) (hl : okLat l) (hw : w.size ≤ 20) : ∃ (v : Int), ((v = -1 ∧ ¬ tcF l w < 1099511627776) ∨ (0 ≤ v ∧ v = tcF l w ∧ tcF l w < 1099511627776)) ∧ Con Tryz.prog 25 [.ptr false [I l.Nodes, slEdge false l.Edges], Sv w] true (I v) := by
  have hn20 := hl.1
  have hc := hl.2.1
  have hNn : 0 ≤ l.Nodes * ((w.size : Int) + 1) ∧ l.Nodes * ((w.size : Int) + 1) ≤ 20 * 21 := ⟨Int.mul_nonneg (by omega) (by omega), Int.mul_le_mul (by omega) (by omega) (by omega) (by omega)⟩
  have hNn1 : 1 ≤ l.Nodes * ((w.size : Int) + 1) := by have q_ := Int.mul_le_mul (show (1 : Int) ≤ l.Nodes by omega) (show (1 : Int) ≤ ((w.size : Int) + 1) by omega) (by omega) (by omega); omega
  have hh : ∃ r : Int, (((r = -1 ∧ ¬ tcF l w < 1099511627776) ∨ (0 ≤ r ∧ r = tcF l w ∧ tcF l w < 1099511627776)) ∧ (True)) ∧ CallOK Tryz.prog 25 [.ptr false [I l.Nodes, slEdge false l.Edges], Sv w] (lookO []) true (I r) (lookO []) := by
    refine fn_okX (Φ := fun r : Int => ((r = -1 ∧ ¬ tcF l w < 1099511627776) ∨ (0 ≤ r ∧ r = tcF l w ∧ tcF l w < 1099511627776)) ∧ (True)) [] (fun r => []) (fn := Tryz.f25) (nt := 145) Tryz.func25 rfl rfl (args := [.ptr false [I l.Nodes, slEdge false l.Edges], Sv w]) rfl (allcons (.inl ⟨rfl, by simp [tagged, taggedL, tagEdge]⟩) (allcons (.inl ⟨rfl, trivial⟩) allnil)) (res := fun r => I r) ?_
    refine xR [] [0, 1] [] [.ptr false [I l.Nodes, slEdge false l.Edges], Sv w] [] [] trivial ?_
    refine xR [] [0, 1, 5] [] [.ptr false [I l.Nodes, slEdge false l.Edges], Sv w, I ((w.size : Int) + 1)] [] [inR .i64 ((w.size : Int) + 1)] ⟨(inR_i64 (by first | omega | (simp only [List.length_replicate, List.length_set]; omega)) (by first | omega | (simp only [List.length_replicate, List.length_set]; omega))), trivial⟩ ?_
    refine xR [(6, .new 23)] [0, 1, 5, 6] [23] [.ptr false [I l.Nodes, slEdge false l.Edges], Sv w, I ((w.size : Int) + 1), .arr 23] [some (.arr 1 ((l.Nodes * ((w.size : Int) + 1)).toNat) (fun _ => [I 0]))] [inR .i64 (l.Nodes * ((w.size : Int) + 1)), (0 : Int) ≤ (l.Nodes * ((w.size : Int) + 1)) ∧ ((l.Nodes * ((w.size : Int) + 1)) : Int) ≤ (l.Nodes * ((w.size : Int) + 1)) ∧ (8 : Int) * (l.Nodes * ((w.size : Int) + 1)) ≤ 281474976710656 ∧ (l.Nodes * ((w.size : Int) + 1)) ≤ 9223372036854775807] ⟨(inR_i64 (by first | omega | (simp only [List.length_replicate, List.length_set]; omega)) (by first | omega | (simp only [List.length_replicate, List.length_set]; omega))), ⟨(by first | omega | (simp only [List.length_replicate, List.length_set]; omega)), (by first | omega | (simp only [List.length_replicate, List.length_set]; omega)), (by first | omega | (simp only [List.length_replicate, List.length_set]; omega)), (by first | omega | (simp only [List.length_replicate, List.length_set]; omega))⟩, trivial⟩ ?_
    refine x_seq ?_
    refine xR [] [0, 1, 5, 6, 25, 26] [23] [.ptr false [I l.Nodes, slEdge false l.Edges], Sv w, I ((w.size : Int) + 1), .arr 23, I (((l.Nodes * ((w.size : Int) + 1)).toNat) : Int), I 0] [some (.arr 1 ((l.Nodes * ((w.size : Int) + 1)).toNat) (fun _ => [I 0]))] [] trivial ?_
    refine x_block ?_
    refine x_weak [] (T := [(0, .ptr false [I l.Nodes, slEdge false l.Edges]), (1, Sv w), (5, I ((w.size : Int) + 1)), (6, .arr 23), (25, I (((l.Nodes * ((w.size : Int) + 1)).toNat) : Int)), (26, I 0)]) (O := [(23, tAI (List.replicate ((l.Nodes * ((w.size : Int) + 1)).toNat) (0 : Int)))]) rfl (⟨.inl rfl, .inl rfl, .inl rfl, .inl rfl, .inl rfl, .inl rfl, trivial⟩) (⟨.inr ⟨rfl, (by first | rfl | (simp; done) | (simp; omega) | omega), fun i_ hi_ => .inl (const_enc (enc := cI) rfl i_ hi_)⟩, trivial⟩) ?_
    refine x_loop (X := Int × (List Int)) (fun x => mkS [(0, .ptr false [I l.Nodes, slEdge false l.Edges]), (1, Sv w), (5, I ((w.size : Int) + 1)), (6, .arr 23), (25, I (((l.Nodes * ((w.size : Int) + 1)).toNat) : Int)), (26, I x.1)] [(23, tAI x.2)]) (fun x => (0 ≤ x.1 ∧ x.1 ≤ (x.2.length : Int)) ∧ (∀ j : Nat, (j : Int) < x.1 → at_ x.2 j = -1) ∧ ((x.2.length : Int) = l.Nodes * ((w.size : Int) + 1)) ∧ True) (fun x => (l.Nodes * ((w.size : Int) + 1) - x.1).toNat) (0, (List.replicate ((l.Nodes * ((w.size : Int) + 1)).toNat) (0 : Int))) rfl (show (0 ≤ (0 : Int) ∧ (0 : Int) ≤ ((List.replicate ((l.Nodes * ((w.size : Int) + 1)).toNat) (0 : Int)).length : Int)) ∧ (∀ j : Nat, (j : Int) < (0 : Int) → at_ (List.replicate ((l.Nodes * ((w.size : Int) + 1)).toNat) (0 : Int)) j = -1) ∧ (((List.replicate ((l.Nodes * ((w.size : Int) + 1)).toNat) (0 : Int)).length : Int) = l.Nodes * ((w.size : Int) + 1)) ∧ True from ⟨(by omega), (by intro j hj; omega), (by (simp; omega)), trivial⟩) (fun x hI => ?_)
    obtain ⟨t26, cs⟩ := x
    obtain ⟨hi0, hcs, hcl, _⟩ : (0 ≤ t26 ∧ t26 ≤ (cs.length : Int)) ∧ (∀ j : Nat, (j : Int) < t26 → at_ cs j = -1) ∧ ((cs.length : Int) = l.Nodes * ((w.size : Int) + 1)) ∧ True := hI
    show XW _ _ _ _ (mkS [(0, .ptr false [I l.Nodes, slEdge false l.Edges]), (1, Sv w), (5, I ((w.size : Int) + 1)), (6, .arr 23), (25, I (((l.Nodes * ((w.size : Int) + 1)).toNat) : Int)), (26, I t26)] [(23, tAI cs)]) _ _
    refine x_seq ?_
    by_cases h1 : t26 < (((l.Nodes * ((w.size : Int) + 1)).toNat) : Int)
    ·refine x_r [(0, .dec true)] [0, 1, 5, 6, 25, 26, 27] [23] [.ptr false [I l.Nodes, slEdge false l.Edges], Sv w, I ((w.size : Int) + 1), .arr 23, I (((l.Nodes * ((w.size : Int) + 1)).toNat) : Int), I t26, Bv true] [some (tAI cs)] [t26 < (((l.Nodes * ((w.size : Int) + 1)).toNat) : Int)] ⟨h1, trivial⟩ ?_
     refine xe_then ?_
     refine x_seq ?_
     refine x_true rfl ?_
     refine x_skip ?_
     refine xe_then ?_
     refine x_seq ?_
     refine x_block ?_
     refine xR [] [0, 1, 5, 6, 7, 25, 26] [23] [.ptr false [I l.Nodes, slEdge false l.Edges], Sv w, I ((w.size : Int) + 1), .arr 23, I t26, I (((l.Nodes * ((w.size : Int) + 1)).toNat) : Int), I t26] [some (tAI cs)] [] trivial ?_
     refine x_r [] [0, 1, 5, 6, 25, 26] [23] [.ptr false [I l.Nodes, slEdge false l.Edges], Sv w, I ((w.size : Int) + 1), .arr 23, I (((l.Nodes * ((w.size : Int) + 1)).toNat) : Int), I t26] [some (.arr 1 cs.length (fun q => bif Nat.beq q t26.toNat then [I (-1)] else (fI cs) q))] [(0 : Int) ≤ t26 ∧ t26 < (cs.length : Int), t26.toNat < cs.length] ⟨⟨(by first | omega | (simp only [List.length_replicate, List.length_set]; omega)), (by first | omega | (simp only [List.length_replicate, List.length_set]; omega))⟩, (by first | omega | (simp only [List.length_replicate, List.length_set]; omega)), trivial⟩ ?_
     refine xe_block 1 ?_
     refine xe_then ?_
     refine x_r [] [0, 1, 5, 6, 25, 26] [23] [.ptr false [I l.Nodes, slEdge false l.Edges], Sv w, I ((w.size : Int) + 1), .arr 23, I (((l.Nodes * ((w.size : Int) + 1)).toNat) : Int), I (t26 + 1)] [some (.arr 1 cs.length (fun q => bif Nat.beq q t26.toNat then [I (-1)] else (fI cs) q))] [inR .i64 (t26 + 1)] ⟨(inR_i64 (by first | omega | (simp only [List.length_replicate, List.length_set]; omega)) (by first | omega | (simp only [List.length_replicate, List.length_set]; omega))), trivial⟩ ?_
     refine xe_weak [] (T := [(0, .ptr false [I l.Nodes, slEdge false l.Edges]), (1, Sv w), (5, I ((w.size : Int) + 1)), (6, .arr 23), (25, I (((l.Nodes * ((w.size : Int) + 1)).toNat) : Int)), (26, I (t26 + 1))]) (O := [(23, tAI (cs.set t26.toNat (-1)))]) rfl (⟨.inl rfl, .inl rfl, .inl rfl, .inl rfl, .inl rfl, .inl rfl, trivial⟩) (⟨.inr ⟨rfl, (by first | rfl | (simp; done) | (simp; omega) | omega), fun i_ hi_ => .inl (upd_enc (enc := cI) rfl i_ hi_)⟩, trivial⟩) (xe_again ((t26 + 1), (cs.set t26.toNat (-1))) rfl (show (0 ≤ (t26 + 1) ∧ (t26 + 1) ≤ ((cs.set t26.toNat (-1)).length : Int)) ∧ (∀ j : Nat, (j : Int) < (t26 + 1) → at_ (cs.set t26.toNat (-1)) j = -1) ∧ (((cs.set t26.toNat (-1)).length : Int) = l.Nodes * ((w.size : Int) + 1)) ∧ True from ⟨(by (simp; omega)), (by intro j hj; by_cases ej : j = t26.toNat; (subst ej; rw [at_set_same (by omega)]); (rw [at_set_oth ej]; exact hcs j (by omega))), (by (rw [List.length_set]; exact hcl)), trivial⟩) (by first | (show ((l.Nodes * ((w.size : Int) + 1) - (t26 + 1)).toNat : Nat) < (l.Nodes * ((w.size : Int) + 1) - t26).toNat; omega) | (dsimp only; omega)))
    have hcf : ∀ j : Nat, j < cs.length → at_ cs j = -1 := fun j hj => hcs j (by omega)
    refine x_r [(0, .dec false)] [0, 1, 5, 6, 25, 26, 27] [23] [.ptr false [I l.Nodes, slEdge false l.Edges], Sv w, I ((w.size : Int) + 1), .arr 23, I (((l.Nodes * ((w.size : Int) + 1)).toNat) : Int), I t26, Bv false] [some (tAI cs)] [¬ (t26 < (((l.Nodes * ((w.size : Int) + 1)).toNat) : Int))] ⟨h1, trivial⟩ ?_
    refine xe_then ?_
    refine x_seq ?_
    refine x_false rfl ?_
    refine x_exit ?_
    refine xe_exit_then ?_
    refine xe_loop_exit ?_
    refine xe_exit_same ?_
    refine xe_then ?_
    refine xR [] [0, 1, 5, 6] [23] [.ptr false [I l.Nodes, slEdge false l.Edges], Sv w, I ((w.size : Int) + 1), .arr 23] [some (.arr 1 cs.length (fun q => bif Nat.beq q 0 then [I 0] else (fI cs) q))] [(0 : Int) ≤ 0 ∧ 0 < (cs.length : Int), 0 < cs.length] ⟨⟨(by first | omega | (simp only [List.length_replicate, List.length_set]; omega)), (by first | omega | (simp only [List.length_replicate, List.length_set]; omega))⟩, (by first | omega | (simp only [List.length_replicate, List.length_set]; omega)), trivial⟩ ?_
    refine x_seq ?_
    refine x_seq ?_
    refine x_weak [] (T := [(0, .ptr false [I l.Nodes, slEdge false l.Edges]), (1, Sv w), (5, I ((w.size : Int) + 1)), (6, .arr 23)]) (O := [(23, tAI (cs.set 0 0))]) rfl (⟨.inl rfl, .inl rfl, .inl rfl, .inl rfl, trivial⟩) (⟨.inr ⟨rfl, (by first | rfl | (simp; done) | (simp; omega) | omega), fun i_ hi_ => .inl (upd_enc (enc := cI) rfl i_ hi_)⟩, trivial⟩) ?_
    refine x_r [] [0, 1, 5, 6, 8] [23] [.ptr false [I l.Nodes, slEdge false l.Edges], Sv w, I ((w.size : Int) + 1), .arr 23, I 0] [some (tAI (cs.set 0 0))] [] trivial ?_
    refine xe_then ?_
    refine x_block ?_
    refine x_loop (X := Int × (List Int)) (fun x => mkS [(0, .ptr false [I l.Nodes, slEdge false l.Edges]), (1, Sv w), (5, I ((w.size : Int) + 1)), (6, .arr 23), (8, I x.1)] [(23, tAI x.2)]) (fun x => (0 ≤ x.1 ∧ x.1 ≤ l.Nodes) ∧ (scI l w x.1 0 0 x.2) ∧ True) (fun x => (l.Nodes - x.1).toNat) (0, (cs.set 0 0)) rfl (show (0 ≤ (0 : Int) ∧ (0 : Int) ≤ l.Nodes) ∧ (scI l w (0 : Int) 0 0 (cs.set 0 0)) ∧ True from ⟨(by omega), (by exact sc_start hl hcl hcf), trivial⟩) (fun x hI => ?_)
    obtain ⟨node, c2⟩ := x
    obtain ⟨hn0, hsc, _⟩ : (0 ≤ node ∧ node ≤ l.Nodes) ∧ (scI l w node 0 0 c2) ∧ True := hI
    show XW _ _ _ _ (mkS [(0, .ptr false [I l.Nodes, slEdge false l.Edges]), (1, Sv w), (5, I ((w.size : Int) + 1)), (6, .arr 23), (8, I node)] [(23, tAI c2)]) _ _
    refine x_seq ?_
    refine x_seq ?_
    by_cases h2 : node < l.Nodes
    ·have hcl2 := hsc.1
     refine x_r [(5, .dec true)] [0, 1, 5, 6, 8, 40] [23] [.ptr false [I l.Nodes, slEdge false l.Edges], Sv w, I ((w.size : Int) + 1), .arr 23, I node, Bv true] [some (tAI c2)] [node < l.Nodes] ⟨h2, trivial⟩ ?_
     refine xe_then ?_
     refine x_true rfl ?_
     refine x_skip ?_
     refine xe_then ?_
     refine x_seq ?_
     refine x_block ?_
     refine xR [] [0, 1, 5, 6, 8, 9] [23] [.ptr false [I l.Nodes, slEdge false l.Edges], Sv w, I ((w.size : Int) + 1), .arr 23, I node, I 0] [some (tAI c2)] [] trivial ?_
     refine x_block ?_
     refine x_loop (X := Int × (List Int)) (fun x => mkS [(0, .ptr false [I l.Nodes, slEdge false l.Edges]), (1, Sv w), (5, I ((w.size : Int) + 1)), (6, .arr 23), (8, I node), (9, I x.1)] [(23, tAI x.2)]) (fun x => (0 ≤ x.1 ∧ x.1 ≤ (l.Edges.length : Int)) ∧ (scI l w node x.1 0 x.2) ∧ True) (fun x => ((l.Edges.length : Int) - x.1).toNat) (0, c2) rfl (show (0 ≤ (0 : Int) ∧ (0 : Int) ≤ (l.Edges.length : Int)) ∧ (scI l w node (0 : Int) 0 c2) ∧ True from ⟨(by omega), (by exact hsc), trivial⟩) (fun x hI => ?_)
     obtain ⟨i, c3⟩ := x
     obtain ⟨hi1, hsc3, _⟩ : (0 ≤ i ∧ i ≤ (l.Edges.length : Int)) ∧ (scI l w node i 0 c3) ∧ True := hI
     show XW _ _ _ _ (mkS [(0, .ptr false [I l.Nodes, slEdge false l.Edges]), (1, Sv w), (5, I ((w.size : Int) + 1)), (6, .arr 23), (8, I node), (9, I i)] [(23, tAI c3)]) _ _
     have hcl3 := hsc3.1
     refine x_seq ?_
     refine x_seq ?_
     by_cases h3 : i < (l.Edges.length : Int)
     ·have hi : i.toNat < l.Edges.length := by omega
      have hed := hl.2.2.1 _ hi
      have he1 := hed.1
      have he2 := hed.2.1
      have he3 := lab_size hed.2.2
      refine x_r [(6, .dec true)] [0, 1, 5, 6, 8, 9, 49] [23] [.ptr false [I l.Nodes, slEdge false l.Edges], Sv w, I ((w.size : Int) + 1), .arr 23, I node, I i, Bv true] [some (tAI c3)] [i < (l.Edges.length : Int)] ⟨h3, trivial⟩ ?_
      refine xe_then ?_
      refine x_true rfl ?_
      refine x_skip ?_
      refine xe_then ?_
      refine x_seq ?_
      refine x_block ?_
      refine xR [] [0, 1, 5, 6, 8, 9, 10] [23] [.ptr false [I l.Nodes, slEdge false l.Edges], Sv w, I ((w.size : Int) + 1), .arr 23, I node, I i, .ptr false [I ((at_ l.Edges i.toNat).From), I ((at_ l.Edges i.toNat).To), Sv ((at_ l.Edges i.toNat).Label), I ((at_ l.Edges i.toNat).Cost)]] [some (tAI c3)] [(0 : Int) ≤ i ∧ i < (l.Edges.length : Int)] ⟨⟨(by first | omega | (simp only [List.length_replicate, List.length_set]; omega)), (by first | omega | (simp only [List.length_replicate, List.length_set]; omega))⟩, trivial⟩ ?_
      refine xR [] [0, 1, 5, 6, 8, 9, 10, 11] [23] [.ptr false [I l.Nodes, slEdge false l.Edges], Sv w, I ((w.size : Int) + 1), .arr 23, I node, I i, .ptr false [I ((at_ l.Edges i.toNat).From), I ((at_ l.Edges i.toNat).To), Sv ((at_ l.Edges i.toNat).Label), I ((at_ l.Edges i.toNat).Cost)], I 0] [some (tAI c3)] [] trivial ?_
      refine x_block ?_
      refine x_loop (X := Int × (List Int)) (fun x => mkS [(0, .ptr false [I l.Nodes, slEdge false l.Edges]), (1, Sv w), (5, I ((w.size : Int) + 1)), (6, .arr 23), (8, I node), (9, I i), (10, .ptr false [I ((at_ l.Edges i.toNat).From), I ((at_ l.Edges i.toNat).To), Sv ((at_ l.Edges i.toNat).Label), I ((at_ l.Edges i.toNat).Cost)]), (11, I x.1)] [(23, tAI x.2)]) (fun x => (0 ≤ x.1 ∧ x.1 ≤ (w.size : Int)) ∧ (scI l w node i x.1 x.2) ∧ True) (fun x => ((w.size : Int) - x.1).toNat) (0, c3) rfl (show (0 ≤ (0 : Int) ∧ (0 : Int) ≤ (w.size : Int)) ∧ (scI l w node i (0 : Int) c3) ∧ True from ⟨(by omega), (by exact hsc3), trivial⟩) (fun x hI => ?_)
      obtain ⟨k, c4⟩ := x
      obtain ⟨hk0, hsc4, _⟩ : (0 ≤ k ∧ k ≤ (w.size : Int)) ∧ (scI l w node i k c4) ∧ True := hI
      show XW _ _ _ _ (mkS [(0, .ptr false [I l.Nodes, slEdge false l.Edges]), (1, Sv w), (5, I ((w.size : Int) + 1)), (6, .arr 23), (8, I node), (9, I i), (10, .ptr false [I ((at_ l.Edges i.toNat).From), I ((at_ l.Edges i.toNat).To), Sv ((at_ l.Edges i.toNat).Label), I ((at_ l.Edges i.toNat).Cost)]), (11, I k)] [(23, tAI c4)]) _ _
      have hcl4_ := hsc4.1
      refine x_seq ?_
      refine x_seq ?_
      by_cases h4 : (k + 1) < ((w.size : Int) + 1)
      ·have hkw : k < (w.size : Int) := by omega
       by_cases h5 : ((at_ l.Edges i.toNat).From) = node
       ·have hff := h5
        have ix1 := clT_ix (l := l) (w := w) (j := node) (m := k) (by omega) (by omega)
        have ix2 := clT_ix (l := l) (w := w) (j := (at_ l.Edges i.toNat).To) (m := k + 1) (by omega) (by omega)
        have hcl4 := hsc4.1
        have hv1 := hsc4.2.2.1 node k (by omega) (by omega) (by omega) (by omega)
        have hv2 := hsc4.2.2.1 (at_ l.Edges i.toNat).To (k + 1) (by omega) (by omega) (by omega) (by omega)
        have hc1 : clT w c4 node k = at_ c4 (node * ((w.size : Int) + 1) + k).toNat := rfl
        have hc2 : clT w c4 (at_ l.Edges i.toNat).To (k + 1) = at_ c4 ((at_ l.Edges i.toNat).To * ((w.size : Int) + 1) + k + 1).toNat := by unfold clT; rw [Int.add_assoc]
        have hbd1 := sc_bd hl (by omega) hv1
        have hbd2 := sc_bd hl (by omega) hv2
        rw [hc1] at hbd1 hv1
        rw [hc2] at hbd2 hv2
        have hn1 : 0 ≤ node * ((w.size : Int) + 1) := Int.mul_nonneg (by omega) (by omega)
        have hn2 : 0 ≤ (at_ l.Edges i.toNat).To * ((w.size : Int) + 1) := Int.mul_nonneg (by omega) (by omega)
        refine x_r [(3, .dec true), (10, .dec true)] [0, 1, 5, 6, 8, 9, 10, 11, 69] [23] [.ptr false [I l.Nodes, slEdge false l.Edges], Sv w, I ((w.size : Int) + 1), .arr 23, I node, I i, .ptr false [I ((at_ l.Edges i.toNat).From), I ((at_ l.Edges i.toNat).To), Sv ((at_ l.Edges i.toNat).Label), I ((at_ l.Edges i.toNat).Cost)], I k, Bv true] [some (tAI c4)] [inR .i64 (k + 1), (k + 1) < ((w.size : Int) + 1), ((at_ l.Edges i.toNat).From) = node] ⟨(inR_i64 (by first | omega | (simp only [List.length_replicate, List.length_set]; omega)) (by first | omega | (simp only [List.length_replicate, List.length_set]; omega))), h4, h5, trivial⟩ ?_
        refine xe_then ?_
        refine x_true rfl ?_
        refine x_skip ?_
        refine xe_then ?_
        refine x_seq ?_
        refine x_block ?_
        refine xR [] [0, 1, 5, 6, 8, 9, 10, 11, 12] [23] [.ptr false [I l.Nodes, slEdge false l.Edges], Sv w, I ((w.size : Int) + 1), .arr 23, I node, I i, .ptr false [I ((at_ l.Edges i.toNat).From), I ((at_ l.Edges i.toNat).To), Sv ((at_ l.Edges i.toNat).Label), I ((at_ l.Edges i.toNat).Cost)], I k, I (at_ c4 (((node * ((w.size : Int) + 1)) + k).toNat))] [some (tAI c4)] [inR .i64 (node * ((w.size : Int) + 1)), inR .i64 ((node * ((w.size : Int) + 1)) + k), (0 : Int) ≤ ((node * ((w.size : Int) + 1)) + k) ∧ ((node * ((w.size : Int) + 1)) + k) < (c4.length : Int), ((node * ((w.size : Int) + 1)) + k).toNat < c4.length] ⟨(inR_i64 (by first | omega | (simp only [List.length_replicate, List.length_set]; omega)) (by first | omega | (simp only [List.length_replicate, List.length_set]; omega))), (inR_i64 (by first | omega | (simp only [List.length_replicate, List.length_set]; omega)) (by first | omega | (simp only [List.length_replicate, List.length_set]; omega))), ⟨(by first | omega | (simp only [List.length_replicate, List.length_set]; omega)), (by first | omega | (simp only [List.length_replicate, List.length_set]; omega))⟩, (by first | omega | (simp only [List.length_replicate, List.length_set]; omega)), trivial⟩ ?_
        refine x_seq ?_
        refine x_seq ?_
        by_cases h6 : (at_ c4 (((node * ((w.size : Int) + 1)) + k).toNat)) < 0
        ·refine x_r [(1, .dec true)] [0, 1, 5, 6, 8, 9, 10, 11, 12, 93] [23] [.ptr false [I l.Nodes, slEdge false l.Edges], Sv w, I ((w.size : Int) + 1), .arr 23, I node, I i, .ptr false [I ((at_ l.Edges i.toNat).From), I ((at_ l.Edges i.toNat).To), Sv ((at_ l.Edges i.toNat).Label), I ((at_ l.Edges i.toNat).Cost)], I k, I (at_ c4 (((node * ((w.size : Int) + 1)) + k).toNat)), Bv true] [some (tAI c4)] [(at_ c4 (((node * ((w.size : Int) + 1)) + k).toNat)) < 0] ⟨h6, trivial⟩ ?_
         refine xe_then ?_
         refine x_true rfl ?_
         refine x_exit ?_
         refine xe_exit_then ?_
         refine xe_exit_same ?_
         refine xe_then ?_
         refine x_r [] [0, 1, 5, 6, 8, 9, 10, 11] [23] [.ptr false [I l.Nodes, slEdge false l.Edges], Sv w, I ((w.size : Int) + 1), .arr 23, I node, I i, .ptr false [I ((at_ l.Edges i.toNat).From), I ((at_ l.Edges i.toNat).To), Sv ((at_ l.Edges i.toNat).Label), I ((at_ l.Edges i.toNat).Cost)], I (k + 1)] [some (tAI c4)] [inR .i64 (k + 1)] ⟨(inR_i64 (by first | omega | (simp only [List.length_replicate, List.length_set]; omega)) (by first | omega | (simp only [List.length_replicate, List.length_set]; omega))), trivial⟩ ?_
         exact xe_again ((k + 1), c4) rfl (show (0 ≤ (k + 1) ∧ (k + 1) ≤ (w.size : Int)) ∧ (scI l w node i (k + 1) c4) ∧ True from ⟨(by omega), (by (first | exact sc_skip hsc4 (sc_no hff (.inl (by rw [hc1]; omega)) (by omega)) | exact sc_skip hsc4 (sc_no hff (.inr (.inl (by assumption))) (by omega)) | exact sc_skip hsc4 (sc_no hff (.inr (.inr (by rw [hc1, hc2]; omega))) (by omega)) | (have q_ := sc_put hl hsc4 (by omega) hi ⟨by omega, hkw⟩ hff (by rw [hc1]; omega) (by rw [← hlb]; unfold chA; rw [show (k + 1).toNat = k.toNat + 1 from by omega]) (by rw [hc1, hc2]; omega); rw [hc1, ← Int.add_assoc] at q_; exact q_))), trivial⟩) (by first | (show (((w.size : Int) - (k + 1)).toNat : Nat) < ((w.size : Int) - k).toNat; omega) | (dsimp only; omega))
        by_cases h7 : (w.extract k.toNat (k + 1).toNat) = ((at_ l.Edges i.toNat).Label)
        ·have hlb := h7
         refine x_r [(1, .dec false), (12, .dec false)] [0, 1, 5, 6, 8, 9, 10, 11, 12, 93] [23] [.ptr false [I l.Nodes, slEdge false l.Edges], Sv w, I ((w.size : Int) + 1), .arr 23, I node, I i, .ptr false [I ((at_ l.Edges i.toNat).From), I ((at_ l.Edges i.toNat).To), Sv ((at_ l.Edges i.toNat).Label), I ((at_ l.Edges i.toNat).Cost)], I k, I (at_ c4 (((node * ((w.size : Int) + 1)) + k).toNat)), Bv false] [some (tAI c4)] [¬ ((at_ c4 (((node * ((w.size : Int) + 1)) + k).toNat)) < 0), inR .i64 (k + 1), (0 : Int) ≤ k ∧ k ≤ (k + 1) ∧ (k + 1) ≤ (w.size : Int), ¬ ((w.extract k.toNat (k + 1).toNat) ≠ ((at_ l.Edges i.toNat).Label))] ⟨h6, (inR_i64 (by first | omega | (simp only [List.length_replicate, List.length_set]; omega)) (by first | omega | (simp only [List.length_replicate, List.length_set]; omega))), ⟨(by first | omega | (simp only [List.length_replicate, List.length_set]; omega)), (by first | omega | (simp only [List.length_replicate, List.length_set]; omega)), (by first | omega | (simp only [List.length_replicate, List.length_set]; omega))⟩, (fun hq => hq h7), trivial⟩ ?_
         refine xe_then ?_
         refine x_false rfl ?_
         refine x_skip ?_
         refine xe_then ?_
         refine xR [] [0, 1, 5, 6, 8, 9, 10, 11, 12, 13] [23] [.ptr false [I l.Nodes, slEdge false l.Edges], Sv w, I ((w.size : Int) + 1), .arr 23, I node, I i, .ptr false [I ((at_ l.Edges i.toNat).From), I ((at_ l.Edges i.toNat).To), Sv ((at_ l.Edges i.toNat).Label), I ((at_ l.Edges i.toNat).Cost)], I k, I (at_ c4 (((node * ((w.size : Int) + 1)) + k).toNat)), I (at_ c4 ((((((at_ l.Edges i.toNat).To) * ((w.size : Int) + 1)) + k) + 1).toNat))] [some (tAI c4)] [inR .i64 (((at_ l.Edges i.toNat).To) * ((w.size : Int) + 1)), inR .i64 ((((at_ l.Edges i.toNat).To) * ((w.size : Int) + 1)) + k), inR .i64 (((((at_ l.Edges i.toNat).To) * ((w.size : Int) + 1)) + k) + 1), (0 : Int) ≤ (((((at_ l.Edges i.toNat).To) * ((w.size : Int) + 1)) + k) + 1) ∧ (((((at_ l.Edges i.toNat).To) * ((w.size : Int) + 1)) + k) + 1) < (c4.length : Int), (((((at_ l.Edges i.toNat).To) * ((w.size : Int) + 1)) + k) + 1).toNat < c4.length] ⟨(inR_i64 (by first | omega | (simp only [List.length_replicate, List.length_set]; omega)) (by first | omega | (simp only [List.length_replicate, List.length_set]; omega))), (inR_i64 (by first | omega | (simp only [List.length_replicate, List.length_set]; omega)) (by first | omega | (simp only [List.length_replicate, List.length_set]; omega))), (inR_i64 (by first | omega | (simp only [List.length_replicate, List.length_set]; omega)) (by first | omega | (simp only [List.length_replicate, List.length_set]; omega))), ⟨(by first | omega | (simp only [List.length_replicate, List.length_set]; omega)), (by first | omega | (simp only [List.length_replicate, List.length_set]; omega))⟩, (by first | omega | (simp only [List.length_replicate, List.length_set]; omega)), trivial⟩ ?_
         refine x_seq ?_
         by_cases h8 : (at_ c4 ((((((at_ l.Edges i.toNat).To) * ((w.size : Int) + 1)) + k) + 1).toNat)) < 0
         ·refine x_r [(1, .dec true)] [0, 1, 5, 6, 8, 9, 10, 11, 12, 117] [23] [.ptr false [I l.Nodes, slEdge false l.Edges], Sv w, I ((w.size : Int) + 1), .arr 23, I node, I i, .ptr false [I ((at_ l.Edges i.toNat).From), I ((at_ l.Edges i.toNat).To), Sv ((at_ l.Edges i.toNat).Label), I ((at_ l.Edges i.toNat).Cost)], I k, I (at_ c4 (((node * ((w.size : Int) + 1)) + k).toNat)), Bv true] [some (tAI c4)] [(at_ c4 ((((((at_ l.Edges i.toNat).To) * ((w.size : Int) + 1)) + k) + 1).toNat)) < 0] ⟨h8, trivial⟩ ?_
          refine xe_then ?_
          refine x_true rfl ?_
          refine x_r [] [0, 1, 5, 6, 8, 9, 10, 11] [23] [.ptr false [I l.Nodes, slEdge false l.Edges], Sv w, I ((w.size : Int) + 1), .arr 23, I node, I i, .ptr false [I ((at_ l.Edges i.toNat).From), I ((at_ l.Edges i.toNat).To), Sv ((at_ l.Edges i.toNat).Label), I ((at_ l.Edges i.toNat).Cost)], I k] [some (.arr 1 c4.length (fun q => bif Nat.beq q ((((((at_ l.Edges i.toNat).To) * ((w.size : Int) + 1)) + k) + 1).toNat) then [I ((at_ c4 (((node * ((w.size : Int) + 1)) + k).toNat)) + ((at_ l.Edges i.toNat).Cost))] else (fI c4) q))] [inR .i64 (((at_ l.Edges i.toNat).To) * ((w.size : Int) + 1)), inR .i64 ((((at_ l.Edges i.toNat).To) * ((w.size : Int) + 1)) + k), inR .i64 (((((at_ l.Edges i.toNat).To) * ((w.size : Int) + 1)) + k) + 1), inR .i64 ((at_ c4 (((node * ((w.size : Int) + 1)) + k).toNat)) + ((at_ l.Edges i.toNat).Cost)), (0 : Int) ≤ (((((at_ l.Edges i.toNat).To) * ((w.size : Int) + 1)) + k) + 1) ∧ (((((at_ l.Edges i.toNat).To) * ((w.size : Int) + 1)) + k) + 1) < (c4.length : Int), (((((at_ l.Edges i.toNat).To) * ((w.size : Int) + 1)) + k) + 1).toNat < c4.length] ⟨(inR_i64 (by first | omega | (simp only [List.length_replicate, List.length_set]; omega)) (by first | omega | (simp only [List.length_replicate, List.length_set]; omega))), (inR_i64 (by first | omega | (simp only [List.length_replicate, List.length_set]; omega)) (by first | omega | (simp only [List.length_replicate, List.length_set]; omega))), (inR_i64 (by first | omega | (simp only [List.length_replicate, List.length_set]; omega)) (by first | omega | (simp only [List.length_replicate, List.length_set]; omega))), (inR_i64 (by first | omega | (simp only [List.length_replicate, List.length_set]; omega)) (by first | omega | (simp only [List.length_replicate, List.length_set]; omega))), ⟨(by first | omega | (simp only [List.length_replicate, List.length_set]; omega)), (by first | omega | (simp only [List.length_replicate, List.length_set]; omega))⟩, (by first | omega | (simp only [List.length_replicate, List.length_set]; omega)), trivial⟩ ?_
          refine xe_block 7 ?_
          refine xe_then ?_
          refine x_r [] [0, 1, 5, 6, 8, 9, 10, 11] [23] [.ptr false [I l.Nodes, slEdge false l.Edges], Sv w, I ((w.size : Int) + 1), .arr 23, I node, I i, .ptr false [I ((at_ l.Edges i.toNat).From), I ((at_ l.Edges i.toNat).To), Sv ((at_ l.Edges i.toNat).Label), I ((at_ l.Edges i.toNat).Cost)], I (k + 1)] [some (.arr 1 c4.length (fun q => bif Nat.beq q ((((((at_ l.Edges i.toNat).To) * ((w.size : Int) + 1)) + k) + 1).toNat) then [I ((at_ c4 (((node * ((w.size : Int) + 1)) + k).toNat)) + ((at_ l.Edges i.toNat).Cost))] else (fI c4) q))] [inR .i64 (k + 1)] ⟨(inR_i64 (by first | omega | (simp only [List.length_replicate, List.length_set]; omega)) (by first | omega | (simp only [List.length_replicate, List.length_set]; omega))), trivial⟩ ?_
          refine xe_weak [] (T := [(0, .ptr false [I l.Nodes, slEdge false l.Edges]), (1, Sv w), (5, I ((w.size : Int) + 1)), (6, .arr 23), (8, I node), (9, I i), (10, .ptr false [I ((at_ l.Edges i.toNat).From), I ((at_ l.Edges i.toNat).To), Sv ((at_ l.Edges i.toNat).Label), I ((at_ l.Edges i.toNat).Cost)]), (11, I (k + 1))]) (O := [(23, tAI (c4.set ((((((at_ l.Edges i.toNat).To) * ((w.size : Int) + 1)) + k) + 1).toNat) ((at_ c4 (((node * ((w.size : Int) + 1)) + k).toNat)) + ((at_ l.Edges i.toNat).Cost))))]) rfl (⟨.inl rfl, .inl rfl, .inl rfl, .inl rfl, .inl rfl, .inl rfl, .inl rfl, .inl rfl, trivial⟩) (⟨.inr ⟨rfl, (by first | rfl | (simp; done) | (simp; omega) | omega), fun i_ hi_ => .inl (upd_enc (enc := cI) rfl i_ hi_)⟩, trivial⟩) (xe_again ((k + 1), (c4.set ((((((at_ l.Edges i.toNat).To) * ((w.size : Int) + 1)) + k) + 1).toNat) ((at_ c4 (((node * ((w.size : Int) + 1)) + k).toNat)) + ((at_ l.Edges i.toNat).Cost)))) rfl (show (0 ≤ (k + 1) ∧ (k + 1) ≤ (w.size : Int)) ∧ (scI l w node i (k + 1) (c4.set ((((((at_ l.Edges i.toNat).To) * ((w.size : Int) + 1)) + k) + 1).toNat) ((at_ c4 (((node * ((w.size : Int) + 1)) + k).toNat)) + ((at_ l.Edges i.toNat).Cost)))) ∧ True from ⟨(by omega), (by (first | exact sc_skip hsc4 (sc_no hff (.inl (by rw [hc1]; omega)) (by omega)) | exact sc_skip hsc4 (sc_no hff (.inr (.inl (by assumption))) (by omega)) | exact sc_skip hsc4 (sc_no hff (.inr (.inr (by rw [hc1, hc2]; omega))) (by omega)) | (have q_ := sc_put hl hsc4 (by omega) hi ⟨by omega, hkw⟩ hff (by rw [hc1]; omega) (by rw [← hlb]; unfold chA; rw [show (k + 1).toNat = k.toNat + 1 from by omega]) (by rw [hc1, hc2]; omega); rw [hc1, ← Int.add_assoc] at q_; exact q_))), trivial⟩) (by first | (show (((w.size : Int) - (k + 1)).toNat : Nat) < ((w.size : Int) - k).toNat; omega) | (dsimp only; omega)))
         by_cases h9 : ((at_ c4 (((node * ((w.size : Int) + 1)) + k).toNat)) + ((at_ l.Edges i.toNat).Cost)) < (at_ c4 ((((((at_ l.Edges i.toNat).To) * ((w.size : Int) + 1)) + k) + 1).toNat))
         ·refine x_r [(1, .dec false), (10, .dec true)] [0, 1, 5, 6, 8, 9, 10, 11, 12, 117] [23] [.ptr false [I l.Nodes, slEdge false l.Edges], Sv w, I ((w.size : Int) + 1), .arr 23, I node, I i, .ptr false [I ((at_ l.Edges i.toNat).From), I ((at_ l.Edges i.toNat).To), Sv ((at_ l.Edges i.toNat).Label), I ((at_ l.Edges i.toNat).Cost)], I k, I (at_ c4 (((node * ((w.size : Int) + 1)) + k).toNat)), Bv true] [some (tAI c4)] [¬ ((at_ c4 ((((((at_ l.Edges i.toNat).To) * ((w.size : Int) + 1)) + k) + 1).toNat)) < 0), inR .i64 ((at_ c4 (((node * ((w.size : Int) + 1)) + k).toNat)) + ((at_ l.Edges i.toNat).Cost)), ((at_ c4 (((node * ((w.size : Int) + 1)) + k).toNat)) + ((at_ l.Edges i.toNat).Cost)) < (at_ c4 ((((((at_ l.Edges i.toNat).To) * ((w.size : Int) + 1)) + k) + 1).toNat))] ⟨h8, (inR_i64 (by first | omega | (simp only [List.length_replicate, List.length_set]; omega)) (by first | omega | (simp only [List.length_replicate, List.length_set]; omega))), h9, trivial⟩ ?_
          refine xe_then ?_
          refine x_true rfl ?_
          refine x_r [] [0, 1, 5, 6, 8, 9, 10, 11] [23] [.ptr false [I l.Nodes, slEdge false l.Edges], Sv w, I ((w.size : Int) + 1), .arr 23, I node, I i, .ptr false [I ((at_ l.Edges i.toNat).From), I ((at_ l.Edges i.toNat).To), Sv ((at_ l.Edges i.toNat).Label), I ((at_ l.Edges i.toNat).Cost)], I k] [some (.arr 1 c4.length (fun q => bif Nat.beq q ((((((at_ l.Edges i.toNat).To) * ((w.size : Int) + 1)) + k) + 1).toNat) then [I ((at_ c4 (((node * ((w.size : Int) + 1)) + k).toNat)) + ((at_ l.Edges i.toNat).Cost))] else (fI c4) q))] [inR .i64 (((at_ l.Edges i.toNat).To) * ((w.size : Int) + 1)), inR .i64 ((((at_ l.Edges i.toNat).To) * ((w.size : Int) + 1)) + k), inR .i64 (((((at_ l.Edges i.toNat).To) * ((w.size : Int) + 1)) + k) + 1), inR .i64 ((at_ c4 (((node * ((w.size : Int) + 1)) + k).toNat)) + ((at_ l.Edges i.toNat).Cost)), (0 : Int) ≤ (((((at_ l.Edges i.toNat).To) * ((w.size : Int) + 1)) + k) + 1) ∧ (((((at_ l.Edges i.toNat).To) * ((w.size : Int) + 1)) + k) + 1) < (c4.length : Int), (((((at_ l.Edges i.toNat).To) * ((w.size : Int) + 1)) + k) + 1).toNat < c4.length] ⟨(inR_i64 (by first | omega | (simp only [List.length_replicate, List.length_set]; omega)) (by first | omega | (simp only [List.length_replicate, List.length_set]; omega))), (inR_i64 (by first | omega | (simp only [List.length_replicate, List.length_set]; omega)) (by first | omega | (simp only [List.length_replicate, List.length_set]; omega))), (inR_i64 (by first | omega | (simp only [List.length_replicate, List.length_set]; omega)) (by first | omega | (simp only [List.length_replicate, List.length_set]; omega))), (inR_i64 (by first | omega | (simp only [List.length_replicate, List.length_set]; omega)) (by first | omega | (simp only [List.length_replicate, List.length_set]; omega))), ⟨(by first | omega | (simp only [List.length_replicate, List.length_set]; omega)), (by first | omega | (simp only [List.length_replicate, List.length_set]; omega))⟩, (by first | omega | (simp only [List.length_replicate, List.length_set]; omega)), trivial⟩ ?_
          refine xe_block 7 ?_
          refine xe_then ?_
          refine x_r [] [0, 1, 5, 6, 8, 9, 10, 11] [23] [.ptr false [I l.Nodes, slEdge false l.Edges], Sv w, I ((w.size : Int) + 1), .arr 23, I node, I i, .ptr false [I ((at_ l.Edges i.toNat).From), I ((at_ l.Edges i.toNat).To), Sv ((at_ l.Edges i.toNat).Label), I ((at_ l.Edges i.toNat).Cost)], I (k + 1)] [some (.arr 1 c4.length (fun q => bif Nat.beq q ((((((at_ l.Edges i.toNat).To) * ((w.size : Int) + 1)) + k) + 1).toNat) then [I ((at_ c4 (((node * ((w.size : Int) + 1)) + k).toNat)) + ((at_ l.Edges i.toNat).Cost))] else (fI c4) q))] [inR .i64 (k + 1)] ⟨(inR_i64 (by first | omega | (simp only [List.length_replicate, List.length_set]; omega)) (by first | omega | (simp only [List.length_replicate, List.length_set]; omega))), trivial⟩ ?_
          refine xe_weak [] (T := [(0, .ptr false [I l.Nodes, slEdge false l.Edges]), (1, Sv w), (5, I ((w.size : Int) + 1)), (6, .arr 23), (8, I node), (9, I i), (10, .ptr false [I ((at_ l.Edges i.toNat).From), I ((at_ l.Edges i.toNat).To), Sv ((at_ l.Edges i.toNat).Label), I ((at_ l.Edges i.toNat).Cost)]), (11, I (k + 1))]) (O := [(23, tAI (c4.set ((((((at_ l.Edges i.toNat).To) * ((w.size : Int) + 1)) + k) + 1).toNat) ((at_ c4 (((node * ((w.size : Int) + 1)) + k).toNat)) + ((at_ l.Edges i.toNat).Cost))))]) rfl (⟨.inl rfl, .inl rfl, .inl rfl, .inl rfl, .inl rfl, .inl rfl, .inl rfl, .inl rfl, trivial⟩) (⟨.inr ⟨rfl, (by first | rfl | (simp; done) | (simp; omega) | omega), fun i_ hi_ => .inl (upd_enc (enc := cI) rfl i_ hi_)⟩, trivial⟩) (xe_again ((k + 1), (c4.set ((((((at_ l.Edges i.toNat).To) * ((w.size : Int) + 1)) + k) + 1).toNat) ((at_ c4 (((node * ((w.size : Int) + 1)) + k).toNat)) + ((at_ l.Edges i.toNat).Cost)))) rfl (show (0 ≤ (k + 1) ∧ (k + 1) ≤ (w.size : Int)) ∧ (scI l w node i (k + 1) (c4.set ((((((at_ l.Edges i.toNat).To) * ((w.size : Int) + 1)) + k) + 1).toNat) ((at_ c4 (((node * ((w.size : Int) + 1)) + k).toNat)) + ((at_ l.Edges i.toNat).Cost)))) ∧ True from ⟨(by omega), (by (first | exact sc_skip hsc4 (sc_no hff (.inl (by rw [hc1]; omega)) (by omega)) | exact sc_skip hsc4 (sc_no hff (.inr (.inl (by assumption))) (by omega)) | exact sc_skip hsc4 (sc_no hff (.inr (.inr (by rw [hc1, hc2]; omega))) (by omega)) | (have q_ := sc_put hl hsc4 (by omega) hi ⟨by omega, hkw⟩ hff (by rw [hc1]; omega) (by rw [← hlb]; unfold chA; rw [show (k + 1).toNat = k.toNat + 1 from by omega]) (by rw [hc1, hc2]; omega); rw [hc1, ← Int.add_assoc] at q_; exact q_))), trivial⟩) (by first | (show (((w.size : Int) - (k + 1)).toNat : Nat) < ((w.size : Int) - k).toNat; omega) | (dsimp only; omega)))
         refine x_r [(1, .dec false), (10, .dec false)] [0, 1, 5, 6, 8, 9, 10, 11, 12, 117] [23] [.ptr false [I l.Nodes, slEdge false l.Edges], Sv w, I ((w.size : Int) + 1), .arr 23, I node, I i, .ptr false [I ((at_ l.Edges i.toNat).From), I ((at_ l.Edges i.toNat).To), Sv ((at_ l.Edges i.toNat).Label), I ((at_ l.Edges i.toNat).Cost)], I k, I (at_ c4 (((node * ((w.size : Int) + 1)) + k).toNat)), Bv false] [some (tAI c4)] [¬ ((at_ c4 ((((((at_ l.Edges i.toNat).To) * ((w.size : Int) + 1)) + k) + 1).toNat)) < 0), inR .i64 ((at_ c4 (((node * ((w.size : Int) + 1)) + k).toNat)) + ((at_ l.Edges i.toNat).Cost)), ¬ (((at_ c4 (((node * ((w.size : Int) + 1)) + k).toNat)) + ((at_ l.Edges i.toNat).Cost)) < (at_ c4 ((((((at_ l.Edges i.toNat).To) * ((w.size : Int) + 1)) + k) + 1).toNat)))] ⟨h8, (inR_i64 (by first | omega | (simp only [List.length_replicate, List.length_set]; omega)) (by first | omega | (simp only [List.length_replicate, List.length_set]; omega))), h9, trivial⟩ ?_
         refine xe_then ?_
         refine x_false rfl ?_
         refine x_skip ?_
         refine xe_block 7 ?_
         refine xe_then ?_
         refine x_r [] [0, 1, 5, 6, 8, 9, 10, 11] [23] [.ptr false [I l.Nodes, slEdge false l.Edges], Sv w, I ((w.size : Int) + 1), .arr 23, I node, I i, .ptr false [I ((at_ l.Edges i.toNat).From), I ((at_ l.Edges i.toNat).To), Sv ((at_ l.Edges i.toNat).Label), I ((at_ l.Edges i.toNat).Cost)], I (k + 1)] [some (tAI c4)] [inR .i64 (k + 1)] ⟨(inR_i64 (by first | omega | (simp only [List.length_replicate, List.length_set]; omega)) (by first | omega | (simp only [List.length_replicate, List.length_set]; omega))), trivial⟩ ?_
         exact xe_again ((k + 1), c4) rfl (show (0 ≤ (k + 1) ∧ (k + 1) ≤ (w.size : Int)) ∧ (scI l w node i (k + 1) c4) ∧ True from ⟨(by omega), (by (first | exact sc_skip hsc4 (sc_no hff (.inl (by rw [hc1]; omega)) (by omega)) | exact sc_skip hsc4 (sc_no hff (.inr (.inl (by assumption))) (by omega)) | exact sc_skip hsc4 (sc_no hff (.inr (.inr (by rw [hc1, hc2]; omega))) (by omega)) | (have q_ := sc_put hl hsc4 (by omega) hi ⟨by omega, hkw⟩ hff (by rw [hc1]; omega) (by rw [← hlb]; unfold chA; rw [show (k + 1).toNat = k.toNat + 1 from by omega]) (by rw [hc1, hc2]; omega); rw [hc1, ← Int.add_assoc] at q_; exact q_))), trivial⟩) (by first | (show (((w.size : Int) - (k + 1)).toNat : Nat) < ((w.size : Int) - k).toNat; omega) | (dsimp only; omega))
        have hlb := h7
        refine x_r [(1, .dec false), (12, .dec true)] [0, 1, 5, 6, 8, 9, 10, 11, 12, 93] [23] [.ptr false [I l.Nodes, slEdge false l.Edges], Sv w, I ((w.size : Int) + 1), .arr 23, I node, I i, .ptr false [I ((at_ l.Edges i.toNat).From), I ((at_ l.Edges i.toNat).To), Sv ((at_ l.Edges i.toNat).Label), I ((at_ l.Edges i.toNat).Cost)], I k, I (at_ c4 (((node * ((w.size : Int) + 1)) + k).toNat)), Bv true] [some (tAI c4)] [¬ ((at_ c4 (((node * ((w.size : Int) + 1)) + k).toNat)) < 0), inR .i64 (k + 1), (0 : Int) ≤ k ∧ k ≤ (k + 1) ∧ (k + 1) ≤ (w.size : Int), (w.extract k.toNat (k + 1).toNat) ≠ ((at_ l.Edges i.toNat).Label)] ⟨h6, (inR_i64 (by first | omega | (simp only [List.length_replicate, List.length_set]; omega)) (by first | omega | (simp only [List.length_replicate, List.length_set]; omega))), ⟨(by first | omega | (simp only [List.length_replicate, List.length_set]; omega)), (by first | omega | (simp only [List.length_replicate, List.length_set]; omega)), (by first | omega | (simp only [List.length_replicate, List.length_set]; omega))⟩, h7, trivial⟩ ?_
        refine xe_then ?_
        refine x_true rfl ?_
        refine x_exit ?_
        refine xe_exit_then ?_
        refine xe_exit_same ?_
        refine xe_then ?_
        refine x_r [] [0, 1, 5, 6, 8, 9, 10, 11] [23] [.ptr false [I l.Nodes, slEdge false l.Edges], Sv w, I ((w.size : Int) + 1), .arr 23, I node, I i, .ptr false [I ((at_ l.Edges i.toNat).From), I ((at_ l.Edges i.toNat).To), Sv ((at_ l.Edges i.toNat).Label), I ((at_ l.Edges i.toNat).Cost)], I (k + 1)] [some (tAI c4)] [inR .i64 (k + 1)] ⟨(inR_i64 (by first | omega | (simp only [List.length_replicate, List.length_set]; omega)) (by first | omega | (simp only [List.length_replicate, List.length_set]; omega))), trivial⟩ ?_
        exact xe_again ((k + 1), c4) rfl (show (0 ≤ (k + 1) ∧ (k + 1) ≤ (w.size : Int)) ∧ (scI l w node i (k + 1) c4) ∧ True from ⟨(by omega), (by (first | exact sc_skip hsc4 (sc_no hff (.inl (by rw [hc1]; omega)) (by omega)) | exact sc_skip hsc4 (sc_no hff (.inr (.inl (by assumption))) (by omega)) | exact sc_skip hsc4 (sc_no hff (.inr (.inr (by rw [hc1, hc2]; omega))) (by omega)) | (have q_ := sc_put hl hsc4 (by omega) hi ⟨by omega, hkw⟩ hff (by rw [hc1]; omega) (by rw [← hlb]; unfold chA; rw [show (k + 1).toNat = k.toNat + 1 from by omega]) (by rw [hc1, hc2]; omega); rw [hc1, ← Int.add_assoc] at q_; exact q_))), trivial⟩) (by first | (show (((w.size : Int) - (k + 1)).toNat : Nat) < ((w.size : Int) - k).toNat; omega) | (dsimp only; omega))
       have hfo := h5
       refine x_r [(3, .dec true), (10, .dec false)] [0, 1, 5, 6, 8, 9, 10, 11, 69] [23] [.ptr false [I l.Nodes, slEdge false l.Edges], Sv w, I ((w.size : Int) + 1), .arr 23, I node, I i, .ptr false [I ((at_ l.Edges i.toNat).From), I ((at_ l.Edges i.toNat).To), Sv ((at_ l.Edges i.toNat).Label), I ((at_ l.Edges i.toNat).Cost)], I k, Bv false] [some (tAI c4)] [inR .i64 (k + 1), (k + 1) < ((w.size : Int) + 1), ¬ (((at_ l.Edges i.toNat).From) = node)] ⟨(inR_i64 (by first | omega | (simp only [List.length_replicate, List.length_set]; omega)) (by first | omega | (simp only [List.length_replicate, List.length_set]; omega))), h4, h5, trivial⟩ ?_
       refine xe_then ?_
       refine x_false rfl ?_
       refine x_exit ?_
       refine xe_exit_then ?_
       refine xe_loop_exit ?_
       refine xe_exit_same ?_
       refine xe_block 5 ?_
       refine xe_then ?_
       refine x_r [] [0, 1, 5, 6, 8, 9] [23] [.ptr false [I l.Nodes, slEdge false l.Edges], Sv w, I ((w.size : Int) + 1), .arr 23, I node, I (i + 1)] [some (tAI c4)] [inR .i64 (i + 1)] ⟨(inR_i64 (by first | omega | (simp only [List.length_replicate, List.length_set]; omega)) (by first | omega | (simp only [List.length_replicate, List.length_set]; omega))), trivial⟩ ?_
       exact xe_again ((i + 1), c4) rfl (show (0 ≤ (i + 1) ∧ (i + 1) ≤ (l.Edges.length : Int)) ∧ (scI l w node (i + 1) 0 c4) ∧ True from ⟨(by omega), (by first | exact sc_edge hsc4 (by omega) (.inl hko) | exact sc_edge hsc4 (by omega) (.inr hfo)), trivial⟩) (by first | (show (((l.Edges.length : Int) - (i + 1)).toNat : Nat) < ((l.Edges.length : Int) - i).toNat; omega) | (dsimp only; omega))
      have hko : (w.size : Int) ≤ k := by omega
      refine x_r [(3, .dec false)] [0, 1, 5, 6, 8, 9, 10, 11, 69] [23] [.ptr false [I l.Nodes, slEdge false l.Edges], Sv w, I ((w.size : Int) + 1), .arr 23, I node, I i, .ptr false [I ((at_ l.Edges i.toNat).From), I ((at_ l.Edges i.toNat).To), Sv ((at_ l.Edges i.toNat).Label), I ((at_ l.Edges i.toNat).Cost)], I k, Bv false] [some (tAI c4)] [inR .i64 (k + 1), ¬ ((k + 1) < ((w.size : Int) + 1))] ⟨(inR_i64 (by first | omega | (simp only [List.length_replicate, List.length_set]; omega)) (by first | omega | (simp only [List.length_replicate, List.length_set]; omega))), h4, trivial⟩ ?_
      refine xe_then ?_
      refine x_false rfl ?_
      refine x_exit ?_
      refine xe_exit_then ?_
      refine xe_loop_exit ?_
      refine xe_exit_same ?_
      refine xe_block 5 ?_
      refine xe_then ?_
      refine x_r [] [0, 1, 5, 6, 8, 9] [23] [.ptr false [I l.Nodes, slEdge false l.Edges], Sv w, I ((w.size : Int) + 1), .arr 23, I node, I (i + 1)] [some (tAI c4)] [inR .i64 (i + 1)] ⟨(inR_i64 (by first | omega | (simp only [List.length_replicate, List.length_set]; omega)) (by first | omega | (simp only [List.length_replicate, List.length_set]; omega))), trivial⟩ ?_
      exact xe_again ((i + 1), c4) rfl (show (0 ≤ (i + 1) ∧ (i + 1) ≤ (l.Edges.length : Int)) ∧ (scI l w node (i + 1) 0 c4) ∧ True from ⟨(by omega), (by first | exact sc_edge hsc4 (by omega) (.inl hko) | exact sc_edge hsc4 (by omega) (.inr hfo)), trivial⟩) (by first | (show (((l.Edges.length : Int) - (i + 1)).toNat : Nat) < ((l.Edges.length : Int) - i).toNat; omega) | (dsimp only; omega))
     refine x_r [(6, .dec false)] [0, 1, 5, 6, 8, 9, 49] [23] [.ptr false [I l.Nodes, slEdge false l.Edges], Sv w, I ((w.size : Int) + 1), .arr 23, I node, I i, Bv false] [some (tAI c3)] [¬ (i < (l.Edges.length : Int))] ⟨h3, trivial⟩ ?_
     refine xe_then ?_
     refine x_false rfl ?_
     refine x_exit ?_
     refine xe_exit_then ?_
     refine xe_loop_exit ?_
     refine xe_exit_same ?_
     refine xe_block 3 ?_
     refine xe_then ?_
     refine x_r [] [0, 1, 5, 6, 8] [23] [.ptr false [I l.Nodes, slEdge false l.Edges], Sv w, I ((w.size : Int) + 1), .arr 23, I (node + 1)] [some (tAI c3)] [inR .i64 (node + 1)] ⟨(inR_i64 (by first | omega | (simp only [List.length_replicate, List.length_set]; omega)) (by first | omega | (simp only [List.length_replicate, List.length_set]; omega))), trivial⟩ ?_
     exact xe_again ((node + 1), c3) rfl (show (0 ≤ (node + 1) ∧ (node + 1) ≤ l.Nodes) ∧ (scI l w (node + 1) 0 0 c3) ∧ True from ⟨(by omega), (by exact sc_node hsc3 (by omega)), trivial⟩) (by first | (show ((l.Nodes - (node + 1)).toNat : Nat) < (l.Nodes - node).toNat; omega) | (dsimp only; omega))
    have hcl2 := hsc.1
    have hend := sc_end hl (by omega) hsc
    have hixe : (l.Nodes * ((w.size : Int) + 1) - 1).toNat = ((l.Nodes - 1) * ((w.size : Int) + 1) + (w.size : Int)).toNat := by rw [Int.sub_mul]; omega
    have hcle : clT w c2 (l.Nodes - 1) w.size = at_ c2 (l.Nodes * ((w.size : Int) + 1) - 1).toNat := by rw [hixe]; rfl
    refine x_r [(5, .dec false)] [0, 1, 5, 6, 8, 40] [23] [.ptr false [I l.Nodes, slEdge false l.Edges], Sv w, I ((w.size : Int) + 1), .arr 23, I node, Bv false] [some (tAI c2)] [¬ (node < l.Nodes)] ⟨h2, trivial⟩ ?_
    refine xe_then ?_
    refine x_false rfl ?_
    refine x_exit ?_
    refine xe_exit_then ?_
    refine xe_loop_exit ?_
    refine xe_exit_same ?_
    refine xe_then ?_
    refine xR [] [4] [] [I (at_ c2 (((l.Nodes * ((w.size : Int) + 1)) - 1).toNat))] [] [inR .i64 (l.Nodes * ((w.size : Int) + 1)), inR .i64 ((l.Nodes * ((w.size : Int) + 1)) - 1), (0 : Int) ≤ ((l.Nodes * ((w.size : Int) + 1)) - 1) ∧ ((l.Nodes * ((w.size : Int) + 1)) - 1) < (c2.length : Int), ((l.Nodes * ((w.size : Int) + 1)) - 1).toNat < c2.length] ⟨(inR_i64 (by first | omega | (simp only [List.length_replicate, List.length_set]; omega)) (by first | omega | (simp only [List.length_replicate, List.length_set]; omega))), (inR_i64 (by first | omega | (simp only [List.length_replicate, List.length_set]; omega)) (by first | omega | (simp only [List.length_replicate, List.length_set]; omega))), ⟨(by first | omega | (simp only [List.length_replicate, List.length_set]; omega)), (by first | omega | (simp only [List.length_replicate, List.length_set]; omega))⟩, (by first | omega | (simp only [List.length_replicate, List.length_set]; omega)), trivial⟩ ?_
    refine x_ret ?_
    refine xe_end (at_ c2 (((l.Nodes * ((w.size : Int) + 1)) - 1).toNat)) (show (((at_ c2 (((l.Nodes * ((w.size : Int) + 1)) - 1).toNat)) = -1 ∧ ¬ tcF l w < 1099511627776) ∨ (0 ≤ (at_ c2 (((l.Nodes * ((w.size : Int) + 1)) - 1).toNat)) ∧ (at_ c2 (((l.Nodes * ((w.size : Int) + 1)) - 1).toNat)) = tcF l w ∧ tcF l w < 1099511627776)) ∧ (True) from ⟨(by (rw [← hcle]; exact hend)), trivial⟩) (trivial) (I (at_ c2 (((l.Nodes * ((w.size : Int) + 1)) - 1).toNat))) (by kernel_rfl) (.inl rfl) (fun _ => rfl) (fun _ => trivial)
  obtain ⟨v, ⟨hh0, _⟩, hc⟩ := hh
  exact ⟨v, hh0, hc⟩



-- spec.l16Sum
theorem l16Sum_ok (f : Found) (hf : (0 ≤ f.Path ∧ f.Path ≤ 20000000) ∧ (0 ≤ f.Own ∧ f.Own ≤ 1000000)) : Con Tryz.prog 70 [agFound f] true (I (f.Path + f.Own)) := by
  refine fn_ok (fn := Tryz.f70) (nt := 8) Tryz.func70 rfl rfl rfl rfl (by simp [taggedL, tagged]) fun B hB => ?_
  refine aR [(0, .new 1)] [1] [1] [.ref 1 0] [some (bxFound f)] [] hB trivial ?_
  refine aR [] [2] [] [I (f.Path + f.Own)] [] [inR .i64 (f.Path + f.Own)] hB ⟨(inR_i64 (by omega) (by omega)), trivial⟩ ?_
  refine aw_ret ?_
  refine ae_ret hB (I (f.Path + f.Own)) (by kernel_rfl) (.inl rfl) rfl (fun _ => trivial)



-- spec.l15Before
theorem l15Before_ok (a : Reading) (b : Reading) : Con Tryz.prog 69 [agReading a, agReading b] true (Bv (decide (cmpR a b < 0))) := by
  refine fn_ok (fn := Tryz.f69) (nt := 34) Tryz.func69 rfl rfl rfl rfl (by simp [taggedL, tagged]) fun B hB => ?_
  refine aR [(0, .new 2), (1, .new 3)] [2, 3] [2, 3] [.ref 2 0, .ref 3 0] [some (bxReading a), some (bxReading b)] [] hB trivial ?_
  refine aw_seq ?_
  refine aw_seq ?_
  by_cases h1 : a.Cost = b.Cost
  ·refine aw_r [(4, .dec false)] [2, 3, 9] [2, 3] [.ref 2 0, .ref 3 0, Bv false] [some (bxReading a), some (bxReading b)] [¬ (a.Cost ≠ b.Cost)] hB ⟨(fun hq => hq h1), trivial⟩ ?_
   refine ae_then ?_
   refine aw_false rfl ?_
   refine aw_skip ?_
   refine ae_then ?_
   refine aw_seq ?_
   refine aw_seq ?_
   by_cases h2 : (a.Text.size : Int) = (b.Text.size : Int)
   ·refine aw_r [(6, .dec false)] [2, 3, 21] [2, 3] [.ref 2 0, .ref 3 0, Bv false] [some (bxReading a), some (bxReading b)] [¬ ((a.Text.size : Int) ≠ (b.Text.size : Int))] hB ⟨(fun hq => hq h2), trivial⟩ ?_
    refine ae_then ?_
    refine aw_false rfl ?_
    refine aw_skip ?_
    refine ae_then ?_
    refine aR [] [4] [] [Bv (decide (sless a.Text b.Text = true))] [] [] hB trivial ?_
    refine aw_ret ?_
    refine ae_ret hB (Bv (decide (sless a.Text b.Text = true))) (by kernel_rfl) (.inl (by refine congrArg Bv ?_; first | exact (decide_eq_decide.2 (by rw [cmpR_neg]; omega)) | (refine decide_eq_decide.2 ?_; rw [cmpR_neg]; simp [*]; done) | (symm; exact decide_eq_true (by rw [cmpR_neg]; first | omega | simp_all)) | (symm; exact decide_eq_false (by rw [cmpR_neg]; first | omega | simp_all)))) rfl (fun _ => trivial)
   refine aw_r [(6, .dec true)] [2, 3, 21] [2, 3] [.ref 2 0, .ref 3 0, Bv true] [some (bxReading a), some (bxReading b)] [(a.Text.size : Int) ≠ (b.Text.size : Int)] hB ⟨h2, trivial⟩ ?_
   refine ae_then ?_
   refine aw_true rfl ?_
   refine aR [] [4] [] [Bv (decide ((a.Text.size : Int) < (b.Text.size : Int)))] [] [] hB trivial ?_
   refine aw_ret ?_
   refine ae_ret_then ?_
   refine ae_ret hB (Bv (decide ((a.Text.size : Int) < (b.Text.size : Int)))) (by kernel_rfl) (.inl (by refine congrArg Bv ?_; first | exact (decide_eq_decide.2 (by rw [cmpR_neg]; omega)) | (refine decide_eq_decide.2 ?_; rw [cmpR_neg]; simp [*]; done) | (symm; exact decide_eq_true (by rw [cmpR_neg]; first | omega | simp_all)) | (symm; exact decide_eq_false (by rw [cmpR_neg]; first | omega | simp_all)))) rfl (fun _ => trivial)
  refine aw_r [(4, .dec true)] [2, 3, 9] [2, 3] [.ref 2 0, .ref 3 0, Bv true] [some (bxReading a), some (bxReading b)] [a.Cost ≠ b.Cost] hB ⟨h1, trivial⟩ ?_
  refine ae_then ?_
  refine aw_true rfl ?_
  refine aR [] [4] [] [Bv (decide (a.Cost < b.Cost))] [] [] hB trivial ?_
  refine aw_ret ?_
  refine ae_ret_then ?_
  refine ae_ret hB (Bv (decide (a.Cost < b.Cost))) (by kernel_rfl) (.inl (by refine congrArg Bv ?_; first | exact (decide_eq_decide.2 (by rw [cmpR_neg]; omega)) | (refine decide_eq_decide.2 ?_; rw [cmpR_neg]; simp [*]; done) | (symm; exact decide_eq_true (by rw [cmpR_neg]; first | omega | simp_all)) | (symm; exact decide_eq_false (by rw [cmpR_neg]; first | omega | simp_all)))) rfl (fun _ => trivial)



def rq_ (f : Found) : Reading := ⟨f.Word, f.Path + f.Own⟩
theorem at_mp2 {α β : Type} [Inhabited α] [Inhabited β] {f : α → β} {xs : List α} {k : Nat} (h : k < xs.length) : at_ (xs.map f) k = f (at_ xs k) := by simp [at_, h]
theorem rdI_sub {l : Lattice} {lx : Lexicon} {f : Found} {i : Nat} (hi : i ≤ lx.Entries.length) (h : f ∈ rdI l lx i) : f ∈ rdA l lx := by
  obtain ⟨j, a, b⟩ := (rdI_mem i hi).1 h
  exact (rdI_mem _ (Nat.le_refl _)).2 ⟨j, by omega, b⟩
theorem out_bd {l : Lattice} (hl : okLat l) {lx : Lexicon} (hx : okLex lx) {out : List Found} {i : Nat} (hi : i ≤ lx.Entries.length) (hp : out.Perm (rdI l lx i)) {j : Nat} (hj : j < out.length) : (0 ≤ (at_ out j).Path ∧ (at_ out j).Path ≤ 20000000) ∧ (0 ≤ (at_ out j).Own ∧ (at_ out j).Own ≤ 1000000) := by
  have := (rdA_ok hl hx (rdI_sub hi (hp.mem_iff.1 (at_mem hj)))).1
  exact ⟨this.2.2.2.1, this.2.2.2.2⟩
theorem rdI_y {l : Lattice} {lx : Lexicon} {i : Nat} (h : tcF l (at_ lx.Entries i).Word < 1099511627776) : rdI l lx (i + 1) = rdI l lx i ++ [⟨(at_ lx.Entries i).Word, tcF l (at_ lx.Entries i).Word, (at_ lx.Entries i).Cost⟩] := by
  show (if _ then _ else _) = _
  rw [if_pos h]
theorem rdI_n {l : Lattice} {lx : Lexicon} {i : Nat} (h : ¬ tcF l (at_ lx.Entries i).Word < 1099511627776) : rdI l lx (i + 1) = rdI l lx i := by
  show (if _ then _ else _) = _
  rw [if_neg h]
theorem bf_le {a b : Found} (h : cmpR (rq_ a) (rq_ b) < 0) : a.Path + a.Own ≤ b.Path + b.Own := by
  rcases cmpR_neg.1 h with q | q
  · have : a.Path + a.Own < b.Path + b.Own := q
    omega
  · have : a.Path + a.Own = b.Path + b.Own := q.1
    omega
theorem bf_ge {a b : Found} (h : ¬ cmpR (rq_ a) (rq_ b) < 0) : b.Path + b.Own ≤ a.Path + a.Own := Int.not_lt.1 fun q => h (cmpR_neg.2 (.inl q))
theorem fl_step {l : Lattice} {lx : Lexicon} {out : List Found} {i k : Nat} {c : Int} (hp : out.Perm (rdI l lx i)) (hs : out.Pairwise fun x y => x.Path + x.Own ≤ y.Path + y.Own) (hc : c = tcF l (at_ lx.Entries i).Word) (h : tcF l (at_ lx.Entries i).Word < 1099511627776) (hk : k ≤ out.length) (hlo : k = 0 ∨ (at_ out (k - 1)).Path + (at_ out (k - 1)).Own ≤ c + (at_ lx.Entries i).Cost) (hhi : ∀ j : Nat, k ≤ j → j < out.length → c + (at_ lx.Entries i).Cost ≤ (at_ out j).Path + (at_ out j).Own) : (out.take k ++ [(⟨(at_ lx.Entries i).Word, c, (at_ lx.Entries i).Cost⟩ : Found)] ++ out.drop k).Perm (rdI l lx (i + 1)) ∧ (out.take k ++ [(⟨(at_ lx.Entries i).Word, c, (at_ lx.Entries i).Cost⟩ : Found)] ++ out.drop k).Pairwise fun x y => x.Path + x.Own ≤ y.Path + y.Own := by
  have q := fl_put (f := ⟨(at_ lx.Entries i).Word, c, (at_ lx.Entries i).Cost⟩) hs hk hlo hhi
  refine ⟨q.1.trans ?_, q.2⟩
  rw [rdI_y h, hc]
  exact hp.append_right _
theorem fw_law {l : Lattice} (hl : okLat l) {lx : Lexicon} (hx : okLex lx) {w : Nat} (hw : 1 ≤ w) {b : Found} (h0 : 0 < (beamF l lx w).length) {loss two : Int} (hb : blOK l lx w loss two) (hv : b ∈ rdA l lx ∧ ∀ f ∈ rdA l lx, b.Path + b.Own ≤ f.Path + f.Own) : 0 ≤ loss ∧ loss = (bmW l lx w).Path + (bmW l lx w).Own - b.Path - b.Own := by
  rcases hb with ⟨_, _, s, h1, h2, h3, h4⟩ | ⟨_, q, _⟩
  · have := sumMin_uniq h1 ⟨⟨b, hv.1, rfl⟩, hv.2⟩
    omega
  · omega
theorem bl_cs {l : Lattice} {lx : Lexicon} {w : Nat} {v c : Int} (h : blOK l lx w v c) : 0 ≤ v ∧ v ≤ 100000000 ∧ ((c = 0 ∧ 0 < (beamF l lx w).length) ∨ (c = 3 ∧ (beamF l lx w).length = 0)) := by
  rcases h with ⟨h1, h2, s, h3, h4, h5, h6⟩ | ⟨h1, h2, h3⟩
  · exact ⟨h5, h6, .inl ⟨h1, h2⟩⟩
  · exact ⟨by omega, by omega, .inr ⟨h1, h2⟩⟩
theorem bl_cs0 {l : Lattice} {lx : Lexicon} {w : Nat} {v c : Int} (h : blOK l lx w v c) (hn : ¬ blOK l lx w 0 0) : c = 3 ∨ (c = 0 ∧ 0 < v) := by
  have a := bl_cs h
  rcases a.2.2 with q | q
  · refine .inr ⟨q.1, Classical.byContradiction fun z => hn ?_⟩
    have e : v = 0 := by omega
    rw [q.1, e] at h; exact h
  · exact .inl q.1
theorem bt_len {l : Lattice} (hl : okLat l) {lx : Lexicon} {w : Nat} (hw : 1 ≤ w) : (beamT l lx w).length = l.Nodes.toNat ∧ ∀ j, (at_ (beamT l lx w) j).length ≤ w := by
  have hN := hl.1
  have := (bmT_ok hl lx hw (p := begB lx) (l.Nodes.toNat - 1) (by omega)).1
  exact ⟨this.1, row_le this⟩
theorem rd_some {l : Lattice} (hl : okLat l) {lx : Lexicon} (hx : okLex lx) {w : Nat} (hw : 1 ≤ w) (h : 0 < (beamF l lx w).length) : 0 < (rdA l lx).length := by
  obtain ⟨g, hg, _⟩ := okFd_rd hl hx (bmW_ok hl hx hw h).1
  exact List.length_pos_of_mem hg
theorem bm_word {l : Lattice} (hl : okLat l) {lx : Lexicon} (hx : okLex lx) {w : Nat} (hw : 1 ≤ w) (h : 0 < (beamF l lx w).length) : (bmW l lx w).Word.size ≤ 10 ∧ (∃ e ∈ lx.Entries, e.Word = (bmW l lx w).Word) := by
  obtain ⟨e, he, h1, h2⟩ := (bmW_ok hl hx hw h).1.1
  have := (okWord_iff.1 (hx.2.1 e he).1).1
  rw [← h1]
  exact ⟨this.2, e, he, rfl⟩


-- spec.l16Before
theorem l16Before_ok (a : Found) (b : Found) (ha : (0 ≤ a.Path ∧ a.Path ≤ 20000000) ∧ (0 ≤ a.Own ∧ a.Own ≤ 1000000)) (hb : (0 ≤ b.Path ∧ b.Path ≤ 20000000) ∧ (0 ≤ b.Own ∧ b.Own ≤ 1000000)) : Con Tryz.prog 48 [agFound a, agFound b] true (Bv (decide (cmpR (rq_ a) (rq_ b) < 0))) := by
  refine fn_ok (fn := Tryz.f48) (nt := 16) Tryz.func48 rfl rfl rfl rfl (by simp [taggedL, tagged]) fun B hB => ?_
  refine aR [(0, .new 2), (1, .new 3)] [2, 3] [2, 3] [.ref 2 0, .ref 3 0] [some (bxFound a), some (bxFound b)] [] hB trivial ?_
  refine aR [(3, .call [(true, .any)] true (I (a.Path + a.Own))), (8, .call [(true, .any)] true (I (b.Path + b.Own))), (10, .call [(true, .any), (true, .any)] true (Bv (decide (cmpR (Reading.mk a.Word (a.Path + a.Own)) (Reading.mk b.Word (b.Path + b.Own)) < 0))))] [4] [] [Bv (decide (cmpR (Reading.mk a.Word (a.Path + a.Own)) (Reading.mk b.Word (b.Path + b.Own)) < 0))] [] [Con Tryz.prog 70 [agFound a] true (I (a.Path + a.Own)) ∧ True, Con Tryz.prog 70 [agFound b] true (I (b.Path + b.Own)) ∧ True, Con Tryz.prog 69 [.agg [Sv a.Word, I (a.Path + a.Own)], .agg [Sv b.Word, I (b.Path + b.Own)]] true (Bv (decide (cmpR (Reading.mk a.Word (a.Path + a.Own)) (Reading.mk b.Word (b.Path + b.Own)) < 0))) ∧ True] hB ⟨⟨(l16Sum_ok a (by first | exact ha | exact hb)), trivial⟩, ⟨(l16Sum_ok b (by first | exact ha | exact hb)), trivial⟩, ⟨(l15Before_ok (Reading.mk a.Word (a.Path + a.Own)) (Reading.mk b.Word (b.Path + b.Own))), trivial⟩, trivial⟩ ?_
  refine aw_ret ?_
  refine ae_ret hB (Bv (decide (cmpR (Reading.mk a.Word (a.Path + a.Own)) (Reading.mk b.Word (b.Path + b.Own)) < 0))) (by kernel_rfl) (.inl (by rfl)) rfl (fun _ => trivial)



-- spec.l16All
theorem l16All_ok (l : Lattice) (lx : Lexicon) (hl : okLat l) (hx : okLex lx) : ∃ (v : List Found), (v.Perm (rdA l lx)) ∧ (v.Pairwise fun x_ y_ => x_.Path + x_.Own ≤ y_.Path + y_.Own) ∧ Con Tryz.prog 24 [.ptr false [I l.Nodes, slEdge false l.Edges], .ptr false [slEntry false lx.Entries]] true (slFound true v) := by
  have hn20 := hl.1
  have hc := hx.1
  have hh : ∃ r : (List Found), ((r.Perm (rdA l lx)) ∧ (r.Pairwise fun x_ y_ => x_.Path + x_.Own ≤ y_.Path + y_.Own) ∧ (True)) ∧ CallOK Tryz.prog 24 [.ptr false [I l.Nodes, slEdge false l.Edges], .ptr false [slEntry false lx.Entries]] (lookO []) true (slFound true r) (lookO []) := by
    refine fn_okX (Φ := fun r : (List Found) => (r.Perm (rdA l lx)) ∧ (r.Pairwise fun x_ y_ => x_.Path + x_.Own ≤ y_.Path + y_.Own) ∧ (True)) [] (fun r => []) (fn := Tryz.f24) (nt := 81) Tryz.func24 rfl rfl (args := [.ptr false [I l.Nodes, slEdge false l.Edges], .ptr false [slEntry false lx.Entries]]) rfl (allcons (.inl ⟨rfl, by simp [tagged, taggedL, tagEdge]⟩) (allcons (.inl ⟨rfl, by simp [tagged, taggedL, tagEntry]⟩) allnil)) (res := fun r => slFound true r) ?_
    refine xR [] [0, 1] [] [.ptr false [I l.Nodes, slEdge false l.Edges], .ptr false [slEntry false lx.Entries]] [] [] trivial ?_
    refine xR [(0, .new 11)] [0, 1, 5] [11] [.ptr false [I l.Nodes, slEdge false l.Edges], .ptr false [slEntry false lx.Entries], .arr 11] [some (.arr 3 0 (litF [] 3))] [] trivial ?_
    refine x_seq ?_
    refine xR [] [0, 1, 5, 6] [11] [.ptr false [I l.Nodes, slEdge false l.Edges], .ptr false [slEntry false lx.Entries], .arr 11, I 0] [some (.arr 3 0 (litF [] 3))] [] trivial ?_
    refine x_block ?_
    refine x_weak [] (T := [(0, .ptr false [I l.Nodes, slEdge false l.Edges]), (1, .ptr false [slEntry false lx.Entries]), (5, slFound true ([] : List Found)), (6, I 0)]) (O := []) rfl (⟨.inl rfl, .inl rfl, .inr ⟨(fun _ => rfl), rfl, (by first | rfl | (simp; done) | (simp; omega) | omega), fun i_ hi_ => absurd hi_ (Nat.not_lt_zero _)⟩, .inl rfl, trivial⟩) (trivial) ?_
    refine x_loop (X := (List Found) × Int) (fun x => mkS [(0, .ptr false [I l.Nodes, slEdge false l.Edges]), (1, .ptr false [slEntry false lx.Entries]), (5, slFound true x.1), (6, I x.2)] []) (fun x => (0 ≤ x.2 ∧ x.2 ≤ (lx.Entries.length : Int)) ∧ (x.1.Perm (rdI l lx x.2.toNat)) ∧ (x.1.Pairwise fun x y => x.Path + x.Own ≤ y.Path + y.Own) ∧ True) (fun x => ((lx.Entries.length : Int) - x.2).toNat) (([] : List Found), 0) rfl (show (0 ≤ (0 : Int) ∧ (0 : Int) ≤ (lx.Entries.length : Int)) ∧ (([] : List Found).Perm (rdI l lx (0 : Int).toNat)) ∧ (([] : List Found).Pairwise fun x y => x.Path + x.Own ≤ y.Path + y.Own) ∧ True from ⟨(by omega), (by exact List.Perm.refl _), (by exact List.Pairwise.nil), trivial⟩) (fun x hI => ?_)
    obtain ⟨out, i⟩ := x
    obtain ⟨hi0, hpm, hpw, _⟩ : (0 ≤ i ∧ i ≤ (lx.Entries.length : Int)) ∧ (out.Perm (rdI l lx i.toNat)) ∧ (out.Pairwise fun x y => x.Path + x.Own ≤ y.Path + y.Own) ∧ True := hI
    show XW _ _ _ _ (mkS [(0, .ptr false [I l.Nodes, slEdge false l.Edges]), (1, .ptr false [slEntry false lx.Entries]), (5, slFound true out), (6, I i)] []) _ _
    refine x_seq ?_
    refine x_seq ?_
    by_cases h1 : i < (lx.Entries.length : Int)
    ·have hi : i.toNat < lx.Entries.length := by omega
     have hen := hx.2.1 _ (at_mem hi)
     have hwz := (okWord_iff.1 hen.1).1
     have hii : (i + 1).toNat = i.toNat + 1 := by omega
     have hrl := rdI_len l lx i.toNat
     have hpl := hpm.length_eq
     refine x_r [(6, .dec true)] [0, 1, 5, 6, 18] [] [.ptr false [I l.Nodes, slEdge false l.Edges], .ptr false [slEntry false lx.Entries], slFound true out, I i, Bv true] [] [i < (lx.Entries.length : Int)] ⟨h1, trivial⟩ ?_
     refine xe_then ?_
     refine x_true rfl ?_
     refine x_skip ?_
     refine xe_then ?_
     refine x_seq ?_
     refine x_block ?_
     refine x_seq ?_
     obtain ⟨v_1, hx1_0, hc1⟩ := l15TextCost_ok l ((at_ lx.Entries i.toNat).Word) hl (by omega)
     have htc := hx1_0
     refine x_r [(9, .call [(true, .any), (true, .any)] true (I v_1))] [0, 1, 5, 6, 7] [] [.ptr false [I l.Nodes, slEdge false l.Edges], .ptr false [slEntry false lx.Entries], slFound true out, I i, I v_1] [] [(0 : Int) ≤ i ∧ i < (lx.Entries.length : Int), Con Tryz.prog 25 [.ptr false [I l.Nodes, slEdge false l.Edges], Sv ((at_ lx.Entries i.toNat).Word)] true (I v_1) ∧ True] ⟨⟨(by first | omega | (simp; omega)), (by first | omega | (simp; omega))⟩, ⟨hc1, trivial⟩, trivial⟩ ?_
     refine xe_then ?_
     refine x_seq ?_
     refine x_seq ?_
     by_cases h2 : v_1 < 0
     ·have htq : ¬ tcF l (at_ lx.Entries i.toNat).Word < 1099511627776 := by rcases htc with q | q; (exact q.2); omega
      refine x_r [(1, .dec true)] [0, 1, 5, 6, 7, 32] [] [.ptr false [I l.Nodes, slEdge false l.Edges], .ptr false [slEntry false lx.Entries], slFound true out, I i, I v_1, Bv true] [] [v_1 < 0] ⟨h2, trivial⟩ ?_
      refine xe_then ?_
      refine x_true rfl ?_
      refine x_exit ?_
      refine xe_exit_then ?_
      refine xe_exit_same ?_
      refine xe_then ?_
      refine x_r [] [0, 1, 5, 6] [] [.ptr false [I l.Nodes, slEdge false l.Edges], .ptr false [slEntry false lx.Entries], slFound true out, I (i + 1)] [] [inR .i64 (i + 1)] ⟨(inR_i64 (by first | omega | (simp; omega)) (by first | omega | (simp; omega))), trivial⟩ ?_
      exact xe_again (out, (i + 1)) rfl (show (0 ≤ (i + 1) ∧ (i + 1) ≤ (lx.Entries.length : Int)) ∧ (out.Perm (rdI l lx (i + 1).toNat)) ∧ (out.Pairwise fun x y => x.Path + x.Own ≤ y.Path + y.Own) ∧ True from ⟨(by omega), (by first | (rw [hii, rdI_n htq]; exact hpm) | (rw [hii]; exact (fl_step (k := k.toNat) hpm hpw htq.1 htq.2 (by omega) hlo (fun j h1 h2 => hhi j (by omega) h2)).1)), (by first | exact hpw | exact (fl_step (k := k.toNat) hpm hpw htq.1 htq.2 (by omega) hlo (fun j h1 h2 => hhi j (by omega) h2)).2), trivial⟩) (by first | (show (((lx.Entries.length : Int) - (i + 1)).toNat : Nat) < ((lx.Entries.length : Int) - i).toNat; omega) | (dsimp only; omega))
     have htq : v_1 = tcF l (at_ lx.Entries i.toNat).Word ∧ tcF l (at_ lx.Entries i.toNat).Word < 1099511627776 := by rcases htc with q | q; omega; exact q.2
     have hrb := (rdA_ok hl hx ((rdI_mem _ (Nat.le_refl _)).2 ⟨i.toNat, hi, htq.2, rfl⟩)).1.2.2.2
     dsimp only at hrb
     rw [← htq.1] at hrb
     refine x_r [(1, .dec false)] [0, 1, 5, 6, 7, 32] [] [.ptr false [I l.Nodes, slEdge false l.Edges], .ptr false [slEntry false lx.Entries], slFound true out, I i, I v_1, Bv false] [] [¬ (v_1 < 0)] ⟨h2, trivial⟩ ?_
     refine xe_then ?_
     refine x_false rfl ?_
     refine x_skip ?_
     refine xe_then ?_
     refine xR [(18, .new 8)] [0, 1, 5, 6, 8] [8] [.ptr false [I l.Nodes, slEdge false l.Edges], .ptr false [slEntry false lx.Entries], slFound true out, I i, .ref 8 0] [some (.box [Sv ((at_ lx.Entries i.toNat).Word), I v_1, I ((at_ lx.Entries i.toNat).Cost)])] [(0 : Int) ≤ i ∧ i < (lx.Entries.length : Int), (0 : Int) ≤ i ∧ i < (lx.Entries.length : Int)] ⟨⟨(by first | omega | (simp; omega)), (by first | omega | (simp; omega))⟩, ⟨(by first | omega | (simp; omega)), (by first | omega | (simp; omega))⟩, trivial⟩ ?_
     refine xR [] [0, 1, 5, 6, 8, 9] [8] [.ptr false [I l.Nodes, slEdge false l.Edges], .ptr false [slEntry false lx.Entries], slFound true out, I i, .ref 8 0, I (out.length : Int)] [some (.box [Sv ((at_ lx.Entries i.toNat).Word), I v_1, I ((at_ lx.Entries i.toNat).Cost)])] [] trivial ?_
     refine x_seq ?_
     refine x_block ?_
     refine x_loop (X := Int) (fun x => mkS [(0, .ptr false [I l.Nodes, slEdge false l.Edges]), (1, .ptr false [slEntry false lx.Entries]), (5, slFound true out), (6, I i), (8, .ref 8 0), (9, I x)] [(8, .box [Sv ((at_ lx.Entries i.toNat).Word), I v_1, I ((at_ lx.Entries i.toNat).Cost)])]) (fun x => (0 ≤ x ∧ x ≤ (out.length : Int)) ∧ (∀ j : Nat, x ≤ (j : Int) → j < out.length → v_1 + (at_ lx.Entries i.toNat).Cost ≤ (at_ out j).Path + (at_ out j).Own) ∧ True) (fun x => x.toNat) (out.length : Int) rfl (show (0 ≤ (out.length : Int) ∧ (out.length : Int) ≤ (out.length : Int)) ∧ (∀ j : Nat, (out.length : Int) ≤ (j : Int) → j < out.length → v_1 + (at_ lx.Entries i.toNat).Cost ≤ (at_ out j).Path + (at_ out j).Own) ∧ True from ⟨(by omega), (by intro j h1 h2; omega), trivial⟩) (fun x hI => ?_)
     obtain ⟨k, hxx⟩ : ∃ k : Int, k = x := ⟨x, rfl⟩
     subst hxx
     obtain ⟨hk0, hhi, _⟩ : (0 ≤ k ∧ k ≤ (out.length : Int)) ∧ (∀ j : Nat, k ≤ (j : Int) → j < out.length → v_1 + (at_ lx.Entries i.toNat).Cost ≤ (at_ out j).Path + (at_ out j).Own) ∧ True := hI
     show XW _ _ _ _ (mkS [(0, .ptr false [I l.Nodes, slEdge false l.Edges]), (1, .ptr false [slEntry false lx.Entries]), (5, slFound true out), (6, I i), (8, .ref 8 0), (9, I k)] [(8, .box [Sv ((at_ lx.Entries i.toNat).Word), I v_1, I ((at_ lx.Entries i.toNat).Cost)])]) _ _
     refine x_seq ?_
     refine x_seq ?_
     by_cases h3 : 0 < k
     ·have hkl : (k - 1).toNat < out.length := by omega
      have hob := out_bd hl hx (by omega) hpm hkl
      rcases Bool.eq_false_or_eq_true (decide (cmpR (rq_ (Found.mk ((at_ lx.Entries i.toNat).Word) v_1 ((at_ lx.Entries i.toNat).Cost))) (rq_ (at_ out ((k - 1).toNat))) < 0)) with h4 | h4
      ·have hbf := bf_le (of_decide_eq_true h4)
       dsimp only at hbf
       refine x_r [(1, .dec true), (9, .call [(true, .any), (true, .any)] true (Bv true))] [0, 1, 5, 6, 8, 9, 63] [8] [.ptr false [I l.Nodes, slEdge false l.Edges], .ptr false [slEntry false lx.Entries], slFound true out, I i, .ref 8 0, I k, Bv true] [some (.box [Sv ((at_ lx.Entries i.toNat).Word), I v_1, I ((at_ lx.Entries i.toNat).Cost)])] [0 < k, inR .i64 (k - 1), (0 : Int) ≤ (k - 1) ∧ (k - 1) < (out.length : Int), Con Tryz.prog 48 [.agg [Sv ((at_ lx.Entries i.toNat).Word), I v_1, I ((at_ lx.Entries i.toNat).Cost)], agFound (at_ out ((k - 1).toNat))] true (Bv true) ∧ True] ⟨h3, (inR_i64 (by first | omega | (simp; omega)) (by first | omega | (simp; omega))), ⟨(by first | omega | (simp; omega)), (by first | omega | (simp; omega))⟩, ⟨(con_bool h4 (l16Before_ok (Found.mk ((at_ lx.Entries i.toNat).Word) v_1 ((at_ lx.Entries i.toNat).Cost)) (at_ out ((k - 1).toNat)) (by first | exact hrb | (dsimp only; exact hrb) | (dsimp only; omega)) hob)), trivial⟩, trivial⟩ ?_
       refine xe_then ?_
       refine x_true rfl ?_
       refine x_skip ?_
       refine xe_then ?_
       refine x_block ?_
       refine x_r [] [0, 1, 5, 6, 8, 9] [8] [.ptr false [I l.Nodes, slEdge false l.Edges], .ptr false [slEntry false lx.Entries], slFound true out, I i, .ref 8 0, I (k - 1)] [some (.box [Sv ((at_ lx.Entries i.toNat).Word), I v_1, I ((at_ lx.Entries i.toNat).Cost)])] [inR .i64 (k - 1)] ⟨(inR_i64 (by first | omega | (simp; omega)) (by first | omega | (simp; omega))), trivial⟩ ?_
       refine xe_block 3 ?_
       exact xe_again (k - 1) rfl (show (0 ≤ (k - 1) ∧ (k - 1) ≤ (out.length : Int)) ∧ (∀ j : Nat, (k - 1) ≤ (j : Int) → j < out.length → v_1 + (at_ lx.Entries i.toNat).Cost ≤ (at_ out j).Path + (at_ out j).Own) ∧ True from ⟨(by omega), (by intro j h1 h2; by_cases ej : (j : Int) = k - 1; (rw [show j = (k - 1).toNat from by omega]; exact hbf); exact hhi j (by omega) h2), trivial⟩) (by first | (show ((k - 1).toNat : Nat) < k.toNat; omega) | (dsimp only; omega))
      have hbf := bf_ge (of_decide_eq_false h4)
      dsimp only at hbf
      have hlo : k.toNat = 0 ∨ (at_ out (k.toNat - 1)).Path + (at_ out (k.toNat - 1)).Own ≤ v_1 + (at_ lx.Entries i.toNat).Cost := .inr (by rw [show k.toNat - 1 = (k - 1).toNat from by omega]; exact hbf)
      refine x_r [(1, .dec true), (9, .call [(true, .any), (true, .any)] true (Bv false))] [0, 1, 5, 6, 8, 9, 63] [8] [.ptr false [I l.Nodes, slEdge false l.Edges], .ptr false [slEntry false lx.Entries], slFound true out, I i, .ref 8 0, I k, Bv false] [some (.box [Sv ((at_ lx.Entries i.toNat).Word), I v_1, I ((at_ lx.Entries i.toNat).Cost)])] [0 < k, inR .i64 (k - 1), (0 : Int) ≤ (k - 1) ∧ (k - 1) < (out.length : Int), Con Tryz.prog 48 [.agg [Sv ((at_ lx.Entries i.toNat).Word), I v_1, I ((at_ lx.Entries i.toNat).Cost)], agFound (at_ out ((k - 1).toNat))] true (Bv false) ∧ True] ⟨h3, (inR_i64 (by first | omega | (simp; omega)) (by first | omega | (simp; omega))), ⟨(by first | omega | (simp; omega)), (by first | omega | (simp; omega))⟩, ⟨(con_bool h4 (l16Before_ok (Found.mk ((at_ lx.Entries i.toNat).Word) v_1 ((at_ lx.Entries i.toNat).Cost)) (at_ out ((k - 1).toNat)) (by first | exact hrb | (dsimp only; exact hrb) | (dsimp only; omega)) hob)), trivial⟩, trivial⟩ ?_
      refine xe_then ?_
      refine x_false rfl ?_
      refine x_exit ?_
      refine xe_exit_then ?_
      refine xe_loop_exit ?_
      refine xe_exit_same ?_
      refine xe_then ?_
      refine xR [(0, .new 66), (4, .new 70)] [0, 1, 5, 6, 8, 9, 10] [8, 70] [.ptr false [I l.Nodes, slEdge false l.Edges], .ptr false [slEntry false lx.Entries], slFound true out, I i, .ref 8 0, I k, .arr 70] [some (.box [Sv ((at_ lx.Entries i.toNat).Word), I v_1, I ((at_ lx.Entries i.toNat).Cost)]), some (.arr 3 (0 + (k.toNat - 0)) (catF 0 (litF [] 3) (cutF 0 (fFound out))))] [(0 : Int) ≤ 0 ∧ (0 : Int) ≤ k ∧ k ≤ (out.length : Int), (0 + (k.toNat - 0)) * 32 ≤ 140737488355328] ⟨⟨(by first | omega | (simp; omega)), (by first | omega | (simp; omega)), (by first | omega | (simp; omega))⟩, (by first | omega | (simp; omega)), trivial⟩ ?_
      refine xR [(2, .new 73), (3, .new 74)] [0, 1, 5, 6, 9, 10] [74] [.ptr false [I l.Nodes, slEdge false l.Edges], .ptr false [slEntry false lx.Entries], slFound true out, I i, I k, .arr 74] [some (.arr 3 ((0 + (k.toNat - 0)) + 1) (catF (0 + (k.toNat - 0)) (catF 0 (litF [] 3) (cutF 0 (fFound out))) (litF [Sv ((at_ lx.Entries i.toNat).Word), I v_1, I ((at_ lx.Entries i.toNat).Cost)] 3)))] [((0 + (k.toNat - 0)) + 1) * 32 ≤ 140737488355328] ⟨(by first | omega | (simp; omega)), trivial⟩ ?_
      refine x_r [(4, .new 79)] [0, 1, 5, 6] [79] [.ptr false [I l.Nodes, slEdge false l.Edges], .ptr false [slEntry false lx.Entries], .arr 79, I i] [some (.arr 3 (((0 + (k.toNat - 0)) + 1) + ((out.length : Int).toNat - k.toNat)) (catF ((0 + (k.toNat - 0)) + 1) (catF (0 + (k.toNat - 0)) (catF 0 (litF [] 3) (cutF 0 (fFound out))) (litF [Sv ((at_ lx.Entries i.toNat).Word), I v_1, I ((at_ lx.Entries i.toNat).Cost)] 3)) (cutF k.toNat (fFound out))))] [(0 : Int) ≤ k ∧ k ≤ (out.length : Int) ∧ (out.length : Int) ≤ (out.length : Int), (((0 + (k.toNat - 0)) + 1) + ((out.length : Int).toNat - k.toNat)) * 32 ≤ 140737488355328] ⟨⟨(by first | omega | (simp; omega)), (by first | omega | (simp; omega)), (by first | omega | (simp; omega))⟩, (by first | omega | (simp; omega)), trivial⟩ ?_
      refine xe_block 1 ?_
      refine xe_then ?_
      refine x_r [] [0, 1, 5, 6] [79] [.ptr false [I l.Nodes, slEdge false l.Edges], .ptr false [slEntry false lx.Entries], .arr 79, I (i + 1)] [some (.arr 3 (((0 + (k.toNat - 0)) + 1) + ((out.length : Int).toNat - k.toNat)) (catF ((0 + (k.toNat - 0)) + 1) (catF (0 + (k.toNat - 0)) (catF 0 (litF [] 3) (cutF 0 (fFound out))) (litF [Sv ((at_ lx.Entries i.toNat).Word), I v_1, I ((at_ lx.Entries i.toNat).Cost)] 3)) (cutF k.toNat (fFound out))))] [inR .i64 (i + 1)] ⟨(inR_i64 (by first | omega | (simp; omega)) (by first | omega | (simp; omega))), trivial⟩ ?_
      refine xe_weak [] (T := [(0, .ptr false [I l.Nodes, slEdge false l.Edges]), (1, .ptr false [slEntry false lx.Entries]), (5, slFound true (((out.take k.toNat) ++ [(Found.mk ((at_ lx.Entries i.toNat).Word) v_1 ((at_ lx.Entries i.toNat).Cost))]) ++ (out.drop k.toNat))), (6, I (i + 1))]) (O := []) rfl (⟨.inl rfl, .inl rfl, .inr ⟨(fun _ => rfl), rfl, (by first | rfl | (simp; done) | (simp; omega) | omega), fun i_ hi_ => .inl (cat_two (enc := cFound) (xs := ((out.take k.toNat) ++ [(Found.mk ((at_ lx.Entries i.toNat).Word) v_1 ((at_ lx.Entries i.toNat).Cost))])) (ys := (out.drop k.toNat)) (by first | rfl | (simp; done) | (simp; omega)) (fun i_ hi_ => (cat_two (enc := cFound) (xs := (out.take k.toNat)) (ys := [(Found.mk ((at_ lx.Entries i.toNat).Word) v_1 ((at_ lx.Entries i.toNat).Cost))]) (by first | rfl | (simp; done) | (simp; omega)) (fun i_ hi_ => ((cat_nil i_).trans ((fun i_ hi_ => (cut_take (enc := cFound) hi_)) i_ hi_))) (fun i_ hi_ => (match i_, hi_ with | 0, _ => rfl | (i + 1), h => absurd h (by simp))) i_ hi_)) (fun i_ hi_ => (cut_drop (enc := cFound) hi_)) i_ hi_)⟩, .inl rfl, trivial⟩) (trivial) (xe_again ((((out.take k.toNat) ++ [(Found.mk ((at_ lx.Entries i.toNat).Word) v_1 ((at_ lx.Entries i.toNat).Cost))]) ++ (out.drop k.toNat)), (i + 1)) rfl (show (0 ≤ (i + 1) ∧ (i + 1) ≤ (lx.Entries.length : Int)) ∧ ((((out.take k.toNat) ++ [(Found.mk ((at_ lx.Entries i.toNat).Word) v_1 ((at_ lx.Entries i.toNat).Cost))]) ++ (out.drop k.toNat)).Perm (rdI l lx (i + 1).toNat)) ∧ ((((out.take k.toNat) ++ [(Found.mk ((at_ lx.Entries i.toNat).Word) v_1 ((at_ lx.Entries i.toNat).Cost))]) ++ (out.drop k.toNat)).Pairwise fun x y => x.Path + x.Own ≤ y.Path + y.Own) ∧ True from ⟨(by omega), (by first | (rw [hii, rdI_n htq]; exact hpm) | (rw [hii]; exact (fl_step (k := k.toNat) hpm hpw htq.1 htq.2 (by omega) hlo (fun j h1 h2 => hhi j (by omega) h2)).1)), (by first | exact hpw | exact (fl_step (k := k.toNat) hpm hpw htq.1 htq.2 (by omega) hlo (fun j h1 h2 => hhi j (by omega) h2)).2), trivial⟩) (by first | (show (((lx.Entries.length : Int) - (i + 1)).toNat : Nat) < ((lx.Entries.length : Int) - i).toNat; omega) | (dsimp only; omega)))
     have hlo : k.toNat = 0 ∨ (at_ out (k.toNat - 1)).Path + (at_ out (k.toNat - 1)).Own ≤ v_1 + (at_ lx.Entries i.toNat).Cost := .inl (by omega)
     refine x_r [(1, .dec false)] [0, 1, 5, 6, 8, 9, 63] [8] [.ptr false [I l.Nodes, slEdge false l.Edges], .ptr false [slEntry false lx.Entries], slFound true out, I i, .ref 8 0, I k, Bv false] [some (.box [Sv ((at_ lx.Entries i.toNat).Word), I v_1, I ((at_ lx.Entries i.toNat).Cost)])] [¬ (0 < k)] ⟨h3, trivial⟩ ?_
     refine xe_then ?_
     refine x_false rfl ?_
     refine x_exit ?_
     refine xe_exit_then ?_
     refine xe_loop_exit ?_
     refine xe_exit_same ?_
     refine xe_then ?_
     refine xR [(0, .new 66), (4, .new 70)] [0, 1, 5, 6, 8, 9, 10] [8, 70] [.ptr false [I l.Nodes, slEdge false l.Edges], .ptr false [slEntry false lx.Entries], slFound true out, I i, .ref 8 0, I k, .arr 70] [some (.box [Sv ((at_ lx.Entries i.toNat).Word), I v_1, I ((at_ lx.Entries i.toNat).Cost)]), some (.arr 3 (0 + (k.toNat - 0)) (catF 0 (litF [] 3) (cutF 0 (fFound out))))] [(0 : Int) ≤ 0 ∧ (0 : Int) ≤ k ∧ k ≤ (out.length : Int), (0 + (k.toNat - 0)) * 32 ≤ 140737488355328] ⟨⟨(by first | omega | (simp; omega)), (by first | omega | (simp; omega)), (by first | omega | (simp; omega))⟩, (by first | omega | (simp; omega)), trivial⟩ ?_
     refine xR [(2, .new 73), (3, .new 74)] [0, 1, 5, 6, 9, 10] [74] [.ptr false [I l.Nodes, slEdge false l.Edges], .ptr false [slEntry false lx.Entries], slFound true out, I i, I k, .arr 74] [some (.arr 3 ((0 + (k.toNat - 0)) + 1) (catF (0 + (k.toNat - 0)) (catF 0 (litF [] 3) (cutF 0 (fFound out))) (litF [Sv ((at_ lx.Entries i.toNat).Word), I v_1, I ((at_ lx.Entries i.toNat).Cost)] 3)))] [((0 + (k.toNat - 0)) + 1) * 32 ≤ 140737488355328] ⟨(by first | omega | (simp; omega)), trivial⟩ ?_
     refine x_r [(4, .new 79)] [0, 1, 5, 6] [79] [.ptr false [I l.Nodes, slEdge false l.Edges], .ptr false [slEntry false lx.Entries], .arr 79, I i] [some (.arr 3 (((0 + (k.toNat - 0)) + 1) + ((out.length : Int).toNat - k.toNat)) (catF ((0 + (k.toNat - 0)) + 1) (catF (0 + (k.toNat - 0)) (catF 0 (litF [] 3) (cutF 0 (fFound out))) (litF [Sv ((at_ lx.Entries i.toNat).Word), I v_1, I ((at_ lx.Entries i.toNat).Cost)] 3)) (cutF k.toNat (fFound out))))] [(0 : Int) ≤ k ∧ k ≤ (out.length : Int) ∧ (out.length : Int) ≤ (out.length : Int), (((0 + (k.toNat - 0)) + 1) + ((out.length : Int).toNat - k.toNat)) * 32 ≤ 140737488355328] ⟨⟨(by first | omega | (simp; omega)), (by first | omega | (simp; omega)), (by first | omega | (simp; omega))⟩, (by first | omega | (simp; omega)), trivial⟩ ?_
     refine xe_block 1 ?_
     refine xe_then ?_
     refine x_r [] [0, 1, 5, 6] [79] [.ptr false [I l.Nodes, slEdge false l.Edges], .ptr false [slEntry false lx.Entries], .arr 79, I (i + 1)] [some (.arr 3 (((0 + (k.toNat - 0)) + 1) + ((out.length : Int).toNat - k.toNat)) (catF ((0 + (k.toNat - 0)) + 1) (catF (0 + (k.toNat - 0)) (catF 0 (litF [] 3) (cutF 0 (fFound out))) (litF [Sv ((at_ lx.Entries i.toNat).Word), I v_1, I ((at_ lx.Entries i.toNat).Cost)] 3)) (cutF k.toNat (fFound out))))] [inR .i64 (i + 1)] ⟨(inR_i64 (by first | omega | (simp; omega)) (by first | omega | (simp; omega))), trivial⟩ ?_
     refine xe_weak [] (T := [(0, .ptr false [I l.Nodes, slEdge false l.Edges]), (1, .ptr false [slEntry false lx.Entries]), (5, slFound true (((out.take k.toNat) ++ [(Found.mk ((at_ lx.Entries i.toNat).Word) v_1 ((at_ lx.Entries i.toNat).Cost))]) ++ (out.drop k.toNat))), (6, I (i + 1))]) (O := []) rfl (⟨.inl rfl, .inl rfl, .inr ⟨(fun _ => rfl), rfl, (by first | rfl | (simp; done) | (simp; omega) | omega), fun i_ hi_ => .inl (cat_two (enc := cFound) (xs := ((out.take k.toNat) ++ [(Found.mk ((at_ lx.Entries i.toNat).Word) v_1 ((at_ lx.Entries i.toNat).Cost))])) (ys := (out.drop k.toNat)) (by first | rfl | (simp; done) | (simp; omega)) (fun i_ hi_ => (cat_two (enc := cFound) (xs := (out.take k.toNat)) (ys := [(Found.mk ((at_ lx.Entries i.toNat).Word) v_1 ((at_ lx.Entries i.toNat).Cost))]) (by first | rfl | (simp; done) | (simp; omega)) (fun i_ hi_ => ((cat_nil i_).trans ((fun i_ hi_ => (cut_take (enc := cFound) hi_)) i_ hi_))) (fun i_ hi_ => (match i_, hi_ with | 0, _ => rfl | (i + 1), h => absurd h (by simp))) i_ hi_)) (fun i_ hi_ => (cut_drop (enc := cFound) hi_)) i_ hi_)⟩, .inl rfl, trivial⟩) (trivial) (xe_again ((((out.take k.toNat) ++ [(Found.mk ((at_ lx.Entries i.toNat).Word) v_1 ((at_ lx.Entries i.toNat).Cost))]) ++ (out.drop k.toNat)), (i + 1)) rfl (show (0 ≤ (i + 1) ∧ (i + 1) ≤ (lx.Entries.length : Int)) ∧ ((((out.take k.toNat) ++ [(Found.mk ((at_ lx.Entries i.toNat).Word) v_1 ((at_ lx.Entries i.toNat).Cost))]) ++ (out.drop k.toNat)).Perm (rdI l lx (i + 1).toNat)) ∧ ((((out.take k.toNat) ++ [(Found.mk ((at_ lx.Entries i.toNat).Word) v_1 ((at_ lx.Entries i.toNat).Cost))]) ++ (out.drop k.toNat)).Pairwise fun x y => x.Path + x.Own ≤ y.Path + y.Own) ∧ True from ⟨(by omega), (by first | (rw [hii, rdI_n htq]; exact hpm) | (rw [hii]; exact (fl_step (k := k.toNat) hpm hpw htq.1 htq.2 (by omega) hlo (fun j h1 h2 => hhi j (by omega) h2)).1)), (by first | exact hpw | exact (fl_step (k := k.toNat) hpm hpw htq.1 htq.2 (by omega) hlo (fun j h1 h2 => hhi j (by omega) h2)).2), trivial⟩) (by first | (show (((lx.Entries.length : Int) - (i + 1)).toNat : Nat) < ((lx.Entries.length : Int) - i).toNat; omega) | (dsimp only; omega)))
    have hie : i.toNat = lx.Entries.length := by omega
    have hrl := rdI_len l lx i.toNat
    have hpl := hpm.length_eq
    refine x_r [(6, .dec false)] [0, 1, 5, 6, 18] [] [.ptr false [I l.Nodes, slEdge false l.Edges], .ptr false [slEntry false lx.Entries], slFound true out, I i, Bv false] [] [¬ (i < (lx.Entries.length : Int))] ⟨h1, trivial⟩ ?_
    refine xe_then ?_
    refine x_false rfl ?_
    refine x_exit ?_
    refine xe_exit_then ?_
    refine xe_loop_exit ?_
    refine xe_exit_same ?_
    refine xe_then ?_
    refine xR [] [4] [] [slFound true out] [] [] trivial ?_
    refine x_ret ?_
    refine xe_end out (show (out.Perm (rdA l lx)) ∧ (out.Pairwise fun x_ y_ => x_.Path + x_.Own ≤ y_.Path + y_.Own) ∧ (True) from ⟨(by (rw [hie] at hpm; exact hpm)), (by exact hpw), trivial⟩) (trivial) (slFound true out) (by kernel_rfl) (.inl rfl) (fun _ => rfl) (fun _ => (tagFound true _))
  obtain ⟨v, ⟨hh0, hh1, _⟩, hc⟩ := hh
  exact ⟨v, hh0, hh1, hc⟩



-- spec.FindWord
theorem specFindWord_ok (l : Lattice) (lx : Lexicon) (hl : okLat l) (hx : okLex lx) : ∃ (v : Found) (c : Int), ((c = 0 ∧ v ∈ rdA l lx ∧ ∀ f ∈ rdA l lx, v.Path + v.Own ≤ f.Path + f.Own) ∨ (c = 3 ∧ (rdA l lx).length = 0)) ∧ Con Tryz.prog 9 [agLattice l, .agg [slEntry false lx.Entries]] true (.tup [agFound v, I c]) := by
  have hc := hx.1
  have hh : ∃ r : Found × Int, (((r.2 = 0 ∧ r.1 ∈ rdA l lx ∧ ∀ f ∈ rdA l lx, r.1.Path + r.1.Own ≤ f.Path + f.Own) ∨ (r.2 = 3 ∧ (rdA l lx).length = 0)) ∧ (True)) ∧ CallOK Tryz.prog 9 [agLattice l, .agg [slEntry false lx.Entries]] (lookO []) true (.tup [agFound r.1, I r.2]) (lookO []) := by
    refine fn_okX (Φ := fun r : Found × Int => ((r.2 = 0 ∧ r.1 ∈ rdA l lx ∧ ∀ f ∈ rdA l lx, r.1.Path + r.1.Own ≤ f.Path + f.Own) ∨ (r.2 = 3 ∧ (rdA l lx).length = 0)) ∧ (True)) [] (fun r => []) (fn := Tryz.f9) (nt := 22) Tryz.func9 rfl rfl (args := [agLattice l, .agg [slEntry false lx.Entries]]) rfl (allcons (.inl ⟨rfl, by simp [tagged, taggedL, tagEdge]⟩) (allcons (.inl ⟨rfl, by simp [tagged, taggedL, tagEntry]⟩) allnil)) (res := fun r => .tup [agFound r.1, I r.2]) ?_
    refine xR [(0, .new 2), (1, .new 3), (2, .new 4)] [2, 3, 4] [2, 3, 4] [.ref 2 0, .ref 3 0, .ref 4 0] [some (bxLattice l), some (.box [slEntry false lx.Entries]), some (.box [Sv (⟨#[]⟩ : ByteArray), I 0, I 0])] [] trivial ?_
    refine x_seq ?_
    refine xR [(0, .call [(false, .ptr false [I l.Nodes, slEdge false l.Edges])] true (Bv true)), (3, .call [(false, .ptr false [slEntry false lx.Entries])] true (Bv true))] [2, 3, 4, 12] [2, 3, 4] [.ref 2 0, .ref 3 0, .ref 4 0, Bv false] [some (bxLattice l), some (.box [slEntry false lx.Entries]), some (.box [Sv (⟨#[]⟩ : ByteArray), I 0, I 0])] [Con Tryz.prog 22 [.ptr false [I l.Nodes, slEdge false l.Edges]] true (Bv true) ∧ ((false = true → true = true) ∧ AV.idsL [I l.Nodes, slEdge false l.Edges] = [] ∧ (valOf (I l.Nodes) = valOf (I l.Nodes)) ∧ ((false = true → false = true) ∧ 4 = 4 ∧ l.Edges.length = l.Edges.length ∧ ∀ i_, i_ < l.Edges.length → (fEdge l.Edges) i_ = (fEdge l.Edges) i_ ∨ (AV.idsL ((fEdge l.Edges) i_) = [] ∧ leL (fun _ => none) false ((fEdge l.Edges) i_) ((fEdge l.Edges) i_))) ∧ ([] : List AV) = []) ∧ True, Con Tryz.prog 23 [.ptr false [slEntry false lx.Entries]] true (Bv true) ∧ ((false = true → true = true) ∧ AV.idsL [slEntry false lx.Entries] = [] ∧ ((false = true → false = true) ∧ 2 = 2 ∧ lx.Entries.length = lx.Entries.length ∧ ∀ i_, i_ < lx.Entries.length → (fEntry lx.Entries) i_ = (fEntry lx.Entries) i_ ∨ (AV.idsL ((fEntry lx.Entries) i_) = [] ∧ leL (fun _ => none) false ((fEntry lx.Entries) i_) ((fEntry lx.Entries) i_))) ∧ ([] : List AV) = []) ∧ True] ⟨⟨(l15Ok_ok l hl), ⟨(fun h => by cases h), rfl, ⟨rfl, ⟨⟨(fun h => by cases h), rfl, rfl, fun i _ => .inl rfl⟩, rfl⟩⟩⟩, trivial⟩, ⟨(l16Ok_ok lx hx), ⟨(fun h => by cases h), rfl, ⟨⟨(fun h => by cases h), rfl, rfl, fun i _ => .inl rfl⟩, rfl⟩⟩, trivial⟩, trivial⟩ ?_
    refine x_false rfl ?_
    refine x_skip ?_
    refine xe_then ?_
    refine x_seq ?_
    obtain ⟨v_1, hx1_0, hx1_1, hc1⟩ := l16All_ok l lx hl hx
    have hpm := hx1_0
    have hpw := hx1_1
    have hpl := hpm.length_eq
    have hrl := rdI_len l lx lx.Entries.length
    have hrl2 : (rdA l lx).length ≤ lx.Entries.length := hrl
    refine x_r [(0, .call [(false, .ptr false [I l.Nodes, slEdge false l.Edges]), (false, .ptr false [slEntry false lx.Entries])] true (slFound true v_1))] [4, 6] [4] [.ref 4 0, slFound true v_1] [some (.box [Sv (⟨#[]⟩ : ByteArray), I 0, I 0])] [Con Tryz.prog 24 [.ptr false [I l.Nodes, slEdge false l.Edges], .ptr false [slEntry false lx.Entries]] true (slFound true v_1) ∧ ((false = true → true = true) ∧ AV.idsL [I l.Nodes, slEdge false l.Edges] = [] ∧ (valOf (I l.Nodes) = valOf (I l.Nodes)) ∧ ((false = true → false = true) ∧ 4 = 4 ∧ l.Edges.length = l.Edges.length ∧ ∀ i_, i_ < l.Edges.length → (fEdge l.Edges) i_ = (fEdge l.Edges) i_ ∨ (AV.idsL ((fEdge l.Edges) i_) = [] ∧ leL (fun _ => none) false ((fEdge l.Edges) i_) ((fEdge l.Edges) i_))) ∧ ([] : List AV) = []) ∧ ((false = true → true = true) ∧ AV.idsL [slEntry false lx.Entries] = [] ∧ ((false = true → false = true) ∧ 2 = 2 ∧ lx.Entries.length = lx.Entries.length ∧ ∀ i_, i_ < lx.Entries.length → (fEntry lx.Entries) i_ = (fEntry lx.Entries) i_ ∨ (AV.idsL ((fEntry lx.Entries) i_) = [] ∧ leL (fun _ => none) false ((fEntry lx.Entries) i_) ((fEntry lx.Entries) i_))) ∧ ([] : List AV) = []) ∧ True] ⟨⟨hc1, ⟨(fun h => by cases h), rfl, ⟨rfl, ⟨⟨(fun h => by cases h), rfl, rfl, fun i _ => .inl rfl⟩, rfl⟩⟩⟩, ⟨(fun h => by cases h), rfl, ⟨⟨(fun h => by cases h), rfl, rfl, fun i _ => .inl rfl⟩, rfl⟩⟩, trivial⟩, trivial⟩ ?_
    refine xe_then ?_
    refine x_seq ?_
    refine x_seq ?_
    by_cases h1 : (v_1.length : Int) = 0
    ·refine x_r [(2, .dec true)] [4, 6, 17] [4] [.ref 4 0, slFound true v_1, Bv true] [some (.box [Sv (⟨#[]⟩ : ByteArray), I 0, I 0])] [(v_1.length : Int) = 0] ⟨h1, trivial⟩ ?_
     refine xe_then ?_
     refine x_true rfl ?_
     refine xR [] [4, 5] [4] [.ref 4 0, I 3] [some (.box [Sv (⟨#[]⟩ : ByteArray), I 0, I 0])] [] trivial ?_
     refine x_ret ?_
     refine xe_ret_then ?_
     refine xe_end ((Found.mk (⟨#[]⟩ : ByteArray) 0 0), 3) (show ((3 = 0 ∧ (Found.mk (⟨#[]⟩ : ByteArray) 0 0) ∈ rdA l lx ∧ ∀ f ∈ rdA l lx, (Found.mk (⟨#[]⟩ : ByteArray) 0 0).Path + (Found.mk (⟨#[]⟩ : ByteArray) 0 0).Own ≤ f.Path + f.Own) ∨ (3 = 3 ∧ (rdA l lx).length = 0)) ∧ (True) from ⟨(by first | exact .inr ⟨rfl, by omega⟩ | exact .inl ⟨rfl, hpm.mem_iff.1 (at_mem (by omega)), fun f hf => by obtain ⟨j, hj, q⟩ := List.getElem_of_mem (hpm.mem_iff.2 hf); by_cases ej : j = 0; (subst ej; rw [at_eq hj, q]; exact Int.le_refl _); (rw [← q, ← at_eq hj]; exact pw_get hpw (show 0 < j by omega) hj)⟩), trivial⟩) (trivial) (.tup [.agg [Sv (⟨#[]⟩ : ByteArray), I 0, I 0], I 3]) (by kernel_rfl) (.inl rfl) (fun _ => rfl) (fun _ => (by simp [tagged, taggedL]))
    refine x_r [(2, .dec false)] [4, 6, 17] [4] [.ref 4 0, slFound true v_1, Bv false] [some (.box [Sv (⟨#[]⟩ : ByteArray), I 0, I 0])] [¬ ((v_1.length : Int) = 0)] ⟨h1, trivial⟩ ?_
    refine xe_then ?_
    refine x_false rfl ?_
    refine x_skip ?_
    refine xe_then ?_
    refine xR [] [4, 5] [4] [.ref 4 0, I 0] [some (bxFound (at_ v_1 0))] [(0 : Int) ≤ 0 ∧ 0 < (v_1.length : Int)] ⟨⟨(by omega), (by omega)⟩, trivial⟩ ?_
    refine x_ret ?_
    refine xe_end ((at_ v_1 0), 0) (show ((0 = 0 ∧ (at_ v_1 0) ∈ rdA l lx ∧ ∀ f ∈ rdA l lx, (at_ v_1 0).Path + (at_ v_1 0).Own ≤ f.Path + f.Own) ∨ (0 = 3 ∧ (rdA l lx).length = 0)) ∧ (True) from ⟨(by first | exact .inr ⟨rfl, by omega⟩ | exact .inl ⟨rfl, hpm.mem_iff.1 (at_mem (by omega)), fun f hf => by obtain ⟨j, hj, q⟩ := List.getElem_of_mem (hpm.mem_iff.2 hf); by_cases ej : j = 0; (subst ej; rw [at_eq hj, q]; exact Int.le_refl _); (rw [← q, ← at_eq hj]; exact pw_get hpw (show 0 < j by omega) hj)⟩), trivial⟩) (trivial) (.tup [agFound (at_ v_1 0), I 0]) (by kernel_rfl) (.inl rfl) (fun _ => rfl) (fun _ => (by simp [tagged, taggedL]))
  obtain ⟨⟨v, c⟩, ⟨hh0, _⟩, hc⟩ := hh
  exact ⟨v, c, hh0, hc⟩



-- spec.TextCost
theorem specTextCost_ok (l : Lattice) (w : ByteArray) (hl : okLat l) (hw : w.size ≤ 1000) : ∃ (v : Int) (c : Int), ((c = 0 ∧ v = tcF l w ∧ tcF l w < 1099511627776) ∨ (c = 3 ∧ ¬ tcF l w < 1099511627776)) ∧ Con Tryz.prog 10 [agLattice l, Sv w] true (.tup [I v, I c]) := by
  have hh : ∃ r : Int × Int, (((r.2 = 0 ∧ r.1 = tcF l w ∧ tcF l w < 1099511627776) ∨ (r.2 = 3 ∧ ¬ tcF l w < 1099511627776)) ∧ (True)) ∧ CallOK Tryz.prog 10 [agLattice l, Sv w] (lookO []) true (.tup [I r.1, I r.2]) (lookO []) := by
    refine fn_okX (Φ := fun r : Int × Int => ((r.2 = 0 ∧ r.1 = tcF l w ∧ tcF l w < 1099511627776) ∨ (r.2 = 3 ∧ ¬ tcF l w < 1099511627776)) ∧ (True)) [] (fun r => []) (fn := Tryz.f10) (nt := 17) Tryz.func10 rfl rfl (args := [agLattice l, Sv w]) rfl (allcons (.inl ⟨rfl, by simp [tagged, taggedL, tagEdge]⟩) (allcons (.inl ⟨rfl, trivial⟩) allnil)) (res := fun r => .tup [I r.1, I r.2]) ?_
    refine xR [(0, .new 2)] [1, 2] [2] [Sv w, .ref 2 0] [some (bxLattice l)] [] trivial ?_
    refine x_seq ?_
    refine xR [(0, .call [(false, .ptr false [I l.Nodes, slEdge false l.Edges])] true (Bv true))] [1, 2, 8] [2] [Sv w, .ref 2 0, Bv false] [some (bxLattice l)] [Con Tryz.prog 22 [.ptr false [I l.Nodes, slEdge false l.Edges]] true (Bv true) ∧ ((false = true → true = true) ∧ AV.idsL [I l.Nodes, slEdge false l.Edges] = [] ∧ (valOf (I l.Nodes) = valOf (I l.Nodes)) ∧ ((false = true → false = true) ∧ 4 = 4 ∧ l.Edges.length = l.Edges.length ∧ ∀ i_, i_ < l.Edges.length → (fEdge l.Edges) i_ = (fEdge l.Edges) i_ ∨ (AV.idsL ((fEdge l.Edges) i_) = [] ∧ leL (fun _ => none) false ((fEdge l.Edges) i_) ((fEdge l.Edges) i_))) ∧ ([] : List AV) = []) ∧ True] ⟨⟨(l15Ok_ok l hl), ⟨(fun h => by cases h), rfl, ⟨rfl, ⟨⟨(fun h => by cases h), rfl, rfl, fun i _ => .inl rfl⟩, rfl⟩⟩⟩, trivial⟩, trivial⟩ ?_
    refine x_false rfl ?_
    refine x_skip ?_
    refine xe_then ?_
    refine x_seq ?_
    refine x_seq ?_
    by_cases h1 : 20 < (w.size : Int)
    ·have hlg := tcF_long hl (w := w) (by omega)
     refine x_r [(2, .dec true)] [1, 2, 11] [2] [Sv w, .ref 2 0, Bv true] [some (bxLattice l)] [20 < (w.size : Int)] ⟨h1, trivial⟩ ?_
     refine xe_then ?_
     refine x_true rfl ?_
     refine xR [] [4, 5] [] [I 0, I 3] [] [] trivial ?_
     refine x_ret ?_
     refine xe_ret_then ?_
     refine xe_end (0, 3) (show ((3 = 0 ∧ 0 = tcF l w ∧ tcF l w < 1099511627776) ∨ (3 = 3 ∧ ¬ tcF l w < 1099511627776)) ∧ (True) from ⟨(by first | exact .inr ⟨rfl, hlg⟩ | (rcases htc with q | q; (first | exact .inr ⟨rfl, q.2⟩ | omega); (first | exact .inl ⟨rfl, q.2.1, q.2.2⟩ | omega))), trivial⟩) (trivial) (.tup [I 0, I 3]) (by kernel_rfl) (.inl rfl) (fun _ => rfl) (fun _ => (by simp [tagged, taggedL]))
    refine x_r [(2, .dec false)] [1, 2, 11] [2] [Sv w, .ref 2 0, Bv false] [some (bxLattice l)] [¬ (20 < (w.size : Int))] ⟨h1, trivial⟩ ?_
    refine xe_then ?_
    refine x_false rfl ?_
    refine x_skip ?_
    refine xe_then ?_
    refine x_seq ?_
    obtain ⟨v_1, hx1_0, hc1⟩ := l15TextCost_ok l w hl (by omega)
    have htc := hx1_0
    refine x_r [(1, .call [(false, .ptr false [I l.Nodes, slEdge false l.Edges]), (true, .any)] true (I v_1))] [6] [] [I v_1] [] [Con Tryz.prog 25 [.ptr false [I l.Nodes, slEdge false l.Edges], Sv w] true (I v_1) ∧ ((false = true → true = true) ∧ AV.idsL [I l.Nodes, slEdge false l.Edges] = [] ∧ (valOf (I l.Nodes) = valOf (I l.Nodes)) ∧ ((false = true → false = true) ∧ 4 = 4 ∧ l.Edges.length = l.Edges.length ∧ ∀ i_, i_ < l.Edges.length → (fEdge l.Edges) i_ = (fEdge l.Edges) i_ ∨ (AV.idsL ((fEdge l.Edges) i_) = [] ∧ leL (fun _ => none) false ((fEdge l.Edges) i_) ((fEdge l.Edges) i_))) ∧ ([] : List AV) = []) ∧ True] ⟨⟨hc1, ⟨(fun h => by cases h), rfl, ⟨rfl, ⟨⟨(fun h => by cases h), rfl, rfl, fun i _ => .inl rfl⟩, rfl⟩⟩⟩, trivial⟩, trivial⟩ ?_
    refine xe_then ?_
    refine x_seq ?_
    refine x_seq ?_
    by_cases h2 : v_1 < 0
    ·refine x_r [(1, .dec true)] [6, 15] [] [I v_1, Bv true] [] [v_1 < 0] ⟨h2, trivial⟩ ?_
     refine xe_then ?_
     refine x_true rfl ?_
     refine xR [] [4, 5] [] [I 0, I 3] [] [] trivial ?_
     refine x_ret ?_
     refine xe_ret_then ?_
     refine xe_end (0, 3) (show ((3 = 0 ∧ 0 = tcF l w ∧ tcF l w < 1099511627776) ∨ (3 = 3 ∧ ¬ tcF l w < 1099511627776)) ∧ (True) from ⟨(by first | exact .inr ⟨rfl, hlg⟩ | (rcases htc with q | q; (first | exact .inr ⟨rfl, q.2⟩ | omega); (first | exact .inl ⟨rfl, q.2.1, q.2.2⟩ | omega))), trivial⟩) (trivial) (.tup [I 0, I 3]) (by kernel_rfl) (.inl rfl) (fun _ => rfl) (fun _ => (by simp [tagged, taggedL]))
    refine x_r [(1, .dec false)] [6, 15] [] [I v_1, Bv false] [] [¬ (v_1 < 0)] ⟨h2, trivial⟩ ?_
    refine xe_then ?_
    refine x_false rfl ?_
    refine x_skip ?_
    refine xe_then ?_
    refine xR [] [4, 5] [] [I v_1, I 0] [] [] trivial ?_
    refine x_ret ?_
    refine xe_end (v_1, 0) (show ((0 = 0 ∧ v_1 = tcF l w ∧ tcF l w < 1099511627776) ∨ (0 = 3 ∧ ¬ tcF l w < 1099511627776)) ∧ (True) from ⟨(by first | exact .inr ⟨rfl, hlg⟩ | (rcases htc with q | q; (first | exact .inr ⟨rfl, q.2⟩ | omega); (first | exact .inl ⟨rfl, q.2.1, q.2.2⟩ | omega))), trivial⟩) (trivial) (.tup [I v_1, I 0]) (by kernel_rfl) (.inl rfl) (fun _ => rfl) (fun _ => (by simp [tagged, taggedL]))
  obtain ⟨⟨v, c⟩, ⟨hh0, _⟩, hc⟩ := hh
  exact ⟨v, c, hh0, hc⟩



-- spec.l16Find
theorem l16Find_ok (lx : Lexicon) (word : ByteArray) (hc : lx.Entries.length ≤ 1000) : ∃ (v : Int), ((v = -1 ∧ ∀ j : Nat, j < lx.Entries.length → (at_ lx.Entries j).Word ≠ word) ∨ ((0 ≤ v ∧ v < (lx.Entries.length : Int)) ∧ (at_ lx.Entries v.toNat).Word = word)) ∧ Con Tryz.prog 26 [.ptr false [slEntry false lx.Entries], Sv word] true (I v) := by
  have hh : ∃ r : Int, (((r = -1 ∧ ∀ j : Nat, j < lx.Entries.length → (at_ lx.Entries j).Word ≠ word) ∨ ((0 ≤ r ∧ r < (lx.Entries.length : Int)) ∧ (at_ lx.Entries r.toNat).Word = word)) ∧ (True)) ∧ CallOK Tryz.prog 26 [.ptr false [slEntry false lx.Entries], Sv word] (lookO []) true (I r) (lookO []) := by
    refine fn_okX (Φ := fun r : Int => ((r = -1 ∧ ∀ j : Nat, j < lx.Entries.length → (at_ lx.Entries j).Word ≠ word) ∨ ((0 ≤ r ∧ r < (lx.Entries.length : Int)) ∧ (at_ lx.Entries r.toNat).Word = word)) ∧ (True)) [] (fun r => []) (fn := Tryz.f26) (nt := 26) Tryz.func26 rfl rfl (args := [.ptr false [slEntry false lx.Entries], Sv word]) rfl (allcons (.inl ⟨rfl, by simp [tagged, taggedL, tagEntry]⟩) (allcons (.inl ⟨rfl, trivial⟩) allnil)) (res := fun r => I r) ?_
    refine xR [] [0, 1] [] [.ptr false [slEntry false lx.Entries], Sv word] [] [] trivial ?_
    refine x_seq ?_
    refine xR [] [0, 1, 5] [] [.ptr false [slEntry false lx.Entries], Sv word, I 0] [] [] trivial ?_
    refine x_block ?_
    refine x_loop (X := Int) (fun x => mkS [(0, .ptr false [slEntry false lx.Entries]), (1, Sv word), (5, I x)] []) (fun x => (0 ≤ x ∧ x ≤ (lx.Entries.length : Int)) ∧ (∀ j : Nat, (j : Int) < x → (at_ lx.Entries j).Word ≠ word) ∧ True) (fun x => ((lx.Entries.length : Int) - x).toNat) 0 rfl (show (0 ≤ (0 : Int) ∧ (0 : Int) ≤ (lx.Entries.length : Int)) ∧ (∀ j : Nat, (j : Int) < (0 : Int) → (at_ lx.Entries j).Word ≠ word) ∧ True from ⟨(by omega), (by intro j hj; omega), trivial⟩) (fun x hI => ?_)
    obtain ⟨i, hxx⟩ : ∃ i : Int, i = x := ⟨x, rfl⟩
    subst hxx
    obtain ⟨hi0, hno, _⟩ : (0 ≤ i ∧ i ≤ (lx.Entries.length : Int)) ∧ (∀ j : Nat, (j : Int) < i → (at_ lx.Entries j).Word ≠ word) ∧ True := hI
    show XW _ _ _ _ (mkS [(0, .ptr false [slEntry false lx.Entries]), (1, Sv word), (5, I i)] []) _ _
    refine x_seq ?_
    refine x_seq ?_
    by_cases h1 : i < (lx.Entries.length : Int)
    ·have hi : i.toNat < lx.Entries.length := by omega
     refine x_r [(6, .dec true)] [0, 1, 5, 12] [] [.ptr false [slEntry false lx.Entries], Sv word, I i, Bv true] [] [i < (lx.Entries.length : Int)] ⟨h1, trivial⟩ ?_
     refine xe_then ?_
     refine x_true rfl ?_
     refine x_skip ?_
     refine xe_then ?_
     refine x_seq ?_
     refine x_block ?_
     refine x_seq ?_
     by_cases h2 : ((at_ lx.Entries i.toNat).Word) = word
     ·refine x_r [(9, .dec true)] [0, 1, 5, 24] [] [.ptr false [slEntry false lx.Entries], Sv word, I i, Bv true] [] [(0 : Int) ≤ i ∧ i < (lx.Entries.length : Int), ((at_ lx.Entries i.toNat).Word) = word] ⟨⟨(by omega), (by omega)⟩, h2, trivial⟩ ?_
      refine xe_then ?_
      refine x_true rfl ?_
      refine xR [] [4] [] [I i] [] [] trivial ?_
      refine x_ret ?_
      refine xe_ret_block (xe_ret_then (xe_loop_ret (xe_ret_block (xe_ret_then ?_))))
      refine xe_end i (show ((i = -1 ∧ ∀ j : Nat, j < lx.Entries.length → (at_ lx.Entries j).Word ≠ word) ∨ ((0 ≤ i ∧ i < (lx.Entries.length : Int)) ∧ (at_ lx.Entries i.toNat).Word = word)) ∧ (True) from ⟨(by first | exact .inr ⟨by omega, by assumption⟩ | exact .inl ⟨rfl, fun j hj => hno j (by omega)⟩), trivial⟩) (trivial) (I i) (by kernel_rfl) (.inl rfl) (fun _ => rfl) (fun _ => trivial)
     refine x_r [(9, .dec false)] [0, 1, 5, 24] [] [.ptr false [slEntry false lx.Entries], Sv word, I i, Bv false] [] [(0 : Int) ≤ i ∧ i < (lx.Entries.length : Int), ¬ (((at_ lx.Entries i.toNat).Word) = word)] ⟨⟨(by omega), (by omega)⟩, h2, trivial⟩ ?_
     refine xe_then ?_
     refine x_false rfl ?_
     refine x_skip ?_
     refine xe_block 1 ?_
     refine xe_then ?_
     refine x_r [] [0, 1, 5] [] [.ptr false [slEntry false lx.Entries], Sv word, I (i + 1)] [] [inR .i64 (i + 1)] ⟨(inR_i64 (by omega) (by omega)), trivial⟩ ?_
     exact xe_again (i + 1) rfl (show (0 ≤ (i + 1) ∧ (i + 1) ≤ (lx.Entries.length : Int)) ∧ (∀ j : Nat, (j : Int) < (i + 1) → (at_ lx.Entries j).Word ≠ word) ∧ True from ⟨(by omega), (by intro j hj; by_cases ej : j = i.toNat; (subst ej; assumption); exact hno j (by omega)), trivial⟩) (by first | (show (((lx.Entries.length : Int) - (i + 1)).toNat : Nat) < ((lx.Entries.length : Int) - i).toNat; omega) | (dsimp only; omega))
    refine x_r [(6, .dec false)] [0, 1, 5, 12] [] [.ptr false [slEntry false lx.Entries], Sv word, I i, Bv false] [] [¬ (i < (lx.Entries.length : Int))] ⟨h1, trivial⟩ ?_
    refine xe_then ?_
    refine x_false rfl ?_
    refine x_exit ?_
    refine xe_exit_then ?_
    refine xe_loop_exit ?_
    refine xe_exit_same ?_
    refine xe_then ?_
    refine xR [] [4] [] [I (-1)] [] [] trivial ?_
    refine x_ret ?_
    refine xe_end (-1) (show (((-1) = -1 ∧ ∀ j : Nat, j < lx.Entries.length → (at_ lx.Entries j).Word ≠ word) ∨ ((0 ≤ (-1) ∧ (-1) < (lx.Entries.length : Int)) ∧ (at_ lx.Entries (-1).toNat).Word = word)) ∧ (True) from ⟨(by first | exact .inr ⟨by omega, by assumption⟩ | exact .inl ⟨rfl, fun j hj => hno j (by omega)⟩), trivial⟩) (trivial) (I (-1)) (by kernel_rfl) (.inl rfl) (fun _ => rfl) (fun _ => trivial)
  obtain ⟨v, ⟨hh0, _⟩, hc⟩ := hh
  exact ⟨v, hh0, hc⟩



-- spec.EntryCost
theorem specEntryCost_ok (lx : Lexicon) (word : ByteArray) (hx : okLex lx) : ∃ (v : Int) (c : Int), ((c = 0 ∧ v = entC lx word ∧ ∃ e ∈ lx.Entries, e.Word = word) ∨ (c = 3 ∧ ∀ e ∈ lx.Entries, e.Word ≠ word)) ∧ Con Tryz.prog 11 [.agg [slEntry false lx.Entries], Sv word] true (.tup [I v, I c]) := by
  have hc := hx.1
  have hh : ∃ r : Int × Int, (((r.2 = 0 ∧ r.1 = entC lx word ∧ ∃ e ∈ lx.Entries, e.Word = word) ∨ (r.2 = 3 ∧ ∀ e ∈ lx.Entries, e.Word ≠ word)) ∧ (True)) ∧ CallOK Tryz.prog 11 [.agg [slEntry false lx.Entries], Sv word] (lookO []) true (.tup [I r.1, I r.2]) (lookO []) := by
    refine fn_okX (Φ := fun r : Int × Int => ((r.2 = 0 ∧ r.1 = entC lx word ∧ ∃ e ∈ lx.Entries, e.Word = word) ∨ (r.2 = 3 ∧ ∀ e ∈ lx.Entries, e.Word ≠ word)) ∧ (True)) [] (fun r => []) (fn := Tryz.f11) (nt := 19) Tryz.func11 rfl rfl (args := [.agg [slEntry false lx.Entries], Sv word]) rfl (allcons (.inl ⟨rfl, by simp [tagged, taggedL, tagEntry]⟩) (allcons (.inl ⟨rfl, trivial⟩) allnil)) (res := fun r => .tup [I r.1, I r.2]) ?_
    refine xR [(0, .new 2)] [1, 2] [2] [Sv word, .ref 2 0] [some (.box [slEntry false lx.Entries])] [] trivial ?_
    refine x_seq ?_
    refine xR [(0, .call [(false, .ptr false [slEntry false lx.Entries])] true (Bv true))] [1, 2, 8] [2] [Sv word, .ref 2 0, Bv false] [some (.box [slEntry false lx.Entries])] [Con Tryz.prog 23 [.ptr false [slEntry false lx.Entries]] true (Bv true) ∧ ((false = true → true = true) ∧ AV.idsL [slEntry false lx.Entries] = [] ∧ ((false = true → false = true) ∧ 2 = 2 ∧ lx.Entries.length = lx.Entries.length ∧ ∀ i_, i_ < lx.Entries.length → (fEntry lx.Entries) i_ = (fEntry lx.Entries) i_ ∨ (AV.idsL ((fEntry lx.Entries) i_) = [] ∧ leL (fun _ => none) false ((fEntry lx.Entries) i_) ((fEntry lx.Entries) i_))) ∧ ([] : List AV) = []) ∧ True] ⟨⟨(l16Ok_ok lx hx), ⟨(fun h => by cases h), rfl, ⟨⟨(fun h => by cases h), rfl, rfl, fun i _ => .inl rfl⟩, rfl⟩⟩, trivial⟩, trivial⟩ ?_
    refine x_false rfl ?_
    refine x_skip ?_
    refine xe_then ?_
    refine x_seq ?_
    obtain ⟨v_1, hx1_0, hc1⟩ := l16Find_ok lx word (by omega)
    have hfd := hx1_0
    refine x_r [(1, .call [(false, .ptr false [slEntry false lx.Entries]), (true, .any)] true (I v_1))] [2, 6] [2] [.ref 2 0, I v_1] [some (.box [slEntry false lx.Entries])] [Con Tryz.prog 26 [.ptr false [slEntry false lx.Entries], Sv word] true (I v_1) ∧ ((false = true → true = true) ∧ AV.idsL [slEntry false lx.Entries] = [] ∧ ((false = true → false = true) ∧ 2 = 2 ∧ lx.Entries.length = lx.Entries.length ∧ ∀ i_, i_ < lx.Entries.length → (fEntry lx.Entries) i_ = (fEntry lx.Entries) i_ ∨ (AV.idsL ((fEntry lx.Entries) i_) = [] ∧ leL (fun _ => none) false ((fEntry lx.Entries) i_) ((fEntry lx.Entries) i_))) ∧ ([] : List AV) = []) ∧ True] ⟨⟨hc1, ⟨(fun h => by cases h), rfl, ⟨⟨(fun h => by cases h), rfl, rfl, fun i _ => .inl rfl⟩, rfl⟩⟩, trivial⟩, trivial⟩ ?_
    refine xe_then ?_
    refine x_seq ?_
    refine x_seq ?_
    by_cases h1 : v_1 < 0
    ·refine x_r [(1, .dec true)] [2, 6, 12] [2] [.ref 2 0, I v_1, Bv true] [some (.box [slEntry false lx.Entries])] [v_1 < 0] ⟨h1, trivial⟩ ?_
     refine xe_then ?_
     refine x_true rfl ?_
     refine xR [] [4, 5] [] [I 0, I 3] [] [] trivial ?_
     refine x_ret ?_
     refine xe_ret_then ?_
     refine xe_end (0, 3) (show ((3 = 0 ∧ 0 = entC lx word ∧ ∃ e ∈ lx.Entries, e.Word = word) ∨ (3 = 3 ∧ ∀ e ∈ lx.Entries, e.Word ≠ word)) ∧ (True) from ⟨(by first | (rcases hfd with q | q; omega; exact .inl ⟨rfl, (ent_hit hx (by omega) q.2).symm, _, at_mem (by omega), q.2⟩) | (rcases hfd with q | q; (exact .inr ⟨rfl, fun e he z => by obtain ⟨j, hj, q2⟩ := List.getElem_of_mem he; exact q.2 j hj (by rw [at_eq hj, q2]; exact z)⟩); omega)), trivial⟩) (trivial) (.tup [I 0, I 3]) (by kernel_rfl) (.inl rfl) (fun _ => rfl) (fun _ => (by simp [tagged, taggedL]))
    refine x_r [(1, .dec false)] [2, 6, 12] [2] [.ref 2 0, I v_1, Bv false] [some (.box [slEntry false lx.Entries])] [¬ (v_1 < 0)] ⟨h1, trivial⟩ ?_
    refine xe_then ?_
    refine x_false rfl ?_
    refine x_skip ?_
    refine xe_then ?_
    refine xR [] [4, 5] [] [I ((at_ lx.Entries v_1.toNat).Cost), I 0] [] [(0 : Int) ≤ v_1 ∧ v_1 < (lx.Entries.length : Int)] ⟨⟨(by omega), (by omega)⟩, trivial⟩ ?_
    refine x_ret ?_
    refine xe_end ((at_ lx.Entries v_1.toNat).Cost, 0) (show ((0 = 0 ∧ ((at_ lx.Entries v_1.toNat).Cost) = entC lx word ∧ ∃ e ∈ lx.Entries, e.Word = word) ∨ (0 = 3 ∧ ∀ e ∈ lx.Entries, e.Word ≠ word)) ∧ (True) from ⟨(by first | (rcases hfd with q | q; omega; exact .inl ⟨rfl, (ent_hit hx (by omega) q.2).symm, _, at_mem (by omega), q.2⟩) | (rcases hfd with q | q; (exact .inr ⟨rfl, fun e he z => by obtain ⟨j, hj, q2⟩ := List.getElem_of_mem he; exact q.2 j hj (by rw [at_eq hj, q2]; exact z)⟩); omega)), trivial⟩) (trivial) (.tup [I ((at_ lx.Entries v_1.toNat).Cost), I 0]) (by kernel_rfl) (.inl rfl) (fun _ => rfl) (fun _ => (by simp [tagged, taggedL]))
  obtain ⟨⟨v, c⟩, ⟨hh0, _⟩, hc⟩ := hh
  exact ⟨v, c, hh0, hc⟩



-- laws.a2Small
theorem a2Small_ok (n : Int) : Con Tryz.prog 12 [I n] true (Bv (decide (0 ≤ n ∧ n ≤ 100000000))) := by
  refine fn_ok (fn := Tryz.f12) (nt := 9) Tryz.func12 rfl rfl rfl rfl (by simp [taggedL, tagged]) fun B hB => ?_
  refine aR [] [0] [] [I n] [] [] hB trivial ?_
  refine aw_seq ?_
  by_cases h1 : 0 ≤ n
  ·refine aw_r [(1, .dec true)] [2] [] [Bv (decide (n ≤ 100000000))] [] [0 ≤ n] hB ⟨h1, trivial⟩ ?_
   refine ae_then ?_
   refine aw_ret ?_
   refine ae_ret hB (Bv (decide (n ≤ 100000000))) (by kernel_rfl) (.inl (by refine congrArg Bv ?_; first | (symm; exact decide_eq_true (by omega)) | exact decide_eq_true (by omega) | (symm; exact decide_eq_false (by omega)) | exact (decide_eq_decide.2 (by omega)) | (simp [*]; done))) rfl (fun _ => trivial)
  refine aw_r [(1, .dec false)] [2] [] [Bv false] [] [¬ (0 ≤ n)] hB ⟨h1, trivial⟩ ?_
  refine ae_then ?_
  refine aw_ret ?_
  refine ae_ret hB (Bv false) (by kernel_rfl) (.inl (by refine congrArg Bv ?_; first | (symm; exact decide_eq_true (by omega)) | exact decide_eq_true (by omega) | (symm; exact decide_eq_false (by omega)) | exact (decide_eq_decide.2 (by omega)) | (simp [*]; done))) rfl (fun _ => trivial)



-- impl.BeamSizes
theorem BeamSizes_ok (l : Lattice) (lx : Lexicon) (width : Int) (hl : okLat l) (hx : okLex lx) (hw : 1 ≤ width ∧ width ≤ 30) : ∃ (v : List Int) (c : Int), (v = (beamT l lx width.toNat).map fun r_ => (r_.length : Int)) ∧ (c = 0) ∧ Con Tryz.prog 13 [agLattice l, .agg [slEntry false lx.Entries], I width] true (.tup [slI true v, I c]) := by
  have hn20 := hl.1
  have hc := hl.2.1
  have hlc := hx.1
  have hh : ∃ r : (List Int) × Int, ((r.1 = (beamT l lx width.toNat).map fun r_ => (r_.length : Int)) ∧ (r.2 = 0) ∧ (True)) ∧ CallOK Tryz.prog 13 [agLattice l, .agg [slEntry false lx.Entries], I width] (lookO []) true (.tup [slI true r.1, I r.2]) (lookO []) := by
    refine fn_okX (Φ := fun r : (List Int) × Int => (r.1 = (beamT l lx width.toNat).map fun r_ => (r_.length : Int)) ∧ (r.2 = 0) ∧ (True)) [] (fun r => []) (fn := Tryz.f13) (nt := 35) Tryz.func13 rfl rfl (args := [agLattice l, .agg [slEntry false lx.Entries], I width]) rfl (allcons (.inl ⟨rfl, by simp [tagged, taggedL, tagEdge]⟩) (allcons (.inl ⟨rfl, by simp [tagged, taggedL, tagEntry]⟩) (allcons (.inl ⟨rfl, trivial⟩) allnil))) (res := fun r => .tup [slI true r.1, I r.2]) ?_
    refine xR [(0, .new 3), (1, .new 4)] [2, 3, 4] [3, 4] [I width, .ref 3 0, .ref 4 0] [some (bxLattice l), some (.box [slEntry false lx.Entries])] [] trivial ?_
    refine x_seq ?_
    refine xR [(3, .call [(true, .any), (true, .any), (true, .any)] true (I 0))] [2, 3, 4, 8] [3, 4] [I width, .ref 3 0, .ref 4 0, I 0] [some (bxLattice l), some (.box [slEntry false lx.Entries])] [Con Tryz.prog 19 [agLattice l, .agg [slEntry false lx.Entries], I width] true (I 0) ∧ True] ⟨⟨(beamable_ok l lx width hl hx hw), trivial⟩, trivial⟩ ?_
    refine xR [(1, .dec false)] [2, 3, 4, 8, 17] [3, 4] [I width, .ref 3 0, .ref 4 0, I 0, Bv false] [some (bxLattice l), some (.box [slEntry false lx.Entries])] [¬ ((0 : Int) ≠ 0)] ⟨(fun hq => hq (by decide)), trivial⟩ ?_
    refine x_false rfl ?_
    refine x_skip ?_
    refine xe_then ?_
    refine xR [] [2, 3, 4, 9] [3, 4] [I width, .ref 3 0, .ref 4 0, nilA] [some (bxLattice l), some (.box [slEntry false lx.Entries])] [] trivial ?_
    refine x_seq ?_
    refine x_seq ?_
    obtain ⟨v_1, hx1_0, hc1⟩ := beam_ok l lx width hl hx hw
    have hbv : v_1 = beamT l lx width.toNat := hx1_0
    have hbk := (bmT_ok hl lx (w := width.toNat) (by omega) (p := begB lx) (l.Nodes.toNat - 1) (by omega)).1
    have hbl_ : v_1.length = l.Nodes.toNat := by rw [hbv]; exact hbk.1
    have hbr : (at_ v_1 (l.Nodes - 1).toNat).length ≤ width.toNat := by rw [hbv]; exact row_le hbk _
    refine x_r [(3, .call [(true, .any), (true, .any), (true, .any)] true (slLReading true v_1))] [9, 22, 23, 24] [] [nilA, slLReading true v_1, I (v_1.length : Int), I 0] [] [Con Tryz.prog 27 [agLattice l, .agg [slEntry false lx.Entries], I width] true (slLReading true v_1) ∧ True] ⟨⟨hc1, trivial⟩, trivial⟩ ?_
    refine xe_then ?_
    refine x_block ?_
    refine x_nil 9 709 1 (fun _ => []) (by kernel_rfl) ?_
    refine x_weak [] (T := [(9, .arr 709), (22, slLReading true v_1), (23, I (v_1.length : Int)), (24, I 0)]) (O := [(709, tAI ([] : List Int))]) rfl (⟨.inl rfl, .inl rfl, .inl rfl, .inl rfl, trivial⟩) (⟨.inr ⟨rfl, (by first | rfl | (simp; done) | (simp; omega) | omega), fun i_ hi_ => absurd hi_ (Nat.not_lt_zero _)⟩, trivial⟩) ?_
    refine x_loop (X := (List Int) × Int) (fun x => mkS [(9, .arr 709), (22, slLReading true v_1), (23, I (v_1.length : Int)), (24, I x.2)] [(709, tAI x.1)]) (fun x => (0 ≤ x.2 ∧ x.2 ≤ (v_1.length : Int)) ∧ (x.1 = (v_1.take x.2.toNat).map (fun r => (r.length : Int))) ∧ ((x.1.length : Int) ≤ x.2) ∧ True) (fun x => ((v_1.length : Int) - x.2).toNat) (([] : List Int), 0) rfl (show (0 ≤ (0 : Int) ∧ (0 : Int) ≤ (v_1.length : Int)) ∧ (([] : List Int) = (v_1.take (0 : Int).toNat).map (fun r => (r.length : Int))) ∧ ((([] : List Int).length : Int) ≤ (0 : Int)) ∧ True from ⟨(by omega), (by rfl), (by simp), trivial⟩) (fun x hI => ?_)
    obtain ⟨sz, t24⟩ := x
    obtain ⟨hi0, hsz, hszl, _⟩ : (0 ≤ t24 ∧ t24 ≤ (v_1.length : Int)) ∧ (sz = (v_1.take t24.toNat).map (fun r => (r.length : Int))) ∧ ((sz.length : Int) ≤ t24) ∧ True := hI
    show XW _ _ _ _ (mkS [(9, .arr 709), (22, slLReading true v_1), (23, I (v_1.length : Int)), (24, I t24)] [(709, tAI sz)]) _ _
    refine x_seq ?_
    by_cases h1 : t24 < (v_1.length : Int)
    ·have hi : t24.toNat < v_1.length := by omega
     have hii : (t24 + 1).toNat = t24.toNat + 1 := by omega
     have hrw_ : (at_ v_1 t24.toNat).length ≤ width.toNat := by rw [hbv]; exact row_le hbk _
     refine x_r [(0, .dec true)] [9, 22, 23, 24, 25] [709] [.arr 709, slLReading true v_1, I (v_1.length : Int), I t24, Bv true] [some (tAI sz)] [t24 < (v_1.length : Int)] ⟨h1, trivial⟩ ?_
     refine xe_then ?_
     refine x_seq ?_
     refine x_true rfl ?_
     refine x_skip ?_
     refine xe_then ?_
     refine x_seq ?_
     refine x_block ?_
     refine xR [] [9, 11, 22, 23, 24] [709] [.arr 709, slReading true (at_ v_1 t24.toNat), slLReading true v_1, I (v_1.length : Int), I t24] [some (tAI sz)] [(0 : Int) ≤ t24 ∧ t24 < (v_1.length : Int)] ⟨⟨(by omega), (by omega)⟩, trivial⟩ ?_
     refine x_r [(3, .new 31), (4, .new 32)] [9, 22, 23, 24] [32] [.arr 32, slLReading true v_1, I (v_1.length : Int), I t24] [some (.arr 1 (sz.length + 1) (catF sz.length (fI sz) (litF [I (((at_ v_1 t24.toNat).length) : Int)] 1)))] [(sz.length + 1) * 8 ≤ 140737488355328] ⟨(by omega), trivial⟩ ?_
     refine xe_block 1 ?_
     refine xe_then ?_
     refine x_r [] [9, 22, 23, 24] [32] [.arr 32, slLReading true v_1, I (v_1.length : Int), I (t24 + 1)] [some (.arr 1 (sz.length + 1) (catF sz.length (fI sz) (litF [I (((at_ v_1 t24.toNat).length) : Int)] 1)))] [inR .i64 (t24 + 1)] ⟨(inR_i64 (by omega) (by omega)), trivial⟩ ?_
     refine xe_weak [(709, 32)] (T := [(9, .arr 709), (22, slLReading true v_1), (23, I (v_1.length : Int)), (24, I (t24 + 1))]) (O := [(709, tAI (sz ++ [(((at_ v_1 t24.toNat).length) : Int)]))]) rfl (⟨.inl rfl, .inl rfl, .inl rfl, .inl rfl, trivial⟩) (⟨.inr ⟨rfl, (by first | rfl | (simp; done) | (simp; omega) | omega), fun i_ hi_ => .inl (cat_snoc (enc := cI) (xs := sz) rfl i_ hi_)⟩, trivial⟩) (xe_again ((sz ++ [(((at_ v_1 t24.toNat).length) : Int)]), (t24 + 1)) rfl (show (0 ≤ (t24 + 1) ∧ (t24 + 1) ≤ (v_1.length : Int)) ∧ ((sz ++ [(((at_ v_1 t24.toNat).length) : Int)]) = (v_1.take (t24 + 1).toNat).map (fun r => (r.length : Int))) ∧ (((sz ++ [(((at_ v_1 t24.toNat).length) : Int)]).length : Int) ≤ (t24 + 1)) ∧ True from ⟨(by omega), (by (rw [hii, List.take_succ_eq_append_getElem hi, List.map_append, ← at_eq hi, ← hsz]; rfl)), (by (simp; omega)), trivial⟩) (by first | (show (((v_1.length : Int) - (t24 + 1)).toNat : Nat) < ((v_1.length : Int) - t24).toNat; omega) | (dsimp only; omega)))
    have hfin : sz = v_1.map (fun r => (r.length : Int)) := by rw [hsz, List.take_of_length_le (by omega)]
    refine x_r [(0, .dec false)] [9, 22, 23, 24, 25] [709] [.arr 709, slLReading true v_1, I (v_1.length : Int), I t24, Bv false] [some (tAI sz)] [¬ (t24 < (v_1.length : Int))] ⟨h1, trivial⟩ ?_
    refine xe_then ?_
    refine x_seq ?_
    refine x_false rfl ?_
    refine x_exit ?_
    refine xe_exit_then ?_
    refine xe_loop_exit ?_
    refine xe_exit_same ?_
    refine xe_then ?_
    refine xR [] [6, 7] [709] [.arr 709, I 0] [some (tAI sz)] [] trivial ?_
    refine x_ret ?_
    refine xe_end (sz, 0) (show (sz = (beamT l lx width.toNat).map fun r_ => (r_.length : Int)) ∧ (0 = 0) ∧ (True) from ⟨(by (rw [hfin, hbv])), (by rfl), trivial⟩) (trivial) (.tup [.arr 709, I 0]) (by kernel_rfl) (.inr ⟨⟨(fun _ => rfl), rfl, rfl, fun i _ => .inl rfl⟩, ⟨rfl, rfl⟩⟩) (fun _ => rfl) (fun _ => (by simp [tagged, taggedL, tagI]))
  obtain ⟨⟨v, c⟩, ⟨hh0, hh1, _⟩, hc⟩ := hh
  exact ⟨v, c, hh0, hh1, hc⟩



-- impl.BeamStates
theorem BeamStates_ok (l : Lattice) (lx : Lexicon) (width : Int) (node : Int) (hl : okLat l) (hx : okLex lx) (hw : 1 ≤ width ∧ width ≤ 30) (hnd : 0 ≤ node ∧ node ≤ l.Nodes - 1) : ∃ (v : List Reading) (c : Int), (v = at_ (beamT l lx width.toNat) node.toNat) ∧ (c = 0) ∧ Con Tryz.prog 14 [agLattice l, .agg [slEntry false lx.Entries], I width, I node] true (.tup [slReading true v, I c]) := by
  have hn20 := hl.1
  have hc := hl.2.1
  have hlc := hx.1
  have hh : ∃ r : (List Reading) × Int, ((r.1 = at_ (beamT l lx width.toNat) node.toNat) ∧ (r.2 = 0) ∧ (True)) ∧ CallOK Tryz.prog 14 [agLattice l, .agg [slEntry false lx.Entries], I width, I node] (lookO []) true (.tup [slReading true r.1, I r.2]) (lookO []) := by
    refine fn_okX (Φ := fun r : (List Reading) × Int => (r.1 = at_ (beamT l lx width.toNat) node.toNat) ∧ (r.2 = 0) ∧ (True)) [] (fun r => []) (fn := Tryz.f14) (nt := 31) Tryz.func14 rfl rfl (args := [agLattice l, .agg [slEntry false lx.Entries], I width, I node]) rfl (allcons (.inl ⟨rfl, by simp [tagged, taggedL, tagEdge]⟩) (allcons (.inl ⟨rfl, by simp [tagged, taggedL, tagEntry]⟩) (allcons (.inl ⟨rfl, trivial⟩) (allcons (.inl ⟨rfl, trivial⟩) allnil)))) (res := fun r => .tup [slReading true r.1, I r.2]) ?_
    refine xR [(0, .new 4), (1, .new 5)] [2, 3, 4, 5] [4, 5] [I width, I node, .ref 4 0, .ref 5 0] [some (bxLattice l), some (.box [slEntry false lx.Entries])] [] trivial ?_
    refine x_seq ?_
    refine xR [(3, .call [(true, .any), (true, .any), (true, .any)] true (I 0))] [2, 3, 4, 5, 10] [4, 5] [I width, I node, .ref 4 0, .ref 5 0, I 0] [some (bxLattice l), some (.box [slEntry false lx.Entries])] [Con Tryz.prog 19 [agLattice l, .agg [slEntry false lx.Entries], I width] true (I 0) ∧ True] ⟨⟨(beamable_ok l lx width hl hx hw), trivial⟩, trivial⟩ ?_
    refine xR [(1, .dec false)] [2, 3, 4, 5, 10, 16] [4, 5] [I width, I node, .ref 4 0, .ref 5 0, I 0, Bv false] [some (bxLattice l), some (.box [slEntry false lx.Entries])] [¬ ((0 : Int) ≠ 0)] ⟨(fun hq => hq (by decide)), trivial⟩ ?_
    refine x_false rfl ?_
    refine x_skip ?_
    refine xe_then ?_
    refine x_seq ?_
    refine xR [(4, .call [(true, .any), (true, .any), (true, .any)] true (Bv true))] [2, 3, 4, 5, 23] [4, 5] [I width, I node, .ref 4 0, .ref 5 0, Bv false] [some (bxLattice l), some (.box [slEntry false lx.Entries])] [inR .i64 (l.Nodes - 1), Con Tryz.prog 28 [I node, I 0, I (l.Nodes - 1)] true (Bv true) ∧ True] ⟨(inR_i64 (by omega) (by omega)), ⟨(con_bool (inB_iff.2 hnd) (within_ok node 0 (l.Nodes - 1))), trivial⟩, trivial⟩ ?_
    refine x_false rfl ?_
    refine x_skip ?_
    refine xe_then ?_
    refine x_seq ?_
    obtain ⟨v_1, hx1_0, hc1⟩ := beam_ok l lx width hl hx hw
    have hbv : v_1 = beamT l lx width.toNat := hx1_0
    have hbk := (bmT_ok hl lx (w := width.toNat) (by omega) (p := begB lx) (l.Nodes.toNat - 1) (by omega)).1
    have hbl_ : v_1.length = l.Nodes.toNat := by rw [hbv]; exact hbk.1
    have hbr : (at_ v_1 (l.Nodes - 1).toNat).length ≤ width.toNat := by rw [hbv]; exact row_le hbk _
    refine x_r [(3, .call [(true, .any), (true, .any), (true, .any)] true (slLReading true v_1))] [8, 9] [] [slReading true (at_ v_1 node.toNat), I 0] [] [Con Tryz.prog 27 [agLattice l, .agg [slEntry false lx.Entries], I width] true (slLReading true v_1) ∧ True, (0 : Int) ≤ node ∧ node < (v_1.length : Int)] ⟨⟨hc1, trivial⟩, ⟨(by omega), (by omega)⟩, trivial⟩ ?_
    refine xe_then ?_
    refine x_ret ?_
    refine xe_end ((at_ v_1 node.toNat), 0) (show ((at_ v_1 node.toNat) = at_ (beamT l lx width.toNat) node.toNat) ∧ (0 = 0) ∧ (True) from ⟨(by (rw [hbv])), (by rfl), trivial⟩) (trivial) (.tup [slReading true (at_ v_1 node.toNat), I 0]) (by kernel_rfl) (.inl rfl) (fun _ => rfl) (fun _ => (by simp [tagged, taggedL, tagReading]))
  obtain ⟨⟨v, c⟩, ⟨hh0, hh1, _⟩, hc⟩ := hh
  exact ⟨v, c, hh0, hh1, hc⟩



-- impl.LeastWidth
theorem LeastWidth_ok (l : Lattice) (lx : Lexicon) (hl : okLat l) (hx : okLex lx) : ∃ (v : Int) (c : Int), ((c = 0 ∧ (1 ≤ v ∧ v ≤ 30) ∧ blOK l lx (v : Int).toNat 0 0 ∧ ∀ u : Nat, 1 ≤ u → (u : Int) < v → ¬ blOK l lx u 0 0) ∨ (c = 3 ∧ ∀ u : Nat, 1 ≤ u → u ≤ 30 → ¬ blOK l lx u 0 0)) ∧ Con Tryz.prog 15 [agLattice l, .agg [slEntry false lx.Entries]] true (.tup [I v, I c]) := by
  have hh : ∃ r : Int × Int, (((r.2 = 0 ∧ (1 ≤ r.1 ∧ r.1 ≤ 30) ∧ blOK l lx (r.1 : Int).toNat 0 0 ∧ ∀ u : Nat, 1 ≤ u → (u : Int) < r.1 → ¬ blOK l lx u 0 0) ∨ (r.2 = 3 ∧ ∀ u : Nat, 1 ≤ u → u ≤ 30 → ¬ blOK l lx u 0 0)) ∧ (True)) ∧ CallOK Tryz.prog 15 [agLattice l, .agg [slEntry false lx.Entries]] (lookO []) true (.tup [I r.1, I r.2]) (lookO []) := by
    refine fn_okX (Φ := fun r : Int × Int => ((r.2 = 0 ∧ (1 ≤ r.1 ∧ r.1 ≤ 30) ∧ blOK l lx (r.1 : Int).toNat 0 0 ∧ ∀ u : Nat, 1 ≤ u → (u : Int) < r.1 → ¬ blOK l lx u 0 0) ∨ (r.2 = 3 ∧ ∀ u : Nat, 1 ≤ u → u ≤ 30 → ¬ blOK l lx u 0 0)) ∧ (True)) [] (fun r => []) (fn := Tryz.f15) (nt := 35) Tryz.func15 rfl rfl (args := [agLattice l, .agg [slEntry false lx.Entries]]) rfl (allcons (.inl ⟨rfl, by simp [tagged, taggedL, tagEdge]⟩) (allcons (.inl ⟨rfl, by simp [tagged, taggedL, tagEntry]⟩) allnil)) (res := fun r => .tup [I r.1, I r.2]) ?_
    refine xR [(0, .new 2), (1, .new 3)] [2, 3] [2, 3] [.ref 2 0, .ref 3 0] [some (bxLattice l), some (.box [slEntry false lx.Entries])] [] trivial ?_
    refine x_seq ?_
    refine xR [(1, .call [(true, .any)] true (Bv true)), (5, .call [(true, .any)] true (Bv true))] [2, 3, 16] [2, 3] [.ref 2 0, .ref 3 0, Bv false] [some (bxLattice l), some (.box [slEntry false lx.Entries])] [Con Tryz.prog 29 [agLattice l] true (Bv true) ∧ True, Con Tryz.prog 30 [.agg [slEntry false lx.Entries]] true (Bv true) ∧ True] ⟨⟨(ValidLattice_ok l hl), trivial⟩, ⟨(ValidLexicon_ok lx hx), trivial⟩, trivial⟩ ?_
    refine x_false rfl ?_
    refine x_skip ?_
    refine xe_then ?_
    refine x_seq ?_
    refine xR [] [2, 3, 6] [2, 3] [.ref 2 0, .ref 3 0, I 1] [some (bxLattice l), some (.box [slEntry false lx.Entries])] [] trivial ?_
    refine x_block ?_
    refine x_loop (X := Int) (fun x => mkS [(2, .ref 2 0), (3, .ref 3 0), (6, I x)] [(2, bxLattice l), (3, .box [slEntry false lx.Entries])]) (fun x => (1 ≤ x ∧ x ≤ 31) ∧ (∀ u : Nat, 1 ≤ u → (u : Int) < x → ¬ blOK l lx u 0 0) ∧ True) (fun x => (31 - x).toNat) 1 rfl (show (1 ≤ (1 : Int) ∧ (1 : Int) ≤ 31) ∧ (∀ u : Nat, 1 ≤ u → (u : Int) < (1 : Int) → ¬ blOK l lx u 0 0) ∧ True from ⟨(by omega), (by intro u h1 h2; omega), trivial⟩) (fun x hI => ?_)
    obtain ⟨width, hxx⟩ : ∃ width : Int, width = x := ⟨x, rfl⟩
    subst hxx
    obtain ⟨hw0, hno, _⟩ : (1 ≤ width ∧ width ≤ 31) ∧ (∀ u : Nat, 1 ≤ u → (u : Int) < width → ¬ blOK l lx u 0 0) ∧ True := hI
    show XW _ _ _ _ (mkS [(2, .ref 2 0), (3, .ref 3 0), (6, I width)] [(2, bxLattice l), (3, .box [slEntry false lx.Entries])]) _ _
    refine x_seq ?_
    refine x_seq ?_
    by_cases h1 : width ≤ 30
    ·refine x_r [(1, .dec true)] [2, 3, 6, 18] [2, 3] [.ref 2 0, .ref 3 0, I width, Bv true] [some (bxLattice l), some (.box [slEntry false lx.Entries])] [width ≤ 30] ⟨h1, trivial⟩ ?_
     refine xe_then ?_
     refine x_true rfl ?_
     refine x_skip ?_
     refine xe_then ?_
     refine x_seq ?_
     refine x_block ?_
     refine x_seq ?_
     obtain ⟨v_1, c_1, hx1_0, hc1⟩ := BeamLoss_ok l lx width hl hx (by omega)
     have hbl := hx1_0
     refine x_r [(3, .call [(true, .any), (true, .any), (true, .any)] true (.tup [I v_1, I c_1]))] [2, 3, 6, 7, 8] [2, 3] [.ref 2 0, .ref 3 0, I width, I v_1, I c_1] [some (bxLattice l), some (.box [slEntry false lx.Entries])] [Con Tryz.prog 8 [agLattice l, .agg [slEntry false lx.Entries], I width] true (.tup [I v_1, I c_1]) ∧ True] ⟨⟨hc1, trivial⟩, trivial⟩ ?_
     refine xe_then ?_
     refine x_seq ?_
     by_cases h2 : c_1 = 0
     ·by_cases h3 : v_1 = 0
      ·refine x_r [(1, .dec true), (4, .dec true)] [2, 3, 6, 33] [2, 3] [.ref 2 0, .ref 3 0, I width, Bv true] [some (bxLattice l), some (.box [slEntry false lx.Entries])] [c_1 = 0, v_1 = 0] ⟨h2, h3, trivial⟩ ?_
       refine xe_then ?_
       refine x_true rfl ?_
       refine xR [] [4, 5] [] [I width, I 0] [] [] trivial ?_
       refine x_ret ?_
       refine xe_ret_block (xe_ret_then (xe_loop_ret (xe_ret_block (xe_ret_then ?_))))
       refine xe_end (width, 0) (show ((0 = 0 ∧ (1 ≤ width ∧ width ≤ 30) ∧ blOK l lx (width : Int).toNat 0 0 ∧ ∀ u : Nat, 1 ≤ u → (u : Int) < width → ¬ blOK l lx u 0 0) ∨ (0 = 3 ∧ ∀ u : Nat, 1 ≤ u → u ≤ 30 → ¬ blOK l lx u 0 0)) ∧ (True) from ⟨(by first | exact .inr ⟨rfl, hfin⟩ | exact .inl ⟨rfl, by omega, (by have e1 : v_1 = 0 := (by omega); have e2 : c_1 = 0 := (by omega); have q_ := hbl; rw [e1, e2] at q_; exact q_), hno⟩), trivial⟩) (trivial) (.tup [I width, I 0]) (by kernel_rfl) (.inl rfl) (fun _ => rfl) (fun _ => (by simp [tagged, taggedL]))
      refine x_r [(1, .dec true), (4, .dec false)] [2, 3, 6, 33] [2, 3] [.ref 2 0, .ref 3 0, I width, Bv false] [some (bxLattice l), some (.box [slEntry false lx.Entries])] [c_1 = 0, ¬ (v_1 = 0)] ⟨h2, h3, trivial⟩ ?_
      refine xe_then ?_
      refine x_false rfl ?_
      refine x_skip ?_
      refine xe_block 1 ?_
      refine xe_then ?_
      refine x_r [] [2, 3, 6] [2, 3] [.ref 2 0, .ref 3 0, I (width + 1)] [some (bxLattice l), some (.box [slEntry false lx.Entries])] [inR .i64 (width + 1)] ⟨(inR_i64 (by omega) (by omega)), trivial⟩ ?_
      exact xe_again (width + 1) rfl (show (1 ≤ (width + 1) ∧ (width + 1) ≤ 31) ∧ (∀ u : Nat, 1 ≤ u → (u : Int) < (width + 1) → ¬ blOK l lx u 0 0) ∧ True from ⟨(by omega), (by intro u h1 h2 h3; by_cases eu : u = width.toNat; (subst eu; have q_ := bl_uniq h3 hbl; omega); exact hno u h1 (by omega) h3), trivial⟩) (by first | (show ((31 - (width + 1)).toNat : Nat) < (31 - width).toNat; omega) | (dsimp only; omega))
     refine x_r [(1, .dec false)] [2, 3, 6, 33] [2, 3] [.ref 2 0, .ref 3 0, I width, Bv false] [some (bxLattice l), some (.box [slEntry false lx.Entries])] [¬ (c_1 = 0)] ⟨h2, trivial⟩ ?_
     refine xe_then ?_
     refine x_false rfl ?_
     refine x_skip ?_
     refine xe_block 1 ?_
     refine xe_then ?_
     refine x_r [] [2, 3, 6] [2, 3] [.ref 2 0, .ref 3 0, I (width + 1)] [some (bxLattice l), some (.box [slEntry false lx.Entries])] [inR .i64 (width + 1)] ⟨(inR_i64 (by omega) (by omega)), trivial⟩ ?_
     exact xe_again (width + 1) rfl (show (1 ≤ (width + 1) ∧ (width + 1) ≤ 31) ∧ (∀ u : Nat, 1 ≤ u → (u : Int) < (width + 1) → ¬ blOK l lx u 0 0) ∧ True from ⟨(by omega), (by intro u h1 h2 h3; by_cases eu : u = width.toNat; (subst eu; have q_ := bl_uniq h3 hbl; omega); exact hno u h1 (by omega) h3), trivial⟩) (by first | (show ((31 - (width + 1)).toNat : Nat) < (31 - width).toNat; omega) | (dsimp only; omega))
    have hfin : ∀ u : Nat, 1 ≤ u → u ≤ 30 → ¬ blOK l lx u 0 0 := fun u h1 h2 => hno u h1 (by omega)
    refine x_r [(1, .dec false)] [2, 3, 6, 18] [2, 3] [.ref 2 0, .ref 3 0, I width, Bv false] [some (bxLattice l), some (.box [slEntry false lx.Entries])] [¬ (width ≤ 30)] ⟨h1, trivial⟩ ?_
    refine xe_then ?_
    refine x_false rfl ?_
    refine x_exit ?_
    refine xe_exit_then ?_
    refine xe_loop_exit ?_
    refine xe_exit_same ?_
    refine xe_then ?_
    refine xR [] [4, 5] [] [I 0, I 3] [] [] trivial ?_
    refine x_ret ?_
    refine xe_end (0, 3) (show ((3 = 0 ∧ (1 ≤ 0 ∧ 0 ≤ 30) ∧ blOK l lx (0 : Int).toNat 0 0 ∧ ∀ u : Nat, 1 ≤ u → (u : Int) < 0 → ¬ blOK l lx u 0 0) ∨ (3 = 3 ∧ ∀ u : Nat, 1 ≤ u → u ≤ 30 → ¬ blOK l lx u 0 0)) ∧ (True) from ⟨(by first | exact .inr ⟨rfl, hfin⟩ | exact .inl ⟨rfl, by omega, (by have e1 : v_1 = 0 := (by omega); have e2 : c_1 = 0 := (by omega); have q_ := hbl; rw [e1, e2] at q_; exact q_), hno⟩), trivial⟩) (trivial) (.tup [I 0, I 3]) (by kernel_rfl) (.inl rfl) (fun _ => rfl) (fun _ => (by simp [tagged, taggedL]))
  obtain ⟨⟨v, c⟩, ⟨hh0, _⟩, hc⟩ := hh
  exact ⟨v, c, hh0, hc⟩


end Go.Proofs.YtppknhfdmmnmoaaGreat.Ax
