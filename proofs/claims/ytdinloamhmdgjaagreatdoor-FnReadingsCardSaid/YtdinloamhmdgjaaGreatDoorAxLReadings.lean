/- The statement FnReadings: contracts of what it reaches, and its proof. No conditions. -/
import Derived.Test.YtdinloamhmdgjaaGreatDoorAxLReadings2
import Derived.LaidMore
import Derived.Lay
import Derived.Lib.IndexBytes
import Derived.Lib.ItoaNum
import Derived.Lib.ParseIntBCases
import Derived.Lib.SplitLaws
import Derived.OpenShut
import Derived.SevenTiedAt
import Derived.Stop.Joined
import Derived.Test.YtdinloamhmdgjaaGreatDoorAxBd
import Derived.Test.YtdinloamhmdgjaaGreatDoorAxR
import Derived.Test.YtdinloamhmdgjaaGreatDoorAxS
import Derived.Test.YtdinloamhmdgjaaGreatDoorAxSF
import Derived.Test.YtdinloamhmdgjaaGreatDoorSfRdgShelf
namespace Go.Proofs.YtdinloamhmdgjaaGreatDoor.Ax
open Go.RowKit Go.ChangeShapes Go.WideShapes
set_option linter.unusedVariables false
set_option linter.unusedSimpArgs false


-- laws.FnReadings
theorem fnReadings_con (code : List Int) (more : List Int) (ok_code : ∀ y ∈ code, inR .u8 y) (ok_more : ∀ y ∈ more, inR .u8 y) : Con Tryz.prog 3 [slU8 false code, slU8 false more] true (Bv true) := by
  refine fn_ok (fn := Tryz.f3) (nt := 173) Tryz.func3 rfl rfl rfl rfl (by simp [taggedL, tagged, tagU8]) fun B hB => ?_
  refine aw_lens (x := slU8 false code) 0 rfl (fun len_code => ?_)
  simp [LenOK, LenL, cU8, fU8, slU8] at len_code
  refine aw_lens (x := slU8 false more) 1 rfl (fun len_more => ?_)
  simp [LenOK, LenL, cU8, fU8, slU8] at len_more
  refine aR [] [0, 1] [] [slU8 false code, slU8 false more] [] [] hB trivial ?_
  refine aw_seq ?_
  refine aw_seq ?_
  rcases Bool.eq_false_or_eq_true (decide (3000 < (code.length : Int) ∨ 3000 < (more.length : Int))) with h1 | h1
  ·refine aw_r [(2, .call [(true, .any), (true, .any)] true (Bv true))] [0, 1, 21] [] [slU8 false code, slU8 false more, Bv true] [] [Con Tryz.prog 6 [slU8 false code, slU8 false more] true (Bv true) ∧ True] hB ⟨⟨(con_bool h1 (a2Long_ok code more)), trivial⟩, trivial⟩ ?_
   refine ae_then ?_
   refine aw_true rfl ?_
   refine aR [] [4] [] [Bv true] [] [] hB trivial ?_
   refine aw_ret ?_
   refine ae_ret_then ?_
   refine ae_ret hB (Bv true) (by kernel_rfl) (.inl rfl) rfl (fun _ => trivial)
  have hc : (∀ j, j < code.length → 0 ≤ at_ code j ∧ at_ code j ≤ 255) ∧ code.length ≤ 4611686018427387904 := ⟨fun j hj => ok_code _ (at_mem hj), by first | omega | (simp at h1; omega)⟩
  have hmore : (∀ j, j < more.length → 0 ≤ at_ more j ∧ at_ more j ≤ 255) ∧ more.length ≤ 4611686018427387904 := ⟨fun j hj => ok_more _ (at_mem hj), by first | omega | (simp at h1; omega)⟩
  refine aw_r [(2, .call [(true, .any), (true, .any)] true (Bv false))] [0, 1, 21] [] [slU8 false code, slU8 false more, Bv false] [] [Con Tryz.prog 6 [slU8 false code, slU8 false more] true (Bv false) ∧ True] hB ⟨⟨(con_bool h1 (a2Long_ok code more)), trivial⟩, trivial⟩ ?_
  refine ae_then ?_
  refine aw_false rfl ?_
  refine aw_skip ?_
  refine ae_then ?_
  refine aw_seq ?_
  obtain ⟨v_1, hx1_0, hx1_1, hc1⟩ := A2Lattice_ok code (by assumption)
  have hl := hx1_0
  have hdg := hx1_1
  have hab := a2At_bd more 0 (n := 20) (by decide)
  refine aw_r [(1, .call [(true, .any)] true (agLatticeT v_1)), (2, .new 5)] [1, 5] [5] [slU8 false more, .ref 5 0] [some (bxLatticeT v_1)] [Con Tryz.prog 7 [slU8 false code] true (agLatticeT v_1) ∧ True] hB ⟨⟨hc1, trivial⟩, trivial⟩ ?_
  refine ae_then ?_
  refine aR [(1, .call [(true, .any), (true, .any), (true, .any)] true (I (a2AtI more 0 20)))] [5, 6] [5] [.ref 5 0, I (1 + (a2AtI more 0 20))] [some (bxLatticeT v_1)] [Con Tryz.prog 8 [slU8 false more, I 0, I 20] true (I (a2AtI more 0 20)) ∧ True, inR .i64 (1 + (a2AtI more 0 20))] hB ⟨⟨(a2At_ok more 0 20 hmore.1 (by omega)), trivial⟩, (inR_i64 (by omega) (by omega)), trivial⟩ ?_
  refine aw_seq ?_
  obtain ⟨v_2, c_2, hx2_0, hx2_1, hc2⟩ := BestReadings_ok v_1 (1 + (a2AtI more 0 20)) hl (by omega)
  have hv1 := hx2_0
  have hc1_ := hx2_1
  have hkp : 0 < (1 + a2AtI more 0 20).toNat := by omega
  have hbf := best_few hl (1 + a2AtI more 0 20).toNat
  have hba := best_any hl hkp
  have hbl := (best_fst hl (1 + a2AtI more 0 20).toNat).2.1
  have hb1 := best_any hl (k := 1) (by decide)
  rw [← hv1] at hbf hba hbl
  refine aw_r [(2, .call [(false, agLattice v_1), (true, .any)] true (.tup [slReading true v_2, I c_2]))] [5, 6, 7, 8] [5] [.ref 5 0, I (1 + (a2AtI more 0 20)), slReading true v_2, I c_2] [some (bxLatticeT v_1)] [Con Tryz.prog 9 [agLattice v_1, I (1 + (a2AtI more 0 20))] true (.tup [slReading true v_2, I c_2]) ∧ ((valOf (I v_1.Nodes) = valOf (I v_1.Nodes)) ∧ ((false = true → true = true) ∧ 4 = 4 ∧ v_1.Edges.length = v_1.Edges.length ∧ ∀ i_, i_ < v_1.Edges.length → (fEdge v_1.Edges) i_ = (fEdge v_1.Edges) i_ ∨ (AV.idsL ((fEdge v_1.Edges) i_) = [] ∧ leL (fun _ => none) false ((fEdge v_1.Edges) i_) ((fEdge v_1.Edges) i_))) ∧ ([] : List AV) = []) ∧ True] hB ⟨⟨hc2, ⟨rfl, ⟨⟨(fun h => by cases h), rfl, rfl, fun i _ => .inl rfl⟩, rfl⟩⟩, trivial⟩, trivial⟩ ?_
  refine ae_then ?_
  refine aw_seq ?_
  obtain ⟨v_3, c_3, hx3_0, hc3⟩ := BestReading_ok v_1 hl
  have hbr := hx3_0
  refine aw_r [(1, .call [(false, agLattice v_1)] true (.tup [agReading v_3, I c_3])), (5, .new 9)] [5, 6, 7, 8, 9, 10] [5, 9] [.ref 5 0, I (1 + (a2AtI more 0 20)), slReading true v_2, I c_2, .ref 9 0, I c_3] [some (bxLatticeT v_1), some (bxReading v_3)] [Con Tryz.prog 10 [agLattice v_1] true (.tup [agReading v_3, I c_3]) ∧ ((valOf (I v_1.Nodes) = valOf (I v_1.Nodes)) ∧ ((false = true → true = true) ∧ 4 = 4 ∧ v_1.Edges.length = v_1.Edges.length ∧ ∀ i_, i_ < v_1.Edges.length → (fEdge v_1.Edges) i_ = (fEdge v_1.Edges) i_ ∨ (AV.idsL ((fEdge v_1.Edges) i_) = [] ∧ leL (fun _ => none) false ((fEdge v_1.Edges) i_) ((fEdge v_1.Edges) i_))) ∧ ([] : List AV) = []) ∧ True] hB ⟨⟨hc3, ⟨rfl, ⟨⟨(fun h => by cases h), rfl, rfl, fun i _ => .inl rfl⟩, rfl⟩⟩, trivial⟩, trivial⟩ ?_
  refine ae_then ?_
  refine aw_seq ?_
  obtain ⟨v_4, c_4, hx4_0, hx4_1, hc4⟩ := PathCount_ok v_1 hl hdg
  have hpn := (hx4_0).1
  have hpn2 := (hx4_0).2
  have hc3_ := hx4_1
  refine aw_r [(1, .call [(false, agLattice v_1)] true (.tup [I v_4, I c_4]))] [5, 6, 7, 8, 9, 10, 11, 12] [5, 9] [.ref 5 0, I (1 + (a2AtI more 0 20)), slReading true v_2, I c_2, .ref 9 0, I c_3, I v_4, I c_4] [some (bxLatticeT v_1), some (bxReading v_3)] [Con Tryz.prog 11 [agLattice v_1] true (.tup [I v_4, I c_4]) ∧ ((valOf (I v_1.Nodes) = valOf (I v_1.Nodes)) ∧ ((false = true → true = true) ∧ 4 = 4 ∧ v_1.Edges.length = v_1.Edges.length ∧ ∀ i_, i_ < v_1.Edges.length → (fEdge v_1.Edges) i_ = (fEdge v_1.Edges) i_ ∨ (AV.idsL ((fEdge v_1.Edges) i_) = [] ∧ leL (fun _ => none) false ((fEdge v_1.Edges) i_) ((fEdge v_1.Edges) i_))) ∧ ([] : List AV) = []) ∧ True] hB ⟨⟨hc4, ⟨rfl, ⟨⟨(fun h => by cases h), rfl, rfl, fun i _ => .inl rfl⟩, rfl⟩⟩, trivial⟩, trivial⟩ ?_
  refine ae_then ?_
  refine aw_seq ?_
  refine aw_seq ?_
  by_cases h2 : (1 + (a2AtI more 0 20)) < (v_2.length : Int)
  ·refine aw_r [(1, .dec false), (4, .dec false), (10, .dec true)] [5, 7, 9, 10, 68] [5, 9] [.ref 5 0, slReading true v_2, .ref 9 0, I c_3, Bv true] [some (bxLatticeT v_1), some (bxReading v_3)] [¬ (c_2 ≠ 0), ¬ (c_4 ≠ 0), (1 + (a2AtI more 0 20)) < (v_2.length : Int)] hB ⟨(fun hq => hq hc1_), (fun hq => hq hc3_), h2, trivial⟩ ?_
   refine ae_then ?_
   refine aw_true rfl ?_
   refine aR [] [4] [] [Bv false] [] [] hB trivial ?_
   refine aw_ret ?_
   refine ae_ret_then ?_
   refine ae_ret hB (Bv false) (by kernel_rfl) (.inl (by first | rfl | (exfalso; omega) | (exfalso; exact hls.1 (by omega)) | (exfalso; exact hls.2 ⟨by omega, .inl (by omega)⟩) | (exfalso; exact hls.2 ⟨by omega, .inr ⟨by omega, by assumption⟩⟩) | (refine congrArg Bv ?_; simp [*]; done) | (exfalso; simp_all; done))) rfl (fun _ => trivial)
  by_cases h3 : 0 < v_4
  ·by_cases h4 : 0 < (v_2.length : Int)
   ·refine aw_r [(1, .dec false), (4, .dec false), (10, .dec false), (16, .dec false), (20, .dec true), (23, .dec true)] [5, 7, 9, 10, 68] [5, 9] [.ref 5 0, slReading true v_2, .ref 9 0, I c_3, Bv false] [some (bxLatticeT v_1), some (bxReading v_3)] [¬ (c_2 ≠ 0), ¬ (c_4 ≠ 0), ¬ ((1 + (a2AtI more 0 20)) < (v_2.length : Int)), ¬ (v_4 < (v_2.length : Int)), 0 < v_4, 0 < (v_2.length : Int)] hB ⟨(fun hq => hq hc1_), (fun hq => hq hc3_), h2, (by omega), h3, h4, trivial⟩ ?_
    refine ae_then ?_
    refine aw_false rfl ?_
    refine aw_skip ?_
    refine ae_then ?_
    refine aw_seq ?_
    refine aw_seq ?_
    by_cases h5 : (v_2.length : Int) = 0
    ·have hc2_ : c_3 = 3 := by rcases hbr with q | q; (exact absurd (hb1.1 q.2.1) (by omega)); (exact q.1)
     refine aw_r [(2, .dec true)] [5, 7, 9, 10, 71] [5, 9] [.ref 5 0, slReading true v_2, .ref 9 0, I c_3, Bv true] [some (bxLatticeT v_1), some (bxReading v_3)] [(v_2.length : Int) = 0] hB ⟨h5, trivial⟩ ?_
     refine ae_then ?_
     refine aw_true rfl ?_
     refine aR [(1, .dec true)] [4] [] [Bv true] [] [c_3 = 3] hB ⟨hc2_, trivial⟩ ?_
     refine aw_ret ?_
     refine ae_ret_then ?_
     refine ae_ret hB (Bv true) (by kernel_rfl) (.inl rfl) rfl (fun _ => trivial)
    have hpos : 0 < v_2.length := by omega
    have hb1p := hb1.2 (hba.1 hpos)
    have hc2_ : c_3 = 0 := by rcases hbr with q | q; (exact q.1); (omega)
    have hb0 : v_3 = at_ v_2 0 := by rcases hbr with q | q; (rw [q.2.2, hv1]; exact best_one hl hb1p (by rw [← hv1]; exact hpos)); (omega)
    refine aw_r [(2, .dec false)] [5, 7, 9, 10, 71] [5, 9] [.ref 5 0, slReading true v_2, .ref 9 0, I c_3, Bv false] [some (bxLatticeT v_1), some (bxReading v_3)] [¬ ((v_2.length : Int) = 0)] hB ⟨h5, trivial⟩ ?_
    refine ae_then ?_
    refine aw_false rfl ?_
    refine aw_skip ?_
    refine ae_then ?_
    refine aw_seq ?_
    refine aR [(1, .dec false), (7, .dec false)] [5, 7, 82] [5] [.ref 5 0, slReading true v_2, Bv false] [some (bxLatticeT v_1)] [¬ (c_3 ≠ 0), (0 : Int) ≤ 0 ∧ 0 < (v_2.length : Int), ¬ (¬ (v_3.Text = ((at_ v_2 0).Text) ∧ v_3.Cost = ((at_ v_2 0).Cost) ∧ True))] hB ⟨(fun hq => hq hc2_), ⟨(by omega), (by omega)⟩, (fun hq => hq (by rw [hb0]; exact ⟨rfl, rfl, trivial⟩)), trivial⟩ ?_
    refine aw_false rfl ?_
    refine aw_skip ?_
    refine ae_then ?_
    refine aw_seq ?_
    refine aR [] [5, 7, 13] [5] [.ref 5 0, slReading true v_2, I 0] [some (bxLatticeT v_1)] [] hB trivial ?_
    refine aw_block ?_
    refine aw_loop (fun gn gσ => ∃ (i : Int), gn = ((v_2.length : Int) - i).toNat ∧ (0 ≤ i ∧ i ≤ (v_2.length : Int)) ∧ gσ = mkS [(5, .ref 5 0), (7, slReading true v_2), (13, I i)] [(5, bxLatticeT v_1)]) (((v_2.length : Int) - 0).toNat) ⟨0, rfl, (by omega), rfl⟩ (fun gn gσ hI => ?_)
    obtain ⟨i, rfl, hi0, rfl⟩ := hI
    refine aw_seq ?_
    refine aw_seq ?_
    by_cases h6 : i < (v_2.length : Int)
    ·have hi : i.toNat < v_2.length := by omega
     have hbd := best_bd hl (k := (1 + a2AtI more 0 20).toNat) (i := i.toNat) (by rw [← hv1]; exact hi)
     rw [← hv1] at hbd
     refine aw_r [(3, .dec true)] [5, 7, 13, 86] [5] [.ref 5 0, slReading true v_2, I i, Bv true] [some (bxLatticeT v_1)] [i < (v_2.length : Int)] hB ⟨h6, trivial⟩ ?_
     refine ae_then ?_
     refine aw_true rfl ?_
     refine aw_skip ?_
     refine ae_then ?_
     refine aw_seq ?_
     refine aw_block ?_
     refine aw_seq ?_
     obtain ⟨v_5, c_5, hx5_0, hc5⟩ := TextCost_ok v_1 ((at_ v_2 i.toNat).Text) hl (by omega)
     have htc := hx5_0
     have hcst := best_cost hl (k := (1 + a2AtI more 0 20).toNat) (i := i.toNat) (by rw [← hv1]; exact hi)
     rw [← hv1] at hcst
     have hc4_ : c_5 = 0 := by rcases htc with q | q; (exact q.1); (exact absurd (by rw [hcst]; omega) q.2)
     have htv : v_5 = (at_ v_2 i.toNat).Cost := by rcases htc with q | q; (rw [q.2.1, hcst]); (omega)
     refine aw_r [(6, .call [(false, agLattice v_1), (true, .any)] true (.tup [I v_5, I c_5]))] [5, 7, 13, 14, 15] [5] [.ref 5 0, slReading true v_2, I i, I v_5, I c_5] [some (bxLatticeT v_1)] [(0 : Int) ≤ i ∧ i < (v_2.length : Int), Con Tryz.prog 12 [agLattice v_1, Sv ((at_ v_2 i.toNat).Text)] true (.tup [I v_5, I c_5]) ∧ ((valOf (I v_1.Nodes) = valOf (I v_1.Nodes)) ∧ ((false = true → true = true) ∧ 4 = 4 ∧ v_1.Edges.length = v_1.Edges.length ∧ ∀ i_, i_ < v_1.Edges.length → (fEdge v_1.Edges) i_ = (fEdge v_1.Edges) i_ ∨ (AV.idsL ((fEdge v_1.Edges) i_) = [] ∧ leL (fun _ => none) false ((fEdge v_1.Edges) i_) ((fEdge v_1.Edges) i_))) ∧ ([] : List AV) = []) ∧ True] hB ⟨⟨(by omega), (by omega)⟩, ⟨hc5, ⟨rfl, ⟨⟨(fun h => by cases h), rfl, rfl, fun i _ => .inl rfl⟩, rfl⟩⟩, trivial⟩, trivial⟩ ?_
     refine ae_then ?_
     refine aw_seq ?_
     refine aR [(1, .dec false), (9, .dec false)] [5, 7, 13, 14, 109] [5] [.ref 5 0, slReading true v_2, I i, I v_5, Bv false] [some (bxLatticeT v_1)] [¬ (c_5 ≠ 0), (0 : Int) ≤ i ∧ i < (v_2.length : Int), ¬ (v_5 ≠ ((at_ v_2 i.toNat).Cost))] hB ⟨(fun hq => hq hc4_), ⟨(by omega), (by omega)⟩, (fun hq => hq htv), trivial⟩ ?_
     refine aw_false rfl ?_
     refine aw_skip ?_
     refine ae_then ?_
     refine aw_seq ?_
     refine aw_seq ?_
     by_cases h7 : i = 0
     ·refine aw_r [(1, .dec true)] [5, 7, 13, 14, 111] [5] [.ref 5 0, slReading true v_2, I i, I v_5, Bv true] [some (bxLatticeT v_1)] [i = 0] hB ⟨h7, trivial⟩ ?_
      refine ae_then ?_
      refine aw_true rfl ?_
      refine aw_exit ?_
      refine ae_exit_then ?_
      refine ae_exit_same ?_
      refine ae_then ?_
      refine aw_r [] [5, 7, 13] [5] [.ref 5 0, slReading true v_2, I (i + 1)] [some (bxLatticeT v_1)] [inR .i64 (i + 1)] hB ⟨(inR_i64 (by omega) (by omega)), trivial⟩ ?_
      exact ae_again _ (by omega) ⟨(i + 1), rfl, (by omega), rfl⟩
     have hord := best_ord hl (k := (1 + a2AtI more 0 20).toNat) (i := i.toNat) (by omega) (by rw [← hv1]; exact hi)
     rw [← hv1, show i.toNat - 1 = (i - 1).toNat from by omega] at hord
     have hls := cmpR_less hord
     refine aw_r [(1, .dec false)] [5, 7, 13, 14, 111] [5] [.ref 5 0, slReading true v_2, I i, I v_5, Bv false] [some (bxLatticeT v_1)] [¬ (i = 0)] hB ⟨h7, trivial⟩ ?_
     refine ae_then ?_
     refine aw_false rfl ?_
     refine aw_skip ?_
     refine ae_then ?_
     refine aR [(5, .new 16)] [5, 7, 13, 14, 16] [5, 16] [.ref 5 0, slReading true v_2, I i, I v_5, .ref 16 0] [some (bxLatticeT v_1), some (bxReading (at_ v_2 ((i - 1).toNat)))] [inR .i64 (i - 1), (0 : Int) ≤ (i - 1) ∧ (i - 1) < (v_2.length : Int)] hB ⟨(inR_i64 (by omega) (by omega)), ⟨(by omega), (by omega)⟩, trivial⟩ ?_
     refine aw_seq ?_
     by_cases h8 : v_5 < ((at_ v_2 ((i - 1).toNat)).Cost)
     ·refine aw_r [(3, .dec true)] [5, 7, 13, 160] [5] [.ref 5 0, slReading true v_2, I i, Bv true] [some (bxLatticeT v_1)] [v_5 < ((at_ v_2 ((i - 1).toNat)).Cost)] hB ⟨h8, trivial⟩ ?_
      refine ae_then ?_
      refine aw_true rfl ?_
      refine aR [] [4] [] [Bv false] [] [] hB trivial ?_
      refine aw_ret ?_
      refine ae_ret_block (ae_ret_then (ae_ret_then (ae_ret_block (ae_ret_then ?_))))
      refine ae_ret hB (Bv false) (by kernel_rfl) (.inl (by first | rfl | (exfalso; omega) | (exfalso; exact hls.1 (by omega)) | (exfalso; exact hls.2 ⟨by omega, .inl (by omega)⟩) | (exfalso; exact hls.2 ⟨by omega, .inr ⟨by omega, by assumption⟩⟩) | (refine congrArg Bv ?_; simp [*]; done) | (exfalso; simp_all; done))) rfl (fun _ => trivial)
     by_cases h9 : ((at_ v_2 ((i - 1).toNat)).Cost) = v_5
     ·by_cases h10 : (((at_ v_2 i.toNat).Text).size : Int) < (((at_ v_2 ((i - 1).toNat)).Text).size : Int)
      ·refine aw_r [(3, .dec false), (8, .dec true), (19, .dec true)] [5, 7, 13, 160] [5] [.ref 5 0, slReading true v_2, I i, Bv true] [some (bxLatticeT v_1)] [¬ (v_5 < ((at_ v_2 ((i - 1).toNat)).Cost)), ((at_ v_2 ((i - 1).toNat)).Cost) = v_5, (0 : Int) ≤ i ∧ i < (v_2.length : Int), (((at_ v_2 i.toNat).Text).size : Int) < (((at_ v_2 ((i - 1).toNat)).Text).size : Int)] hB ⟨h8, h9, ⟨(by omega), (by omega)⟩, h10, trivial⟩ ?_
       refine ae_then ?_
       refine aw_true rfl ?_
       refine aR [] [4] [] [Bv false] [] [] hB trivial ?_
       refine aw_ret ?_
       refine ae_ret_block (ae_ret_then (ae_ret_then (ae_ret_block (ae_ret_then ?_))))
       refine ae_ret hB (Bv false) (by kernel_rfl) (.inl (by first | rfl | (exfalso; omega) | (exfalso; exact hls.1 (by omega)) | (exfalso; exact hls.2 ⟨by omega, .inl (by omega)⟩) | (exfalso; exact hls.2 ⟨by omega, .inr ⟨by omega, by assumption⟩⟩) | (refine congrArg Bv ?_; simp [*]; done) | (exfalso; simp_all; done))) rfl (fun _ => trivial)
      by_cases h11 : (((at_ v_2 ((i - 1).toNat)).Text).size : Int) = (((at_ v_2 i.toNat).Text).size : Int)
      ·by_cases h12 : sless ((at_ v_2 ((i - 1).toNat)).Text) ((at_ v_2 i.toNat).Text) = false
       ·refine aw_r [(3, .dec false), (8, .dec true), (19, .dec false), (30, .dec true), (39, .dec true)] [5, 7, 13, 160] [5] [.ref 5 0, slReading true v_2, I i, Bv true] [some (bxLatticeT v_1)] [¬ (v_5 < ((at_ v_2 ((i - 1).toNat)).Cost)), ((at_ v_2 ((i - 1).toNat)).Cost) = v_5, (0 : Int) ≤ i ∧ i < (v_2.length : Int), ¬ ((((at_ v_2 i.toNat).Text).size : Int) < (((at_ v_2 ((i - 1).toNat)).Text).size : Int)), (0 : Int) ≤ i ∧ i < (v_2.length : Int), (((at_ v_2 ((i - 1).toNat)).Text).size : Int) = (((at_ v_2 i.toNat).Text).size : Int), (0 : Int) ≤ i ∧ i < (v_2.length : Int), sless ((at_ v_2 ((i - 1).toNat)).Text) ((at_ v_2 i.toNat).Text) = false] hB ⟨h8, h9, ⟨(by omega), (by omega)⟩, h10, ⟨(by omega), (by omega)⟩, h11, ⟨(by omega), (by omega)⟩, h12, trivial⟩ ?_
        refine ae_then ?_
        refine aw_true rfl ?_
        refine aR [] [4] [] [Bv false] [] [] hB trivial ?_
        refine aw_ret ?_
        refine ae_ret_block (ae_ret_then (ae_ret_then (ae_ret_block (ae_ret_then ?_))))
        refine ae_ret hB (Bv false) (by kernel_rfl) (.inl (by first | rfl | (exfalso; omega) | (exfalso; exact hls.1 (by omega)) | (exfalso; exact hls.2 ⟨by omega, .inl (by omega)⟩) | (exfalso; exact hls.2 ⟨by omega, .inr ⟨by omega, by assumption⟩⟩) | (refine congrArg Bv ?_; simp [*]; done) | (exfalso; simp_all; done))) rfl (fun _ => trivial)
       refine aw_r [(3, .dec false), (8, .dec true), (19, .dec false), (30, .dec true), (39, .dec false)] [5, 7, 13, 160] [5] [.ref 5 0, slReading true v_2, I i, Bv false] [some (bxLatticeT v_1)] [¬ (v_5 < ((at_ v_2 ((i - 1).toNat)).Cost)), ((at_ v_2 ((i - 1).toNat)).Cost) = v_5, (0 : Int) ≤ i ∧ i < (v_2.length : Int), ¬ ((((at_ v_2 i.toNat).Text).size : Int) < (((at_ v_2 ((i - 1).toNat)).Text).size : Int)), (0 : Int) ≤ i ∧ i < (v_2.length : Int), (((at_ v_2 ((i - 1).toNat)).Text).size : Int) = (((at_ v_2 i.toNat).Text).size : Int), (0 : Int) ≤ i ∧ i < (v_2.length : Int), ¬ (sless ((at_ v_2 ((i - 1).toNat)).Text) ((at_ v_2 i.toNat).Text) = false)] hB ⟨h8, h9, ⟨(by omega), (by omega)⟩, h10, ⟨(by omega), (by omega)⟩, h11, ⟨(by omega), (by omega)⟩, h12, trivial⟩ ?_
       refine ae_then ?_
       refine aw_false rfl ?_
       refine aw_skip ?_
       refine ae_block 1 ?_
       refine ae_then ?_
       refine aw_r [] [5, 7, 13] [5] [.ref 5 0, slReading true v_2, I (i + 1)] [some (bxLatticeT v_1)] [inR .i64 (i + 1)] hB ⟨(inR_i64 (by omega) (by omega)), trivial⟩ ?_
       exact ae_again _ (by omega) ⟨(i + 1), rfl, (by omega), rfl⟩
      refine aw_r [(3, .dec false), (8, .dec true), (19, .dec false), (30, .dec false)] [5, 7, 13, 160] [5] [.ref 5 0, slReading true v_2, I i, Bv false] [some (bxLatticeT v_1)] [¬ (v_5 < ((at_ v_2 ((i - 1).toNat)).Cost)), ((at_ v_2 ((i - 1).toNat)).Cost) = v_5, (0 : Int) ≤ i ∧ i < (v_2.length : Int), ¬ ((((at_ v_2 i.toNat).Text).size : Int) < (((at_ v_2 ((i - 1).toNat)).Text).size : Int)), (0 : Int) ≤ i ∧ i < (v_2.length : Int), ¬ ((((at_ v_2 ((i - 1).toNat)).Text).size : Int) = (((at_ v_2 i.toNat).Text).size : Int))] hB ⟨h8, h9, ⟨(by omega), (by omega)⟩, h10, ⟨(by omega), (by omega)⟩, h11, trivial⟩ ?_
      refine ae_then ?_
      refine aw_false rfl ?_
      refine aw_skip ?_
      refine ae_block 1 ?_
      refine ae_then ?_
      refine aw_r [] [5, 7, 13] [5] [.ref 5 0, slReading true v_2, I (i + 1)] [some (bxLatticeT v_1)] [inR .i64 (i + 1)] hB ⟨(inR_i64 (by omega) (by omega)), trivial⟩ ?_
      exact ae_again _ (by omega) ⟨(i + 1), rfl, (by omega), rfl⟩
     refine aw_r [(3, .dec false), (8, .dec false)] [5, 7, 13, 160] [5] [.ref 5 0, slReading true v_2, I i, Bv false] [some (bxLatticeT v_1)] [¬ (v_5 < ((at_ v_2 ((i - 1).toNat)).Cost)), ¬ (((at_ v_2 ((i - 1).toNat)).Cost) = v_5)] hB ⟨h8, h9, trivial⟩ ?_
     refine ae_then ?_
     refine aw_false rfl ?_
     refine aw_skip ?_
     refine ae_block 1 ?_
     refine ae_then ?_
     refine aw_r [] [5, 7, 13] [5] [.ref 5 0, slReading true v_2, I (i + 1)] [some (bxLatticeT v_1)] [inR .i64 (i + 1)] hB ⟨(inR_i64 (by omega) (by omega)), trivial⟩ ?_
     exact ae_again _ (by omega) ⟨(i + 1), rfl, (by omega), rfl⟩
    refine aw_r [(3, .dec false)] [5, 7, 13, 86] [5] [.ref 5 0, slReading true v_2, I i, Bv false] [some (bxLatticeT v_1)] [¬ (i < (v_2.length : Int))] hB ⟨h6, trivial⟩ ?_
    refine ae_then ?_
    refine aw_false rfl ?_
    refine aw_exit ?_
    refine ae_exit_then ?_
    refine ae_exit_then ?_
    refine ae_exit_same ?_
    refine ae_then ?_
    refine aw_seq ?_
    obtain ⟨v_6, c_6, hx6_0, hx6_1, hc6⟩ := ReadLattice_ok (ltTx v_1) ⟨_, hl, rfl⟩
    have hrd : v_6 = v_1 := hx6_0 _ hl rfl
    have hrc := hx6_1
    refine aw_r [(1, .call [(false, agLattice v_1)] true (Sv (ltTx v_1))), (2, .call [(true, .any)] true (.tup [agLatticeT v_6, Bv c_6])), (6, .new 17)] [5, 17, 18] [5, 17] [.ref 5 0, .ref 17 0, Bv c_6] [some (bxLatticeT v_1), some (bxLatticeT v_6)] [Con Tryz.prog 14 [agLattice v_1] true (Sv (ltTx v_1)) ∧ ((valOf (I v_1.Nodes) = valOf (I v_1.Nodes)) ∧ ((false = true → true = true) ∧ 4 = 4 ∧ v_1.Edges.length = v_1.Edges.length ∧ ∀ i_, i_ < v_1.Edges.length → (fEdge v_1.Edges) i_ = (fEdge v_1.Edges) i_ ∨ (AV.idsL ((fEdge v_1.Edges) i_) = [] ∧ leL (fun _ => none) false ((fEdge v_1.Edges) i_) ((fEdge v_1.Edges) i_))) ∧ ([] : List AV) = []) ∧ True, Con Tryz.prog 13 [Sv (ltTx v_1)] true (.tup [agLatticeT v_6, Bv c_6]) ∧ True] hB ⟨⟨(LatticeText_ok v_1 hl), ⟨rfl, ⟨⟨(fun h => by cases h), rfl, rfl, fun i _ => .inl rfl⟩, rfl⟩⟩, trivial⟩, ⟨hc6, trivial⟩, trivial⟩ ?_
    refine ae_then ?_
    refine aw_seq ?_
    rcases Bool.eq_false_or_eq_true c_6 with h13 | h13
    ·subst h13
     refine aw_r [(4, .call [(false, agLattice v_6), (false, agLattice v_1)] true (Bv true))] [4] [] [Bv true] [] [Con Tryz.prog 15 [agLattice v_6, agLattice v_1] true (Bv true) ∧ ((valOf (I v_6.Nodes) = valOf (I v_6.Nodes)) ∧ ((false = true → true = true) ∧ 4 = 4 ∧ v_6.Edges.length = v_6.Edges.length ∧ ∀ i_, i_ < v_6.Edges.length → (fEdge v_6.Edges) i_ = (fEdge v_6.Edges) i_ ∨ (AV.idsL ((fEdge v_6.Edges) i_) = [] ∧ leL (fun _ => none) false ((fEdge v_6.Edges) i_) ((fEdge v_6.Edges) i_))) ∧ ([] : List AV) = []) ∧ ((valOf (I v_1.Nodes) = valOf (I v_1.Nodes)) ∧ ((false = true → true = true) ∧ 4 = 4 ∧ v_1.Edges.length = v_1.Edges.length ∧ ∀ i_, i_ < v_1.Edges.length → (fEdge v_1.Edges) i_ = (fEdge v_1.Edges) i_ ∨ (AV.idsL ((fEdge v_1.Edges) i_) = [] ∧ leL (fun _ => none) false ((fEdge v_1.Edges) i_) ((fEdge v_1.Edges) i_))) ∧ ([] : List AV) = []) ∧ True] hB ⟨⟨(specSameLattice_ok v_6 v_1 hrd), ⟨rfl, ⟨⟨(fun h => by cases h), rfl, rfl, fun i _ => .inl rfl⟩, rfl⟩⟩, ⟨rfl, ⟨⟨(fun h => by cases h), rfl, rfl, fun i _ => .inl rfl⟩, rfl⟩⟩, trivial⟩, trivial⟩ ?_
     refine ae_then ?_
     refine aw_ret ?_
     refine ae_ret hB (Bv true) (by kernel_rfl) (.inl rfl) rfl (fun _ => trivial)
    subst h13
    refine aw_r [] [4] [] [Bv false] [] [] hB trivial ?_
    refine ae_then ?_
    refine aw_ret ?_
    refine ae_ret hB (Bv false) (by kernel_rfl) (.inl (by first | rfl | (exfalso; omega) | (exfalso; exact hls.1 (by omega)) | (exfalso; exact hls.2 ⟨by omega, .inl (by omega)⟩) | (exfalso; exact hls.2 ⟨by omega, .inr ⟨by omega, by assumption⟩⟩) | (refine congrArg Bv ?_; simp [*]; done) | (exfalso; simp_all; done))) rfl (fun _ => trivial)
   refine aw_r [(1, .dec false), (4, .dec false), (10, .dec false), (16, .dec false), (20, .dec true), (23, .dec false)] [5, 7, 9, 10, 68] [5, 9] [.ref 5 0, slReading true v_2, .ref 9 0, I c_3, Bv true] [some (bxLatticeT v_1), some (bxReading v_3)] [¬ (c_2 ≠ 0), ¬ (c_4 ≠ 0), ¬ ((1 + (a2AtI more 0 20)) < (v_2.length : Int)), ¬ (v_4 < (v_2.length : Int)), 0 < v_4, ¬ (0 < (v_2.length : Int))] hB ⟨(fun hq => hq hc1_), (fun hq => hq hc3_), h2, (by omega), h3, h4, trivial⟩ ?_
   refine ae_then ?_
   refine aw_true rfl ?_
   refine aR [] [4] [] [Bv false] [] [] hB trivial ?_
   refine aw_ret ?_
   refine ae_ret_then ?_
   refine ae_ret hB (Bv false) (by kernel_rfl) (.inl (by first | rfl | (exfalso; omega) | (exfalso; exact hls.1 (by omega)) | (exfalso; exact hls.2 ⟨by omega, .inl (by omega)⟩) | (exfalso; exact hls.2 ⟨by omega, .inr ⟨by omega, by assumption⟩⟩) | (refine congrArg Bv ?_; simp [*]; done) | (exfalso; simp_all; done))) rfl (fun _ => trivial)
  by_cases h14 : 0 < (v_2.length : Int)
  ·refine aw_r [(1, .dec false), (4, .dec false), (10, .dec false), (16, .dec false), (20, .dec false), (23, .dec true)] [5, 7, 9, 10, 68] [5, 9] [.ref 5 0, slReading true v_2, .ref 9 0, I c_3, Bv true] [some (bxLatticeT v_1), some (bxReading v_3)] [¬ (c_2 ≠ 0), ¬ (c_4 ≠ 0), ¬ ((1 + (a2AtI more 0 20)) < (v_2.length : Int)), ¬ (v_4 < (v_2.length : Int)), ¬ (0 < v_4), 0 < (v_2.length : Int)] hB ⟨(fun hq => hq hc1_), (fun hq => hq hc3_), h2, (by omega), h3, h14, trivial⟩ ?_
   refine ae_then ?_
   refine aw_true rfl ?_
   refine aR [] [4] [] [Bv false] [] [] hB trivial ?_
   refine aw_ret ?_
   refine ae_ret_then ?_
   refine ae_ret hB (Bv false) (by kernel_rfl) (.inl (by first | rfl | (exfalso; omega) | (exfalso; exact hls.1 (by omega)) | (exfalso; exact hls.2 ⟨by omega, .inl (by omega)⟩) | (exfalso; exact hls.2 ⟨by omega, .inr ⟨by omega, by assumption⟩⟩) | (refine congrArg Bv ?_; simp [*]; done) | (exfalso; simp_all; done))) rfl (fun _ => trivial)
  refine aw_r [(1, .dec false), (4, .dec false), (10, .dec false), (16, .dec false), (20, .dec false), (23, .dec false)] [5, 7, 9, 10, 68] [5, 9] [.ref 5 0, slReading true v_2, .ref 9 0, I c_3, Bv false] [some (bxLatticeT v_1), some (bxReading v_3)] [¬ (c_2 ≠ 0), ¬ (c_4 ≠ 0), ¬ ((1 + (a2AtI more 0 20)) < (v_2.length : Int)), ¬ (v_4 < (v_2.length : Int)), ¬ (0 < v_4), ¬ (0 < (v_2.length : Int))] hB ⟨(fun hq => hq hc1_), (fun hq => hq hc3_), h2, (by omega), h3, h14, trivial⟩ ?_
  refine ae_then ?_
  refine aw_false rfl ?_
  refine aw_skip ?_
  refine ae_then ?_
  refine aw_seq ?_
  refine aw_seq ?_
  by_cases h15 : (v_2.length : Int) = 0
  ·have hc2_ : c_3 = 3 := by rcases hbr with q | q; (exact absurd (hb1.1 q.2.1) (by omega)); (exact q.1)
   refine aw_r [(2, .dec true)] [5, 7, 9, 10, 71] [5, 9] [.ref 5 0, slReading true v_2, .ref 9 0, I c_3, Bv true] [some (bxLatticeT v_1), some (bxReading v_3)] [(v_2.length : Int) = 0] hB ⟨h15, trivial⟩ ?_
   refine ae_then ?_
   refine aw_true rfl ?_
   refine aR [(1, .dec true)] [4] [] [Bv true] [] [c_3 = 3] hB ⟨hc2_, trivial⟩ ?_
   refine aw_ret ?_
   refine ae_ret_then ?_
   refine ae_ret hB (Bv true) (by kernel_rfl) (.inl rfl) rfl (fun _ => trivial)
  have hpos : 0 < v_2.length := by omega
  have hb1p := hb1.2 (hba.1 hpos)
  have hc2_ : c_3 = 0 := by rcases hbr with q | q; (exact q.1); (omega)
  have hb0 : v_3 = at_ v_2 0 := by rcases hbr with q | q; (rw [q.2.2, hv1]; exact best_one hl hb1p (by rw [← hv1]; exact hpos)); (omega)
  refine aw_r [(2, .dec false)] [5, 7, 9, 10, 71] [5, 9] [.ref 5 0, slReading true v_2, .ref 9 0, I c_3, Bv false] [some (bxLatticeT v_1), some (bxReading v_3)] [¬ ((v_2.length : Int) = 0)] hB ⟨h15, trivial⟩ ?_
  refine ae_then ?_
  refine aw_false rfl ?_
  refine aw_skip ?_
  refine ae_then ?_
  refine aw_seq ?_
  refine aR [(1, .dec false), (7, .dec false)] [5, 7, 82] [5] [.ref 5 0, slReading true v_2, Bv false] [some (bxLatticeT v_1)] [¬ (c_3 ≠ 0), (0 : Int) ≤ 0 ∧ 0 < (v_2.length : Int), ¬ (¬ (v_3.Text = ((at_ v_2 0).Text) ∧ v_3.Cost = ((at_ v_2 0).Cost) ∧ True))] hB ⟨(fun hq => hq hc2_), ⟨(by omega), (by omega)⟩, (fun hq => hq (by rw [hb0]; exact ⟨rfl, rfl, trivial⟩)), trivial⟩ ?_
  refine aw_false rfl ?_
  refine aw_skip ?_
  refine ae_then ?_
  refine aw_seq ?_
  refine aR [] [5, 7, 13] [5] [.ref 5 0, slReading true v_2, I 0] [some (bxLatticeT v_1)] [] hB trivial ?_
  refine aw_block ?_
  refine aw_loop (fun gn gσ => ∃ (i : Int), gn = ((v_2.length : Int) - i).toNat ∧ (0 ≤ i ∧ i ≤ (v_2.length : Int)) ∧ gσ = mkS [(5, .ref 5 0), (7, slReading true v_2), (13, I i)] [(5, bxLatticeT v_1)]) (((v_2.length : Int) - 0).toNat) ⟨0, rfl, (by omega), rfl⟩ (fun gn gσ hI => ?_)
  obtain ⟨i, rfl, hi0, rfl⟩ := hI
  refine aw_seq ?_
  refine aw_seq ?_
  by_cases h16 : i < (v_2.length : Int)
  ·have hi : i.toNat < v_2.length := by omega
   have hbd := best_bd hl (k := (1 + a2AtI more 0 20).toNat) (i := i.toNat) (by rw [← hv1]; exact hi)
   rw [← hv1] at hbd
   refine aw_r [(3, .dec true)] [5, 7, 13, 86] [5] [.ref 5 0, slReading true v_2, I i, Bv true] [some (bxLatticeT v_1)] [i < (v_2.length : Int)] hB ⟨h16, trivial⟩ ?_
   refine ae_then ?_
   refine aw_true rfl ?_
   refine aw_skip ?_
   refine ae_then ?_
   refine aw_seq ?_
   refine aw_block ?_
   refine aw_seq ?_
   obtain ⟨v_7, c_7, hx7_0, hc7⟩ := TextCost_ok v_1 ((at_ v_2 i.toNat).Text) hl (by omega)
   have htc := hx7_0
   have hcst := best_cost hl (k := (1 + a2AtI more 0 20).toNat) (i := i.toNat) (by rw [← hv1]; exact hi)
   rw [← hv1] at hcst
   have hc4_ : c_7 = 0 := by rcases htc with q | q; (exact q.1); (exact absurd (by rw [hcst]; omega) q.2)
   have htv : v_7 = (at_ v_2 i.toNat).Cost := by rcases htc with q | q; (rw [q.2.1, hcst]); (omega)
   refine aw_r [(6, .call [(false, agLattice v_1), (true, .any)] true (.tup [I v_7, I c_7]))] [5, 7, 13, 14, 15] [5] [.ref 5 0, slReading true v_2, I i, I v_7, I c_7] [some (bxLatticeT v_1)] [(0 : Int) ≤ i ∧ i < (v_2.length : Int), Con Tryz.prog 12 [agLattice v_1, Sv ((at_ v_2 i.toNat).Text)] true (.tup [I v_7, I c_7]) ∧ ((valOf (I v_1.Nodes) = valOf (I v_1.Nodes)) ∧ ((false = true → true = true) ∧ 4 = 4 ∧ v_1.Edges.length = v_1.Edges.length ∧ ∀ i_, i_ < v_1.Edges.length → (fEdge v_1.Edges) i_ = (fEdge v_1.Edges) i_ ∨ (AV.idsL ((fEdge v_1.Edges) i_) = [] ∧ leL (fun _ => none) false ((fEdge v_1.Edges) i_) ((fEdge v_1.Edges) i_))) ∧ ([] : List AV) = []) ∧ True] hB ⟨⟨(by omega), (by omega)⟩, ⟨hc7, ⟨rfl, ⟨⟨(fun h => by cases h), rfl, rfl, fun i _ => .inl rfl⟩, rfl⟩⟩, trivial⟩, trivial⟩ ?_
   refine ae_then ?_
   refine aw_seq ?_
   refine aR [(1, .dec false), (9, .dec false)] [5, 7, 13, 14, 109] [5] [.ref 5 0, slReading true v_2, I i, I v_7, Bv false] [some (bxLatticeT v_1)] [¬ (c_7 ≠ 0), (0 : Int) ≤ i ∧ i < (v_2.length : Int), ¬ (v_7 ≠ ((at_ v_2 i.toNat).Cost))] hB ⟨(fun hq => hq hc4_), ⟨(by omega), (by omega)⟩, (fun hq => hq htv), trivial⟩ ?_
   refine aw_false rfl ?_
   refine aw_skip ?_
   refine ae_then ?_
   refine aw_seq ?_
   refine aw_seq ?_
   by_cases h17 : i = 0
   ·refine aw_r [(1, .dec true)] [5, 7, 13, 14, 111] [5] [.ref 5 0, slReading true v_2, I i, I v_7, Bv true] [some (bxLatticeT v_1)] [i = 0] hB ⟨h17, trivial⟩ ?_
    refine ae_then ?_
    refine aw_true rfl ?_
    refine aw_exit ?_
    refine ae_exit_then ?_
    refine ae_exit_same ?_
    refine ae_then ?_
    refine aw_r [] [5, 7, 13] [5] [.ref 5 0, slReading true v_2, I (i + 1)] [some (bxLatticeT v_1)] [inR .i64 (i + 1)] hB ⟨(inR_i64 (by omega) (by omega)), trivial⟩ ?_
    exact ae_again _ (by omega) ⟨(i + 1), rfl, (by omega), rfl⟩
   have hord := best_ord hl (k := (1 + a2AtI more 0 20).toNat) (i := i.toNat) (by omega) (by rw [← hv1]; exact hi)
   rw [← hv1, show i.toNat - 1 = (i - 1).toNat from by omega] at hord
   have hls := cmpR_less hord
   refine aw_r [(1, .dec false)] [5, 7, 13, 14, 111] [5] [.ref 5 0, slReading true v_2, I i, I v_7, Bv false] [some (bxLatticeT v_1)] [¬ (i = 0)] hB ⟨h17, trivial⟩ ?_
   refine ae_then ?_
   refine aw_false rfl ?_
   refine aw_skip ?_
   refine ae_then ?_
   refine aR [(5, .new 16)] [5, 7, 13, 14, 16] [5, 16] [.ref 5 0, slReading true v_2, I i, I v_7, .ref 16 0] [some (bxLatticeT v_1), some (bxReading (at_ v_2 ((i - 1).toNat)))] [inR .i64 (i - 1), (0 : Int) ≤ (i - 1) ∧ (i - 1) < (v_2.length : Int)] hB ⟨(inR_i64 (by omega) (by omega)), ⟨(by omega), (by omega)⟩, trivial⟩ ?_
   refine aw_seq ?_
   by_cases h18 : v_7 < ((at_ v_2 ((i - 1).toNat)).Cost)
   ·refine aw_r [(3, .dec true)] [5, 7, 13, 160] [5] [.ref 5 0, slReading true v_2, I i, Bv true] [some (bxLatticeT v_1)] [v_7 < ((at_ v_2 ((i - 1).toNat)).Cost)] hB ⟨h18, trivial⟩ ?_
    refine ae_then ?_
    refine aw_true rfl ?_
    refine aR [] [4] [] [Bv false] [] [] hB trivial ?_
    refine aw_ret ?_
    refine ae_ret_block (ae_ret_then (ae_ret_then (ae_ret_block (ae_ret_then ?_))))
    refine ae_ret hB (Bv false) (by kernel_rfl) (.inl (by first | rfl | (exfalso; omega) | (exfalso; exact hls.1 (by omega)) | (exfalso; exact hls.2 ⟨by omega, .inl (by omega)⟩) | (exfalso; exact hls.2 ⟨by omega, .inr ⟨by omega, by assumption⟩⟩) | (refine congrArg Bv ?_; simp [*]; done) | (exfalso; simp_all; done))) rfl (fun _ => trivial)
   by_cases h19 : ((at_ v_2 ((i - 1).toNat)).Cost) = v_7
   ·by_cases h20 : (((at_ v_2 i.toNat).Text).size : Int) < (((at_ v_2 ((i - 1).toNat)).Text).size : Int)
    ·refine aw_r [(3, .dec false), (8, .dec true), (19, .dec true)] [5, 7, 13, 160] [5] [.ref 5 0, slReading true v_2, I i, Bv true] [some (bxLatticeT v_1)] [¬ (v_7 < ((at_ v_2 ((i - 1).toNat)).Cost)), ((at_ v_2 ((i - 1).toNat)).Cost) = v_7, (0 : Int) ≤ i ∧ i < (v_2.length : Int), (((at_ v_2 i.toNat).Text).size : Int) < (((at_ v_2 ((i - 1).toNat)).Text).size : Int)] hB ⟨h18, h19, ⟨(by omega), (by omega)⟩, h20, trivial⟩ ?_
     refine ae_then ?_
     refine aw_true rfl ?_
     refine aR [] [4] [] [Bv false] [] [] hB trivial ?_
     refine aw_ret ?_
     refine ae_ret_block (ae_ret_then (ae_ret_then (ae_ret_block (ae_ret_then ?_))))
     refine ae_ret hB (Bv false) (by kernel_rfl) (.inl (by first | rfl | (exfalso; omega) | (exfalso; exact hls.1 (by omega)) | (exfalso; exact hls.2 ⟨by omega, .inl (by omega)⟩) | (exfalso; exact hls.2 ⟨by omega, .inr ⟨by omega, by assumption⟩⟩) | (refine congrArg Bv ?_; simp [*]; done) | (exfalso; simp_all; done))) rfl (fun _ => trivial)
    by_cases h21 : (((at_ v_2 ((i - 1).toNat)).Text).size : Int) = (((at_ v_2 i.toNat).Text).size : Int)
    ·by_cases h22 : sless ((at_ v_2 ((i - 1).toNat)).Text) ((at_ v_2 i.toNat).Text) = false
     ·refine aw_r [(3, .dec false), (8, .dec true), (19, .dec false), (30, .dec true), (39, .dec true)] [5, 7, 13, 160] [5] [.ref 5 0, slReading true v_2, I i, Bv true] [some (bxLatticeT v_1)] [¬ (v_7 < ((at_ v_2 ((i - 1).toNat)).Cost)), ((at_ v_2 ((i - 1).toNat)).Cost) = v_7, (0 : Int) ≤ i ∧ i < (v_2.length : Int), ¬ ((((at_ v_2 i.toNat).Text).size : Int) < (((at_ v_2 ((i - 1).toNat)).Text).size : Int)), (0 : Int) ≤ i ∧ i < (v_2.length : Int), (((at_ v_2 ((i - 1).toNat)).Text).size : Int) = (((at_ v_2 i.toNat).Text).size : Int), (0 : Int) ≤ i ∧ i < (v_2.length : Int), sless ((at_ v_2 ((i - 1).toNat)).Text) ((at_ v_2 i.toNat).Text) = false] hB ⟨h18, h19, ⟨(by omega), (by omega)⟩, h20, ⟨(by omega), (by omega)⟩, h21, ⟨(by omega), (by omega)⟩, h22, trivial⟩ ?_
      refine ae_then ?_
      refine aw_true rfl ?_
      refine aR [] [4] [] [Bv false] [] [] hB trivial ?_
      refine aw_ret ?_
      refine ae_ret_block (ae_ret_then (ae_ret_then (ae_ret_block (ae_ret_then ?_))))
      refine ae_ret hB (Bv false) (by kernel_rfl) (.inl (by first | rfl | (exfalso; omega) | (exfalso; exact hls.1 (by omega)) | (exfalso; exact hls.2 ⟨by omega, .inl (by omega)⟩) | (exfalso; exact hls.2 ⟨by omega, .inr ⟨by omega, by assumption⟩⟩) | (refine congrArg Bv ?_; simp [*]; done) | (exfalso; simp_all; done))) rfl (fun _ => trivial)
     refine aw_r [(3, .dec false), (8, .dec true), (19, .dec false), (30, .dec true), (39, .dec false)] [5, 7, 13, 160] [5] [.ref 5 0, slReading true v_2, I i, Bv false] [some (bxLatticeT v_1)] [¬ (v_7 < ((at_ v_2 ((i - 1).toNat)).Cost)), ((at_ v_2 ((i - 1).toNat)).Cost) = v_7, (0 : Int) ≤ i ∧ i < (v_2.length : Int), ¬ ((((at_ v_2 i.toNat).Text).size : Int) < (((at_ v_2 ((i - 1).toNat)).Text).size : Int)), (0 : Int) ≤ i ∧ i < (v_2.length : Int), (((at_ v_2 ((i - 1).toNat)).Text).size : Int) = (((at_ v_2 i.toNat).Text).size : Int), (0 : Int) ≤ i ∧ i < (v_2.length : Int), ¬ (sless ((at_ v_2 ((i - 1).toNat)).Text) ((at_ v_2 i.toNat).Text) = false)] hB ⟨h18, h19, ⟨(by omega), (by omega)⟩, h20, ⟨(by omega), (by omega)⟩, h21, ⟨(by omega), (by omega)⟩, h22, trivial⟩ ?_
     refine ae_then ?_
     refine aw_false rfl ?_
     refine aw_skip ?_
     refine ae_block 1 ?_
     refine ae_then ?_
     refine aw_r [] [5, 7, 13] [5] [.ref 5 0, slReading true v_2, I (i + 1)] [some (bxLatticeT v_1)] [inR .i64 (i + 1)] hB ⟨(inR_i64 (by omega) (by omega)), trivial⟩ ?_
     exact ae_again _ (by omega) ⟨(i + 1), rfl, (by omega), rfl⟩
    refine aw_r [(3, .dec false), (8, .dec true), (19, .dec false), (30, .dec false)] [5, 7, 13, 160] [5] [.ref 5 0, slReading true v_2, I i, Bv false] [some (bxLatticeT v_1)] [¬ (v_7 < ((at_ v_2 ((i - 1).toNat)).Cost)), ((at_ v_2 ((i - 1).toNat)).Cost) = v_7, (0 : Int) ≤ i ∧ i < (v_2.length : Int), ¬ ((((at_ v_2 i.toNat).Text).size : Int) < (((at_ v_2 ((i - 1).toNat)).Text).size : Int)), (0 : Int) ≤ i ∧ i < (v_2.length : Int), ¬ ((((at_ v_2 ((i - 1).toNat)).Text).size : Int) = (((at_ v_2 i.toNat).Text).size : Int))] hB ⟨h18, h19, ⟨(by omega), (by omega)⟩, h20, ⟨(by omega), (by omega)⟩, h21, trivial⟩ ?_
    refine ae_then ?_
    refine aw_false rfl ?_
    refine aw_skip ?_
    refine ae_block 1 ?_
    refine ae_then ?_
    refine aw_r [] [5, 7, 13] [5] [.ref 5 0, slReading true v_2, I (i + 1)] [some (bxLatticeT v_1)] [inR .i64 (i + 1)] hB ⟨(inR_i64 (by omega) (by omega)), trivial⟩ ?_
    exact ae_again _ (by omega) ⟨(i + 1), rfl, (by omega), rfl⟩
   refine aw_r [(3, .dec false), (8, .dec false)] [5, 7, 13, 160] [5] [.ref 5 0, slReading true v_2, I i, Bv false] [some (bxLatticeT v_1)] [¬ (v_7 < ((at_ v_2 ((i - 1).toNat)).Cost)), ¬ (((at_ v_2 ((i - 1).toNat)).Cost) = v_7)] hB ⟨h18, h19, trivial⟩ ?_
   refine ae_then ?_
   refine aw_false rfl ?_
   refine aw_skip ?_
   refine ae_block 1 ?_
   refine ae_then ?_
   refine aw_r [] [5, 7, 13] [5] [.ref 5 0, slReading true v_2, I (i + 1)] [some (bxLatticeT v_1)] [inR .i64 (i + 1)] hB ⟨(inR_i64 (by omega) (by omega)), trivial⟩ ?_
   exact ae_again _ (by omega) ⟨(i + 1), rfl, (by omega), rfl⟩
  refine aw_r [(3, .dec false)] [5, 7, 13, 86] [5] [.ref 5 0, slReading true v_2, I i, Bv false] [some (bxLatticeT v_1)] [¬ (i < (v_2.length : Int))] hB ⟨h16, trivial⟩ ?_
  refine ae_then ?_
  refine aw_false rfl ?_
  refine aw_exit ?_
  refine ae_exit_then ?_
  refine ae_exit_then ?_
  refine ae_exit_same ?_
  refine ae_then ?_
  refine aw_seq ?_
  obtain ⟨v_8, c_8, hx8_0, hx8_1, hc8⟩ := ReadLattice_ok (ltTx v_1) ⟨_, hl, rfl⟩
  have hrd : v_8 = v_1 := hx8_0 _ hl rfl
  have hrc := hx8_1
  refine aw_r [(1, .call [(false, agLattice v_1)] true (Sv (ltTx v_1))), (2, .call [(true, .any)] true (.tup [agLatticeT v_8, Bv c_8])), (6, .new 17)] [5, 17, 18] [5, 17] [.ref 5 0, .ref 17 0, Bv c_8] [some (bxLatticeT v_1), some (bxLatticeT v_8)] [Con Tryz.prog 14 [agLattice v_1] true (Sv (ltTx v_1)) ∧ ((valOf (I v_1.Nodes) = valOf (I v_1.Nodes)) ∧ ((false = true → true = true) ∧ 4 = 4 ∧ v_1.Edges.length = v_1.Edges.length ∧ ∀ i_, i_ < v_1.Edges.length → (fEdge v_1.Edges) i_ = (fEdge v_1.Edges) i_ ∨ (AV.idsL ((fEdge v_1.Edges) i_) = [] ∧ leL (fun _ => none) false ((fEdge v_1.Edges) i_) ((fEdge v_1.Edges) i_))) ∧ ([] : List AV) = []) ∧ True, Con Tryz.prog 13 [Sv (ltTx v_1)] true (.tup [agLatticeT v_8, Bv c_8]) ∧ True] hB ⟨⟨(LatticeText_ok v_1 hl), ⟨rfl, ⟨⟨(fun h => by cases h), rfl, rfl, fun i _ => .inl rfl⟩, rfl⟩⟩, trivial⟩, ⟨hc8, trivial⟩, trivial⟩ ?_
  refine ae_then ?_
  refine aw_seq ?_
  rcases Bool.eq_false_or_eq_true c_8 with h23 | h23
  ·subst h23
   refine aw_r [(4, .call [(false, agLattice v_8), (false, agLattice v_1)] true (Bv true))] [4] [] [Bv true] [] [Con Tryz.prog 15 [agLattice v_8, agLattice v_1] true (Bv true) ∧ ((valOf (I v_8.Nodes) = valOf (I v_8.Nodes)) ∧ ((false = true → true = true) ∧ 4 = 4 ∧ v_8.Edges.length = v_8.Edges.length ∧ ∀ i_, i_ < v_8.Edges.length → (fEdge v_8.Edges) i_ = (fEdge v_8.Edges) i_ ∨ (AV.idsL ((fEdge v_8.Edges) i_) = [] ∧ leL (fun _ => none) false ((fEdge v_8.Edges) i_) ((fEdge v_8.Edges) i_))) ∧ ([] : List AV) = []) ∧ ((valOf (I v_1.Nodes) = valOf (I v_1.Nodes)) ∧ ((false = true → true = true) ∧ 4 = 4 ∧ v_1.Edges.length = v_1.Edges.length ∧ ∀ i_, i_ < v_1.Edges.length → (fEdge v_1.Edges) i_ = (fEdge v_1.Edges) i_ ∨ (AV.idsL ((fEdge v_1.Edges) i_) = [] ∧ leL (fun _ => none) false ((fEdge v_1.Edges) i_) ((fEdge v_1.Edges) i_))) ∧ ([] : List AV) = []) ∧ True] hB ⟨⟨(specSameLattice_ok v_8 v_1 hrd), ⟨rfl, ⟨⟨(fun h => by cases h), rfl, rfl, fun i _ => .inl rfl⟩, rfl⟩⟩, ⟨rfl, ⟨⟨(fun h => by cases h), rfl, rfl, fun i _ => .inl rfl⟩, rfl⟩⟩, trivial⟩, trivial⟩ ?_
   refine ae_then ?_
   refine aw_ret ?_
   refine ae_ret hB (Bv true) (by kernel_rfl) (.inl rfl) rfl (fun _ => trivial)
  subst h23
  refine aw_r [] [4] [] [Bv false] [] [] hB trivial ?_
  refine ae_then ?_
  refine aw_ret ?_
  refine ae_ret hB (Bv false) (by kernel_rfl) (.inl (by first | rfl | (exfalso; omega) | (exfalso; exact hls.1 (by omega)) | (exfalso; exact hls.2 ⟨by omega, .inl (by omega)⟩) | (exfalso; exact hls.2 ⟨by omega, .inr ⟨by omega, by assumption⟩⟩) | (refine congrArg Bv ?_; simp [*]; done) | (exfalso; simp_all; done))) rfl (fun _ => trivial)





theorem opens_t22 : OpensA Tryz.prog 22 (cLU8 false) (fun xs => ∀ y ∈ xs, inR .u8 y) :=
  opensA_slice (c := cU8) (sz := 1) Tryz.underlying22 (by kernel_rfl) (by decide) (fun x => ⟨rfl, by simp [oneA, cU8]⟩) (opensA_int Tryz.underlying5)


namespace fnReadings
set_option maxRecDepth 100000 in
theorem lifted (os : Os) (started : os.Started) (H : Type) (enc : TypeId × Value → H) :
    ReturnsInHanded {} Tryz.checked os 3 .any (fun w args => (Rows.fnReadingsSpec.pre enc Tryz.prog Tryz.f3 Rows.fnReadingsRow.domain false w args ∧ laidMetH Tryz.prog Rows.fnReadingsRow.laid w) ∧ sizedMet enc Tryz.prog Tryz.f3 (OpenSpec.ofChange Rows.fnReadingsSpec) false w args)
      (Rows.fnReadingsSpec.post enc Tryz.prog Tryz.f3 false true false false) := by
  refine returnsInHanded_of_change_and (C := Tryz.checked) (X := fun w _ => laidMetH Tryz.prog Rows.fnReadingsRow.laid w) (fun _ _ _ hh h => h.of_heap hh) Tryz.own started (by kernel_rfl) Tryz.func3
    (ChangeSpec.witness_shaped (enc := enc) (C := Tryz.checked) (os := os) (X := fun w _ => laidMetH Tryz.prog Rows.fnReadingsRow.laid w) false (World.laidAll Tryz.prog os Rows.fnReadingsRow.laid) #[.slice none 0 0, .slice none 0 0] 8 (World.laidAll_os _ _ _)
      (World.shaped_of_ZipB (by kernel_rfl) (by kernel_rfl)) (by kernel_rfl) (by kernel_rfl) (by kernel_rfl)
      (by rw [MakeChecks.laidMetH_plain _ _ _ (by kernel_rfl)]; exact laidMet_laidAll _ (by kernel_rfl) (by kernel_rfl))) ?_
  intro W base args ds gs before hval0 hW hcnd hsz hL _
  have hW' := hW
  obtain ⟨p, q, hA0, hV, rfl, hfz, hnd⟩ := hW
  have hval : ∀ (j : Nat) t v, Tryz.f3.params[j]? = some t → args[j]? = some v → Value.okWide Tryz.prog W .any base t v := hval0
  have hA : DataW.TrodAll enc Tryz.prog W 0 (fun _ => true) true Tryz.f3.params.toList args.toList ds p := hA0
  rw [Tryz.params3] at hA hval
  obtain ⟨v0, vs0, d0, ds0, p0, q0, hargs, rfl, rfl, h0, r0⟩ := trodAll_cons hA
  obtain ⟨v1, vs1, d1, ds1, p1, q1, rfl, rfl, rfl, h1, r1⟩ := trodAll_cons r0
  obtain ⟨rfl, rfl, rfl⟩ := trodAll_nil r1
  obtain rfl : args = #[v0, v1] := args_eq hargs
  obtain ⟨rfl, rfl⟩ := trodVars_none hV
  obtain ⟨fuel0, hf0⟩ := h0
  obtain ⟨A0, l0, c0, rfl⟩ := okWide_slice Tryz.underlying22 (hval 0 22 v0 rfl rfl)
  obtain ⟨x0, rx0, ok0⟩ := (opens_t22) enc W 0 _ _ _ _ _ hf0
  obtain ⟨fuel1, hf1⟩ := h1
  obtain ⟨A1, l1, c1, rfl⟩ := okWide_slice Tryz.underlying22 (hval 1 22 v1 rfl rfl)
  obtain ⟨x1, rx1, ok1⟩ := (opens_t22) enc W 0 _ _ _ _ _ hf1
  refine (walk_of0 (fnReadings_con x0 x1 ok0 ok1) (fun w hk => WX_below (WX_laid (by rw [MakeChecks.laidMetH_plain _ _ _ (by kernel_rfl)] at hL; first | exact hL | exact hL.tail | exact hL.tail.tail | exact hL.tail.tail.tail | exact hL.tail.tail.tail.tail | exact hL.tail.tail.tail.tail.tail | exact hL.tail.tail.tail.tail.tail.tail | exact hL.tail.tail.tail.tail.tail.tail.tail | exact hL.tail.tail.tail.tail.tail.tail.tail.tail) (by rw [MakeChecks.laidMetH_plain _ _ _ (by kernel_rfl)] at hL; first | exact hL | exact hL.tail | exact hL.tail.tail | exact hL.tail.tail.tail | exact hL.tail.tail.tail.tail | exact hL.tail.tail.tail.tail.tail | exact hL.tail.tail.tail.tail.tail.tail | exact hL.tail.tail.tail.tail.tail.tail.tail | exact hL.tail.tail.tail.tail.tail.tail.tail.tail) (by rw [MakeChecks.laidMetH_plain _ _ _ (by kernel_rfl)] at hL; first | exact hL | exact hL.tail | exact hL.tail.tail | exact hL.tail.tail.tail | exact hL.tail.tail.tail.tail | exact hL.tail.tail.tail.tail.tail | exact hL.tail.tail.tail.tail.tail.tail | exact hL.tail.tail.tail.tail.tail.tail.tail | exact hL.tail.tail.tail.tail.tail.tail.tail.tail)) w ⟨hk.os, hk.tape, hk.output, hk.size, fun k h1 => hk.block k h1 id⟩) (RelTL.cons (relTL_one rx0) (RelTL.cons (relTL_one rx1) RelTL.nil))).mono fun e W1 ⟨he, hb⟩ => ?_
  subst he
  exact ⟨_, rfl, law_post Tryz.laidOut rfl Tryz.underlying4 (of_decide_eq_true (by kernel_rfl)) rfl hW' hb rfl⟩

theorem jf0 : (Rows.fnReadingsRow.inPlace == Tryz.pinned.checked.prog.inPlace 3) = true := by kernel_rfl
theorem jf1 : (Rows.fnReadingsRow.unfollowed == Tryz.pinned.checked.prog.unfollowed 3) = true := by kernel_rfl
theorem jf2 : (Rows.fnReadingsRow.recurses == Tryz.pinned.checked.prog.recurses 3) = true := by kernel_rfl
theorem jf3 : (Rows.fnReadingsRow.named == Tryz.pinned.checked.prog.varsNamed 3) = true := by kernel_rfl
theorem jf : joinedFacts Tryz.pinned.checked.prog 3 Tryz.f3 Rows.fnReadingsSpec Rows.fnReadingsRow = true := by
  unfold joinedFacts
  rw [jf0, jf1, jf2, jf3]
  kernel_rfl
theorem over : Rows.fnReadingsRow.holds Tryz.pinned (OpenSpec.ofChange Rows.fnReadingsSpec) :=
  OpenClaim.holds_of_wide 3 Tryz.f3 rfl rfl rfl rfl rfl rfl rfl ⟨rfl, rfl, rfl, rfl, rfl⟩ rfl rfl rfl rfl rfl (by kernel_rfl) Tryz.func3 jf
    (of_decide_eq_true (by kernel_rfl)) (by unfold Func.isWrapper; first | (rw [if_pos (by decide +kernel)]; kernel_rfl) | (rw [if_neg (by decide +kernel)]; exact ⟨rfl, rfl⟩))
    (fun os started H enc _ => lifted os started H enc)

theorem proved : Rows.FnReadingsCardSaid :=
  Claim7.holds_tied_plain_at .later [] [.data, .data, .data, .data, .sentinel, .sentinel, .pinned] true (true, "0c0f9773bbb6a25c0e2171703b60c2a39d510bba2380f2c157cae8c748d77682") true over (fun _ h => by cases h) (by kernel_rfl) (fun _ h => by cases h) fnReadings_row_tie rfl ⟨rfl, rfl⟩ (by kernel_rfl) rfl
    (fun f fn hf hfn => by
      obtain rfl : f = 3 := Option.some.inj ((show Tryz.prog.funcNamed "loop.example/g00918/laws.FnReadings" = some 3 by kernel_rfl).symm.trans hf) |>.symm
      obtain rfl : fn = Tryz.f3 := (Option.some.inj (Tryz.func3.symm.trans hfn)).symm
      exact ⟨by kernel_rfl, fun j t ht => by
        rw [Tryz.params3] at ht
        have hm : t ∈ [22, 22] := by simpa using Array.mem_of_getElem? ht
        have hall : ([22, 22].all fun u => !Tryz.prog.wantsStandIn u) = true := by kernel_rfl
        exact (show Tryz.prog.wantsStandIn t = false by simpa using List.all_eq_true.1 hall t hm)⟩)
    (by kernel_rfl)
#print axioms proved
end fnReadings

end Go.Proofs.YtdinloamhmdgjaaGreatDoor.Ax
