/- The statement FnBeams: contracts of what it reaches, and its proof. No conditions. -/
import Derived.Test.YtppknhfdmmnmoaaGreatAxLBeams3
import Derived.Test.YtppknhfdmmnmoaaGreatAxR
import Derived.Test.YtppknhfdmmnmoaaGreatAxS
import Derived.Test.YtppknhfdmmnmoaaGreatAxSF
import Derived.Test.YtppknhfdmmnmoaaGreatSfFndShelf
import Derived.Test.YtppknhfdmmnmoaaGreatSfRdgShelf
namespace Go.Proofs.YtppknhfdmmnmoaaGreat.Ax
open Go.RowKit Go.ChangeShapes Go.WideShapes
set_option linter.unusedVariables false
set_option linter.unusedSimpArgs false


-- laws.FnBeams
theorem fnBeams_con (code : List Int) (more : List Int) (ok_code : ∀ y ∈ code, inR .u8 y) (ok_more : ∀ y ∈ more, inR .u8 y) : Con Tryz.prog 3 [slU8 false code, slU8 false more] true (Bv true) := by
  refine fn_ok (fn := Tryz.f3) (nt := 242) Tryz.func3 rfl rfl rfl rfl (by simp [taggedL, tagged, tagU8]) fun B hB => ?_
  refine aw_lens (x := slU8 false code) 0 rfl (fun len_code => ?_)
  simp [LenOK, LenL, cU8, fU8, slU8] at len_code
  refine aw_lens (x := slU8 false more) 1 rfl (fun len_more => ?_)
  simp [LenOK, LenL, cU8, fU8, slU8] at len_more
  refine aR [] [0, 1] [] [slU8 false code, slU8 false more] [] [] hB trivial ?_
  refine aw_seq ?_
  refine aw_seq ?_
  rcases Bool.eq_false_or_eq_true (decide (3000 < (code.length : Int) ∨ 3000 < (more.length : Int))) with h1 | h1
  ·refine aw_r [(2, .call [(true, .any), (true, .any)] true (Bv true))] [0, 1, 31] [] [slU8 false code, slU8 false more, Bv true] [] [Con Tryz.prog 4 [slU8 false code, slU8 false more] true (Bv true) ∧ True] hB ⟨⟨(con_bool h1 (a2Long_ok code more)), trivial⟩, trivial⟩ ?_
   refine ae_then ?_
   refine aw_true rfl ?_
   refine aR [] [4] [] [Bv true] [] [] hB trivial ?_
   refine aw_ret ?_
   refine ae_ret_then ?_
   refine ae_ret hB (Bv true) (by kernel_rfl) (.inl rfl) rfl (fun _ => trivial)
  have hc : (∀ j, j < code.length → 0 ≤ at_ code j ∧ at_ code j ≤ 255) ∧ code.length ≤ 4611686018427387904 := ⟨fun j hj => ok_code _ (at_mem hj), by first | omega | (simp at h1; omega)⟩
  have hmore : (∀ j, j < more.length → 0 ≤ at_ more j ∧ at_ more j ≤ 255) ∧ more.length ≤ 4611686018427387904 := ⟨fun j hj => ok_more _ (at_mem hj), by first | omega | (simp at h1; omega)⟩
  refine aw_r [(2, .call [(true, .any), (true, .any)] true (Bv false))] [0, 1, 31] [] [slU8 false code, slU8 false more, Bv false] [] [Con Tryz.prog 4 [slU8 false code, slU8 false more] true (Bv false) ∧ True] hB ⟨⟨(con_bool h1 (a2Long_ok code more)), trivial⟩, trivial⟩ ?_
  refine ae_then ?_
  refine aw_false rfl ?_
  refine aw_skip ?_
  refine ae_then ?_
  refine aw_seq ?_
  obtain ⟨v_1, q_1, hx1_0, hx1_1, hc1⟩ := A2Search_ok code (by assumption)
  have hl := hx1_0
  have hx := hx1_1
  have hab := a2At_bd more 0 (n := 30) (by decide)
  have hn20 := hl.1
  have hc := hl.2.1
  have hlc := hx.1
  have hwn : 1 ≤ (1 + a2AtI more 0 30).toNat := by omega
  have hbt := bt_len hl (lx := q_1) hwn
  refine aw_r [(1, .call [(true, .any)] true (.tup [agLatticeT v_1, .agg [slEntry true q_1.Entries]])), (5, .new 5), (6, .new 6)] [1, 5, 6] [5, 6] [slU8 false more, .ref 5 0, .ref 6 0] [some (bxLatticeT v_1), some (.box [slEntry true q_1.Entries])] [Con Tryz.prog 5 [slU8 false code] true (.tup [agLatticeT v_1, .agg [slEntry true q_1.Entries]]) ∧ True] hB ⟨⟨hc1, trivial⟩, trivial⟩ ?_
  refine ae_then ?_
  refine aR [(1, .call [(true, .any), (true, .any), (true, .any)] true (I (a2AtI more 0 30)))] [5, 6, 7] [5, 6] [.ref 5 0, .ref 6 0, I (1 + (a2AtI more 0 30))] [some (bxLatticeT v_1), some (.box [slEntry true q_1.Entries])] [Con Tryz.prog 6 [slU8 false more, I 0, I 30] true (I (a2AtI more 0 30)) ∧ True, inR .i64 (1 + (a2AtI more 0 30))] hB ⟨⟨(a2At_ok more 0 30 hmore.1 (by omega)), trivial⟩, (inR_i64 (by omega) (by omega)), trivial⟩ ?_
  refine aw_seq ?_
  obtain ⟨v_2, c_2, hx2_0, hc2⟩ := BeamWord_ok v_1 q_1 (1 + (a2AtI more 0 30)) hl hx (by omega)
  have hbw := hx2_0
  refine aw_r [(3, .call [(false, agLattice v_1), (false, .agg [slEntry false q_1.Entries]), (true, .any)] true (.tup [agFound v_2, I c_2])), (7, .new 8)] [5, 6, 7, 8, 9] [5, 6, 8] [.ref 5 0, .ref 6 0, I (1 + (a2AtI more 0 30)), .ref 8 0, I c_2] [some (bxLatticeT v_1), some (.box [slEntry true q_1.Entries]), some (bxFound v_2)] [Con Tryz.prog 7 [agLattice v_1, .agg [slEntry false q_1.Entries], I (1 + (a2AtI more 0 30))] true (.tup [agFound v_2, I c_2]) ∧ ((valOf (I v_1.Nodes) = valOf (I v_1.Nodes)) ∧ ((false = true → true = true) ∧ 4 = 4 ∧ v_1.Edges.length = v_1.Edges.length ∧ ∀ i_, i_ < v_1.Edges.length → (fEdge v_1.Edges) i_ = (fEdge v_1.Edges) i_ ∨ (AV.idsL ((fEdge v_1.Edges) i_) = [] ∧ leL (fun _ => none) false ((fEdge v_1.Edges) i_) ((fEdge v_1.Edges) i_))) ∧ ([] : List AV) = []) ∧ (((false = true → true = true) ∧ 2 = 2 ∧ q_1.Entries.length = q_1.Entries.length ∧ ∀ i_, i_ < q_1.Entries.length → (fEntry q_1.Entries) i_ = (fEntry q_1.Entries) i_ ∨ (AV.idsL ((fEntry q_1.Entries) i_) = [] ∧ leL (fun _ => none) false ((fEntry q_1.Entries) i_) ((fEntry q_1.Entries) i_))) ∧ ([] : List AV) = []) ∧ True] hB ⟨⟨hc2, ⟨rfl, ⟨⟨(fun h => by cases h), rfl, rfl, fun i _ => .inl rfl⟩, rfl⟩⟩, ⟨⟨(fun h => by cases h), rfl, rfl, fun i _ => .inl rfl⟩, rfl⟩, trivial⟩, trivial⟩ ?_
  refine ae_then ?_
  refine aw_seq ?_
  obtain ⟨v_3, c_3, hx3_0, hc3⟩ := BeamLoss_ok v_1 q_1 (1 + (a2AtI more 0 30)) hl hx (by omega)
  have hbl0 := hx3_0
  have hbc0 := bl_cs hbl0
  have hcc : c_2 = c_3 := by rcases hbw with q | q <;> rcases hbc0.2.2 with q2 | q2 <;> omega
  refine aw_r [(3, .call [(false, agLattice v_1), (false, .agg [slEntry false q_1.Entries]), (true, .any)] true (.tup [I v_3, I c_3]))] [5, 6, 7, 8, 9, 10, 11] [5, 6, 8] [.ref 5 0, .ref 6 0, I (1 + (a2AtI more 0 30)), .ref 8 0, I c_2, I v_3, I c_3] [some (bxLatticeT v_1), some (.box [slEntry true q_1.Entries]), some (bxFound v_2)] [Con Tryz.prog 8 [agLattice v_1, .agg [slEntry false q_1.Entries], I (1 + (a2AtI more 0 30))] true (.tup [I v_3, I c_3]) ∧ ((valOf (I v_1.Nodes) = valOf (I v_1.Nodes)) ∧ ((false = true → true = true) ∧ 4 = 4 ∧ v_1.Edges.length = v_1.Edges.length ∧ ∀ i_, i_ < v_1.Edges.length → (fEdge v_1.Edges) i_ = (fEdge v_1.Edges) i_ ∨ (AV.idsL ((fEdge v_1.Edges) i_) = [] ∧ leL (fun _ => none) false ((fEdge v_1.Edges) i_) ((fEdge v_1.Edges) i_))) ∧ ([] : List AV) = []) ∧ (((false = true → true = true) ∧ 2 = 2 ∧ q_1.Entries.length = q_1.Entries.length ∧ ∀ i_, i_ < q_1.Entries.length → (fEntry q_1.Entries) i_ = (fEntry q_1.Entries) i_ ∨ (AV.idsL ((fEntry q_1.Entries) i_) = [] ∧ leL (fun _ => none) false ((fEntry q_1.Entries) i_) ((fEntry q_1.Entries) i_))) ∧ ([] : List AV) = []) ∧ True] hB ⟨⟨hc3, ⟨rfl, ⟨⟨(fun h => by cases h), rfl, rfl, fun i _ => .inl rfl⟩, rfl⟩⟩, ⟨⟨(fun h => by cases h), rfl, rfl, fun i _ => .inl rfl⟩, rfl⟩, trivial⟩, trivial⟩ ?_
  refine ae_then ?_
  refine aw_seq ?_
  obtain ⟨v_4, c_4, hx4_0, hc4⟩ := specFindWord_ok v_1 q_1 hl hx
  have hfw := hx4_0
  refine aw_r [(2, .call [(false, agLattice v_1), (false, .agg [slEntry false q_1.Entries])] true (.tup [agFound v_4, I c_4])), (6, .new 12)] [5, 6, 7, 8, 9, 10, 11, 12, 13] [5, 6, 8, 12] [.ref 5 0, .ref 6 0, I (1 + (a2AtI more 0 30)), .ref 8 0, I c_2, I v_3, I c_3, .ref 12 0, I c_4] [some (bxLatticeT v_1), some (.box [slEntry true q_1.Entries]), some (bxFound v_2), some (bxFound v_4)] [Con Tryz.prog 9 [agLattice v_1, .agg [slEntry false q_1.Entries]] true (.tup [agFound v_4, I c_4]) ∧ ((valOf (I v_1.Nodes) = valOf (I v_1.Nodes)) ∧ ((false = true → true = true) ∧ 4 = 4 ∧ v_1.Edges.length = v_1.Edges.length ∧ ∀ i_, i_ < v_1.Edges.length → (fEdge v_1.Edges) i_ = (fEdge v_1.Edges) i_ ∨ (AV.idsL ((fEdge v_1.Edges) i_) = [] ∧ leL (fun _ => none) false ((fEdge v_1.Edges) i_) ((fEdge v_1.Edges) i_))) ∧ ([] : List AV) = []) ∧ (((false = true → true = true) ∧ 2 = 2 ∧ q_1.Entries.length = q_1.Entries.length ∧ ∀ i_, i_ < q_1.Entries.length → (fEntry q_1.Entries) i_ = (fEntry q_1.Entries) i_ ∨ (AV.idsL ((fEntry q_1.Entries) i_) = [] ∧ leL (fun _ => none) false ((fEntry q_1.Entries) i_) ((fEntry q_1.Entries) i_))) ∧ ([] : List AV) = []) ∧ True] hB ⟨⟨hc4, ⟨rfl, ⟨⟨(fun h => by cases h), rfl, rfl, fun i _ => .inl rfl⟩, rfl⟩⟩, ⟨⟨(fun h => by cases h), rfl, rfl, fun i _ => .inl rfl⟩, rfl⟩, trivial⟩, trivial⟩ ?_
  refine ae_then ?_
  refine aw_seq ?_
  refine aw_seq ?_
  by_cases h2 : c_2 = 0
  ·have hbq : 0 < (beamF v_1 q_1 (1 + a2AtI more 0 30).toNat).length ∧ v_2 = bmW v_1 q_1 (1 + a2AtI more 0 30).toNat := by rcases hbw with q | q; (exact q.2); omega
   have hokp := bmW_ok hl hx hwn hbq.1
   have hwd := bm_word hl hx hwn hbq.1
   rw [← hbq.2] at hokp hwd
   have hok := hokp.1
   have hown := hokp.2
   have hb1_ := hok.2.2.2.1
   have hb2_ := hok.2.2.2.2
   have hrd := rd_some hl hx hwn hbq.1
   have hfb : c_4 = 0 ∧ v_4 ∈ rdA v_1 q_1 ∧ ∀ f ∈ rdA v_1 q_1, v_4.Path + v_4.Own ≤ f.Path + f.Own := by rcases hfw with q | q; (exact q); omega
   have hfr := (rdA_ok hl hx hfb.2.1).1.2.2.2
   have hfl := fw_law hl hx hwn hbq.1 hbl0 hfb.2
   rw [← hbq.2] at hfl
   by_cases h3 : c_4 = 0
   ·refine aw_r [(2, .dec false), (5, .dec true), (8, .dec false)] [5, 6, 7, 8, 9, 10, 11, 12, 13, 70] [5, 6, 8, 12] [.ref 5 0, .ref 6 0, I (1 + (a2AtI more 0 30)), .ref 8 0, I c_2, I v_3, I c_3, .ref 12 0, I c_4, Bv false] [some (bxLatticeT v_1), some (.box [slEntry true q_1.Entries]), some (bxFound v_2), some (bxFound v_4)] [¬ (c_2 ≠ c_3), c_2 = 0, ¬ (c_4 ≠ 0)] hB ⟨(fun hq => hq hcc), h2, (fun hq => hq h3), trivial⟩ ?_
    refine ae_then ?_
    refine aw_false rfl ?_
    refine aw_skip ?_
    refine ae_then ?_
    refine aw_seq ?_
    refine aR [(1, .dec true)] [5, 6, 7, 8, 10, 11, 12, 13, 72] [5, 6, 8, 12] [.ref 5 0, .ref 6 0, I (1 + (a2AtI more 0 30)), .ref 8 0, I v_3, I c_3, .ref 12 0, I c_4, Bv true] [some (bxLatticeT v_1), some (.box [slEntry true q_1.Entries]), some (bxFound v_2), some (bxFound v_4)] [c_2 = 0] hB ⟨h2, trivial⟩ ?_
    refine aw_true rfl ?_
    refine aw_seq ?_
    obtain ⟨v_5, c_5, hx5_0, hc5⟩ := specTextCost_ok v_1 v_2.Word hl (by have := hwd.1; omega)
    have htc := hx5_0
    have htc0 : c_5 = 0 ∧ v_5 ≤ v_2.Path := by rcases htc with q | q; (refine ⟨q.1, ?_⟩; rw [q.2.1]; exact hok.2.2.1); exact absurd hok.2.1 q.2
    refine aw_r [(3, .call [(false, agLattice v_1), (true, .any)] true (.tup [I v_5, I c_5]))] [5, 6, 7, 8, 10, 11, 12, 13, 14, 15] [5, 6, 8, 12] [.ref 5 0, .ref 6 0, I (1 + (a2AtI more 0 30)), .ref 8 0, I v_3, I c_3, .ref 12 0, I c_4, I v_5, I c_5] [some (bxLatticeT v_1), some (.box [slEntry true q_1.Entries]), some (bxFound v_2), some (bxFound v_4)] [Con Tryz.prog 10 [agLattice v_1, Sv v_2.Word] true (.tup [I v_5, I c_5]) ∧ ((valOf (I v_1.Nodes) = valOf (I v_1.Nodes)) ∧ ((false = true → true = true) ∧ 4 = 4 ∧ v_1.Edges.length = v_1.Edges.length ∧ ∀ i_, i_ < v_1.Edges.length → (fEdge v_1.Edges) i_ = (fEdge v_1.Edges) i_ ∨ (AV.idsL ((fEdge v_1.Edges) i_) = [] ∧ leL (fun _ => none) false ((fEdge v_1.Edges) i_) ((fEdge v_1.Edges) i_))) ∧ ([] : List AV) = []) ∧ True] hB ⟨⟨hc5, ⟨rfl, ⟨⟨(fun h => by cases h), rfl, rfl, fun i _ => .inl rfl⟩, rfl⟩⟩, trivial⟩, trivial⟩ ?_
    refine ae_then ?_
    refine aw_seq ?_
    obtain ⟨v_6, c_6, hx6_0, hc6⟩ := specEntryCost_ok q_1 v_2.Word hx
    have hec := hx6_0
    have hec0 : c_6 = 0 ∧ v_2.Own = v_6 := by rcases hec with q | q; (exact ⟨q.1, hown.trans q.2.1.symm⟩); exact absurd hwd.2 (fun ⟨e, he, z⟩ => q.2 e he z)
    refine aw_r [(3, .call [(false, .agg [slEntry false q_1.Entries]), (true, .any)] true (.tup [I v_6, I c_6]))] [5, 6, 7, 8, 10, 11, 12, 13, 14, 15, 16, 17] [5, 6, 8, 12] [.ref 5 0, .ref 6 0, I (1 + (a2AtI more 0 30)), .ref 8 0, I v_3, I c_3, .ref 12 0, I c_4, I v_5, I c_5, I v_6, I c_6] [some (bxLatticeT v_1), some (.box [slEntry true q_1.Entries]), some (bxFound v_2), some (bxFound v_4)] [Con Tryz.prog 11 [.agg [slEntry false q_1.Entries], Sv v_2.Word] true (.tup [I v_6, I c_6]) ∧ (((false = true → true = true) ∧ 2 = 2 ∧ q_1.Entries.length = q_1.Entries.length ∧ ∀ i_, i_ < q_1.Entries.length → (fEntry q_1.Entries) i_ = (fEntry q_1.Entries) i_ ∨ (AV.idsL ((fEntry q_1.Entries) i_) = [] ∧ leL (fun _ => none) false ((fEntry q_1.Entries) i_) ((fEntry q_1.Entries) i_))) ∧ ([] : List AV) = []) ∧ True] hB ⟨⟨hc6, ⟨⟨(fun h => by cases h), rfl, rfl, fun i _ => .inl rfl⟩, rfl⟩, trivial⟩, trivial⟩ ?_
    refine ae_then ?_
    refine aw_seq ?_
    by_cases h4 : c_5 = 0
    ·by_cases h5 : c_6 = 0
     ·by_cases h6 : v_2.Path < v_5
      ·refine aw_r [(1, .dec false), (4, .dec false), (10, .dec true)] [5, 6, 7, 10, 11, 13, 129] [5, 6] [.ref 5 0, .ref 6 0, I (1 + (a2AtI more 0 30)), I v_3, I c_3, I c_4, Bv true] [some (bxLatticeT v_1), some (.box [slEntry true q_1.Entries])] [¬ (c_5 ≠ 0), ¬ (c_6 ≠ 0), v_2.Path < v_5] hB ⟨(fun hq => hq h4), (fun hq => hq h5), h6, trivial⟩ ?_
       refine ae_then ?_
       refine aw_true rfl ?_
       refine aR [] [4] [] [Bv false] [] [] hB trivial ?_
       refine aw_ret ?_
       refine ae_ret_then ?_
       refine ae_ret hB (Bv false) (by kernel_rfl) (.inl (by first | rfl | (exfalso; omega) | (refine congrArg Bv ?_; first | exact decide_eq_true (by omega) | (symm; exact decide_eq_true (by omega)) | (simp; omega)) | (exfalso; simp_all; done) | (exfalso; simp_all; omega))) rfl (fun _ => trivial)
      rcases Bool.eq_false_or_eq_true (decide (0 ≤ v_2.Path ∧ v_2.Path ≤ 100000000)) with h7 | h7
      ·by_cases h8 : v_2.Own = v_6
       ·by_cases h9 : v_3 < 0
        ·refine aw_r [(1, .dec false), (4, .dec false), (10, .dec false), (15, .call [(true, .any)] true (Bv true)), (22, .dec false), (26, .dec true)] [5, 6, 7, 10, 11, 13, 129] [5, 6] [.ref 5 0, .ref 6 0, I (1 + (a2AtI more 0 30)), I v_3, I c_3, I c_4, Bv true] [some (bxLatticeT v_1), some (.box [slEntry true q_1.Entries])] [¬ (c_5 ≠ 0), ¬ (c_6 ≠ 0), ¬ (v_2.Path < v_5), Con Tryz.prog 12 [I v_2.Path] true (Bv true) ∧ True, ¬ (v_2.Own ≠ v_6), v_3 < 0] hB ⟨(fun hq => hq h4), (fun hq => hq h5), h6, ⟨(con_bool h7 (a2Small_ok v_2.Path)), trivial⟩, (fun hq => hq h8), h9, trivial⟩ ?_
         refine ae_then ?_
         refine aw_true rfl ?_
         refine aR [] [4] [] [Bv false] [] [] hB trivial ?_
         refine aw_ret ?_
         refine ae_ret_then ?_
         refine ae_ret hB (Bv false) (by kernel_rfl) (.inl (by first | rfl | (exfalso; omega) | (refine congrArg Bv ?_; first | exact decide_eq_true (by omega) | (symm; exact decide_eq_true (by omega)) | (simp; omega)) | (exfalso; simp_all; done) | (exfalso; simp_all; omega))) rfl (fun _ => trivial)
        by_cases h10 : v_3 = (((v_2.Path + v_2.Own) - v_4.Path) - v_4.Own)
        ·refine aw_r [(1, .dec false), (4, .dec false), (10, .dec false), (15, .call [(true, .any)] true (Bv true)), (22, .dec false), (26, .dec false), (41, .dec false)] [5, 6, 7, 10, 11, 13, 129] [5, 6] [.ref 5 0, .ref 6 0, I (1 + (a2AtI more 0 30)), I v_3, I c_3, I c_4, Bv false] [some (bxLatticeT v_1), some (.box [slEntry true q_1.Entries])] [¬ (c_5 ≠ 0), ¬ (c_6 ≠ 0), ¬ (v_2.Path < v_5), Con Tryz.prog 12 [I v_2.Path] true (Bv true) ∧ True, ¬ (v_2.Own ≠ v_6), ¬ (v_3 < 0), inR .i64 (v_2.Path + v_2.Own), inR .i64 ((v_2.Path + v_2.Own) - v_4.Path), inR .i64 (((v_2.Path + v_2.Own) - v_4.Path) - v_4.Own), ¬ (v_3 ≠ (((v_2.Path + v_2.Own) - v_4.Path) - v_4.Own))] hB ⟨(fun hq => hq h4), (fun hq => hq h5), h6, ⟨(con_bool h7 (a2Small_ok v_2.Path)), trivial⟩, (fun hq => hq h8), h9, (inR_i64 (by omega) (by omega)), (inR_i64 (by omega) (by omega)), (inR_i64 (by omega) (by omega)), (fun hq => hq h10), trivial⟩ ?_
         refine ae_then ?_
         refine aw_false rfl ?_
         refine aw_skip ?_
         refine ae_then ?_
         refine aw_seq ?_
         obtain ⟨v_7, c_7, hx7_0, hx7_1, hc7⟩ := BeamSizes_ok v_1 q_1 (1 + (a2AtI more 0 30)) hl hx (by omega)
         have hsz := hx7_0
         have hc4_ := hx7_1
         have hszl : v_7.length = v_1.Nodes.toNat := by rw [hsz, List.length_map]; exact hbt.1
         refine aw_r [(3, .call [(false, agLattice v_1), (false, .agg [slEntry false q_1.Entries]), (true, .any)] true (.tup [slI true v_7, I c_7]))] [5, 6, 7, 10, 11, 13, 18, 19] [5, 6] [.ref 5 0, .ref 6 0, I (1 + (a2AtI more 0 30)), I v_3, I c_3, I c_4, slI true v_7, I c_7] [some (bxLatticeT v_1), some (.box [slEntry true q_1.Entries])] [Con Tryz.prog 13 [agLattice v_1, .agg [slEntry false q_1.Entries], I (1 + (a2AtI more 0 30))] true (.tup [slI true v_7, I c_7]) ∧ ((valOf (I v_1.Nodes) = valOf (I v_1.Nodes)) ∧ ((false = true → true = true) ∧ 4 = 4 ∧ v_1.Edges.length = v_1.Edges.length ∧ ∀ i_, i_ < v_1.Edges.length → (fEdge v_1.Edges) i_ = (fEdge v_1.Edges) i_ ∨ (AV.idsL ((fEdge v_1.Edges) i_) = [] ∧ leL (fun _ => none) false ((fEdge v_1.Edges) i_) ((fEdge v_1.Edges) i_))) ∧ ([] : List AV) = []) ∧ (((false = true → true = true) ∧ 2 = 2 ∧ q_1.Entries.length = q_1.Entries.length ∧ ∀ i_, i_ < q_1.Entries.length → (fEntry q_1.Entries) i_ = (fEntry q_1.Entries) i_ ∨ (AV.idsL ((fEntry q_1.Entries) i_) = [] ∧ leL (fun _ => none) false ((fEntry q_1.Entries) i_) ((fEntry q_1.Entries) i_))) ∧ ([] : List AV) = []) ∧ True] hB ⟨⟨hc7, ⟨rfl, ⟨⟨(fun h => by cases h), rfl, rfl, fun i _ => .inl rfl⟩, rfl⟩⟩, ⟨⟨(fun h => by cases h), rfl, rfl, fun i _ => .inl rfl⟩, rfl⟩, trivial⟩, trivial⟩ ?_
         refine ae_then ?_
         refine aw_seq ?_
         refine aw_seq ?_
         by_cases h11 : (v_7.length : Int) = v_1.Nodes
         ·refine aw_r [(1, .dec false), (7, .dec false)] [5, 6, 7, 10, 11, 13, 18, 145] [5, 6] [.ref 5 0, .ref 6 0, I (1 + (a2AtI more 0 30)), I v_3, I c_3, I c_4, slI true v_7, Bv false] [some (bxLatticeT v_1), some (.box [slEntry true q_1.Entries])] [¬ (c_7 ≠ 0), ¬ ((v_7.length : Int) ≠ v_1.Nodes)] hB ⟨(fun hq => hq hc4_), (fun hq => hq h11), trivial⟩ ?_
          refine ae_then ?_
          refine aw_false rfl ?_
          refine aw_skip ?_
          refine ae_then ?_
          refine aw_seq ?_
          refine aR [] [5, 6, 7, 10, 11, 13, 18, 20] [5, 6] [.ref 5 0, .ref 6 0, I (1 + (a2AtI more 0 30)), I v_3, I c_3, I c_4, slI true v_7, I 0] [some (bxLatticeT v_1), some (.box [slEntry true q_1.Entries])] [] hB trivial ?_
          refine aw_block ?_
          refine aw_loop (fun gn gσ => ∃ (n : Int), gn = (v_1.Nodes - n).toNat ∧ (0 ≤ n ∧ n ≤ v_1.Nodes) ∧ gσ = mkS [(5, .ref 5 0), (6, .ref 6 0), (7, I (1 + (a2AtI more 0 30))), (10, I v_3), (11, I c_3), (13, I c_4), (18, slI true v_7), (20, I n)] [(5, bxLatticeT v_1), (6, .box [slEntry true q_1.Entries])]) ((v_1.Nodes - 0).toNat) ⟨0, rfl, (by omega), rfl⟩ (fun gn gσ hI => ?_)
          obtain ⟨n, rfl, hi0, rfl⟩ := hI
          refine aw_seq ?_
          refine aw_seq ?_
          by_cases h12 : n < v_1.Nodes
          ·have hn : n.toNat < v_1.Nodes.toNat := by omega
           refine aw_r [(3, .dec true)] [5, 6, 7, 10, 11, 13, 18, 20, 149] [5, 6] [.ref 5 0, .ref 6 0, I (1 + (a2AtI more 0 30)), I v_3, I c_3, I c_4, slI true v_7, I n, Bv true] [some (bxLatticeT v_1), some (.box [slEntry true q_1.Entries])] [n < v_1.Nodes] hB ⟨h12, trivial⟩ ?_
           refine ae_then ?_
           refine aw_true rfl ?_
           refine aw_skip ?_
           refine ae_then ?_
           refine aw_seq ?_
           refine aw_block ?_
           refine aw_seq ?_
           obtain ⟨v_8, c_8, hx8_0, hx8_1, hc8⟩ := BeamStates_ok v_1 q_1 (1 + (a2AtI more 0 30)) n hl hx (by omega) (by omega)
           have hst := hx8_0
           have hse_ := hx8_1
           have hsa : at_ v_7 n.toNat = (v_8.length : Int) := by rw [hsz, at_mp2 (by rw [hbt.1]; omega), hst]
           have hsl := hbt.2 n.toNat
           rw [← hst] at hsl
           refine aw_r [(4, .call [(false, agLattice v_1), (false, .agg [slEntry false q_1.Entries]), (true, .any), (true, .any)] true (.tup [slReading true v_8, I c_8]))] [5, 6, 7, 10, 11, 13, 18, 20, 21, 22] [5, 6] [.ref 5 0, .ref 6 0, I (1 + (a2AtI more 0 30)), I v_3, I c_3, I c_4, slI true v_7, I n, slReading true v_8, I c_8] [some (bxLatticeT v_1), some (.box [slEntry true q_1.Entries])] [Con Tryz.prog 14 [agLattice v_1, .agg [slEntry false q_1.Entries], I (1 + (a2AtI more 0 30)), I n] true (.tup [slReading true v_8, I c_8]) ∧ ((valOf (I v_1.Nodes) = valOf (I v_1.Nodes)) ∧ ((false = true → true = true) ∧ 4 = 4 ∧ v_1.Edges.length = v_1.Edges.length ∧ ∀ i_, i_ < v_1.Edges.length → (fEdge v_1.Edges) i_ = (fEdge v_1.Edges) i_ ∨ (AV.idsL ((fEdge v_1.Edges) i_) = [] ∧ leL (fun _ => none) false ((fEdge v_1.Edges) i_) ((fEdge v_1.Edges) i_))) ∧ ([] : List AV) = []) ∧ (((false = true → true = true) ∧ 2 = 2 ∧ q_1.Entries.length = q_1.Entries.length ∧ ∀ i_, i_ < q_1.Entries.length → (fEntry q_1.Entries) i_ = (fEntry q_1.Entries) i_ ∨ (AV.idsL ((fEntry q_1.Entries) i_) = [] ∧ leL (fun _ => none) false ((fEntry q_1.Entries) i_) ((fEntry q_1.Entries) i_))) ∧ ([] : List AV) = []) ∧ True] hB ⟨⟨hc8, ⟨rfl, ⟨⟨(fun h => by cases h), rfl, rfl, fun i _ => .inl rfl⟩, rfl⟩⟩, ⟨⟨(fun h => by cases h), rfl, rfl, fun i _ => .inl rfl⟩, rfl⟩, trivial⟩, trivial⟩ ?_
           refine ae_then ?_
           refine aw_seq ?_
           by_cases h13 : (v_8.length : Int) = (at_ v_7 n.toNat)
           ·by_cases h14 : (1 + (a2AtI more 0 30)) < (at_ v_7 n.toNat)
            ·refine aw_r [(1, .dec false), (9, .dec false), (17, .dec true)] [5, 6, 7, 10, 11, 13, 18, 20, 178] [5, 6] [.ref 5 0, .ref 6 0, I (1 + (a2AtI more 0 30)), I v_3, I c_3, I c_4, slI true v_7, I n, Bv true] [some (bxLatticeT v_1), some (.box [slEntry true q_1.Entries])] [¬ (c_8 ≠ 0), (0 : Int) ≤ n ∧ n < (v_7.length : Int), ¬ ((v_8.length : Int) ≠ (at_ v_7 n.toNat)), (0 : Int) ≤ n ∧ n < (v_7.length : Int), (1 + (a2AtI more 0 30)) < (at_ v_7 n.toNat)] hB ⟨(fun hq => hq hse_), ⟨(by omega), (by omega)⟩, (fun hq => hq h13), ⟨(by omega), (by omega)⟩, h14, trivial⟩ ?_
             refine ae_then ?_
             refine aw_true rfl ?_
             refine aR [] [4] [] [Bv false] [] [] hB trivial ?_
             refine aw_ret ?_
             refine ae_ret_block (ae_ret_then (ae_ret_then (ae_ret_block (ae_ret_then ?_))))
             refine ae_ret hB (Bv false) (by kernel_rfl) (.inl (by first | rfl | (exfalso; omega) | (refine congrArg Bv ?_; first | exact decide_eq_true (by omega) | (symm; exact decide_eq_true (by omega)) | (simp; omega)) | (exfalso; simp_all; done) | (exfalso; simp_all; omega))) rfl (fun _ => trivial)
            refine aw_r [(1, .dec false), (9, .dec false), (17, .dec false)] [5, 6, 7, 10, 11, 13, 18, 20, 178] [5, 6] [.ref 5 0, .ref 6 0, I (1 + (a2AtI more 0 30)), I v_3, I c_3, I c_4, slI true v_7, I n, Bv false] [some (bxLatticeT v_1), some (.box [slEntry true q_1.Entries])] [¬ (c_8 ≠ 0), (0 : Int) ≤ n ∧ n < (v_7.length : Int), ¬ ((v_8.length : Int) ≠ (at_ v_7 n.toNat)), (0 : Int) ≤ n ∧ n < (v_7.length : Int), ¬ ((1 + (a2AtI more 0 30)) < (at_ v_7 n.toNat))] hB ⟨(fun hq => hq hse_), ⟨(by omega), (by omega)⟩, (fun hq => hq h13), ⟨(by omega), (by omega)⟩, h14, trivial⟩ ?_
            refine ae_then ?_
            refine aw_false rfl ?_
            refine aw_skip ?_
            refine ae_block 1 ?_
            refine ae_then ?_
            refine aw_r [] [5, 6, 7, 10, 11, 13, 18, 20] [5, 6] [.ref 5 0, .ref 6 0, I (1 + (a2AtI more 0 30)), I v_3, I c_3, I c_4, slI true v_7, I (n + 1)] [some (bxLatticeT v_1), some (.box [slEntry true q_1.Entries])] [inR .i64 (n + 1)] hB ⟨(inR_i64 (by omega) (by omega)), trivial⟩ ?_
            exact ae_again _ (by omega) ⟨(n + 1), rfl, (by omega), rfl⟩
           refine aw_r [(1, .dec false), (9, .dec true)] [5, 6, 7, 10, 11, 13, 18, 20, 178] [5, 6] [.ref 5 0, .ref 6 0, I (1 + (a2AtI more 0 30)), I v_3, I c_3, I c_4, slI true v_7, I n, Bv true] [some (bxLatticeT v_1), some (.box [slEntry true q_1.Entries])] [¬ (c_8 ≠ 0), (0 : Int) ≤ n ∧ n < (v_7.length : Int), (v_8.length : Int) ≠ (at_ v_7 n.toNat)] hB ⟨(fun hq => hq hse_), ⟨(by omega), (by omega)⟩, h13, trivial⟩ ?_
           refine ae_then ?_
           refine aw_true rfl ?_
           refine aR [] [4] [] [Bv false] [] [] hB trivial ?_
           refine aw_ret ?_
           refine ae_ret_block (ae_ret_then (ae_ret_then (ae_ret_block (ae_ret_then ?_))))
           refine ae_ret hB (Bv false) (by kernel_rfl) (.inl (by first | rfl | (exfalso; omega) | (refine congrArg Bv ?_; first | exact decide_eq_true (by omega) | (symm; exact decide_eq_true (by omega)) | (simp; omega)) | (exfalso; simp_all; done) | (exfalso; simp_all; omega))) rfl (fun _ => trivial)
          refine aw_r [(3, .dec false)] [5, 6, 7, 10, 11, 13, 18, 20, 149] [5, 6] [.ref 5 0, .ref 6 0, I (1 + (a2AtI more 0 30)), I v_3, I c_3, I c_4, slI true v_7, I n, Bv false] [some (bxLatticeT v_1), some (.box [slEntry true q_1.Entries])] [¬ (n < v_1.Nodes)] hB ⟨h12, trivial⟩ ?_
          refine ae_then ?_
          refine aw_false rfl ?_
          refine aw_exit ?_
          refine ae_exit_then ?_
          refine ae_exit_then ?_
          refine ae_exit_same ?_
          refine ae_then ?_
          refine aw_seq ?_
          obtain ⟨v_9, c_9, hx9_0, hc9⟩ := LeastWidth_ok v_1 q_1 hl hx
          have hlw := hx9_0
          refine aw_r [(2, .call [(false, agLattice v_1), (false, .agg [slEntry false q_1.Entries])] true (.tup [I v_9, I c_9]))] [5, 6, 10, 11, 13, 23, 24] [5, 6] [.ref 5 0, .ref 6 0, I v_3, I c_3, I c_4, I v_9, I c_9] [some (bxLatticeT v_1), some (.box [slEntry true q_1.Entries])] [Con Tryz.prog 15 [agLattice v_1, .agg [slEntry false q_1.Entries]] true (.tup [I v_9, I c_9]) ∧ ((valOf (I v_1.Nodes) = valOf (I v_1.Nodes)) ∧ ((false = true → true = true) ∧ 4 = 4 ∧ v_1.Edges.length = v_1.Edges.length ∧ ∀ i_, i_ < v_1.Edges.length → (fEdge v_1.Edges) i_ = (fEdge v_1.Edges) i_ ∨ (AV.idsL ((fEdge v_1.Edges) i_) = [] ∧ leL (fun _ => none) false ((fEdge v_1.Edges) i_) ((fEdge v_1.Edges) i_))) ∧ ([] : List AV) = []) ∧ (((false = true → true = true) ∧ 2 = 2 ∧ q_1.Entries.length = q_1.Entries.length ∧ ∀ i_, i_ < q_1.Entries.length → (fEntry q_1.Entries) i_ = (fEntry q_1.Entries) i_ ∨ (AV.idsL ((fEntry q_1.Entries) i_) = [] ∧ leL (fun _ => none) false ((fEntry q_1.Entries) i_) ((fEntry q_1.Entries) i_))) ∧ ([] : List AV) = []) ∧ True] hB ⟨⟨hc9, ⟨rfl, ⟨⟨(fun h => by cases h), rfl, rfl, fun i _ => .inl rfl⟩, rfl⟩⟩, ⟨⟨(fun h => by cases h), rfl, rfl, fun i _ => .inl rfl⟩, rfl⟩, trivial⟩, trivial⟩ ?_
          refine ae_then ?_
          refine aw_seq ?_
          refine aw_seq ?_
          by_cases h15 : c_9 = 0
          ·have hlw1 : 1 ≤ v_9 ∧ v_9 ≤ 30 := by rcases hlw with q | q; (exact q.2.1); omega
           have hlw2 : blOK v_1 q_1 v_9.toNat 0 0 := by rcases hlw with q | q; (exact q.2.2.1); omega
           have hlw3 : ∀ u : Nat, 1 ≤ u → (u : Int) < v_9 → ¬ blOK v_1 q_1 u 0 0 := by rcases hlw with q | q; (exact q.2.2.2); omega
           refine aw_r [(1, .dec false)] [5, 6, 10, 11, 13, 23, 24, 186] [5, 6] [.ref 5 0, .ref 6 0, I v_3, I c_3, I c_4, I v_9, I c_9, Bv false] [some (bxLatticeT v_1), some (.box [slEntry true q_1.Entries])] [¬ (c_9 ≠ 0)] hB ⟨(fun hq => hq h15), trivial⟩ ?_
           refine ae_then ?_
           refine aw_false rfl ?_
           refine aw_skip ?_
           refine ae_then ?_
           refine aw_seq ?_
           obtain ⟨v_10, c_10, hx10_0, hc10⟩ := BeamLoss_ok v_1 q_1 v_9 hl hx (by omega)
           have hbl1 := hx10_0
           have hbc1 := bl_cs hbl1
           have hun := bl_uniq hbl1 hlw2
           refine aw_r [(3, .call [(false, agLattice v_1), (false, .agg [slEntry false q_1.Entries]), (true, .any)] true (.tup [I v_10, I c_10]))] [5, 6, 23, 25, 26] [5, 6] [.ref 5 0, .ref 6 0, I v_9, I v_10, I c_10] [some (bxLatticeT v_1), some (.box [slEntry true q_1.Entries])] [Con Tryz.prog 8 [agLattice v_1, .agg [slEntry false q_1.Entries], I v_9] true (.tup [I v_10, I c_10]) ∧ ((valOf (I v_1.Nodes) = valOf (I v_1.Nodes)) ∧ ((false = true → true = true) ∧ 4 = 4 ∧ v_1.Edges.length = v_1.Edges.length ∧ ∀ i_, i_ < v_1.Edges.length → (fEdge v_1.Edges) i_ = (fEdge v_1.Edges) i_ ∨ (AV.idsL ((fEdge v_1.Edges) i_) = [] ∧ leL (fun _ => none) false ((fEdge v_1.Edges) i_) ((fEdge v_1.Edges) i_))) ∧ ([] : List AV) = []) ∧ (((false = true → true = true) ∧ 2 = 2 ∧ q_1.Entries.length = q_1.Entries.length ∧ ∀ i_, i_ < q_1.Entries.length → (fEntry q_1.Entries) i_ = (fEntry q_1.Entries) i_ ∨ (AV.idsL ((fEntry q_1.Entries) i_) = [] ∧ leL (fun _ => none) false ((fEntry q_1.Entries) i_) ((fEntry q_1.Entries) i_))) ∧ ([] : List AV) = []) ∧ True] hB ⟨⟨hc10, ⟨rfl, ⟨⟨(fun h => by cases h), rfl, rfl, fun i _ => .inl rfl⟩, rfl⟩⟩, ⟨⟨(fun h => by cases h), rfl, rfl, fun i _ => .inl rfl⟩, rfl⟩, trivial⟩, trivial⟩ ?_
           refine ae_then ?_
           refine aw_seq ?_
           refine aw_seq ?_
           by_cases h16 : v_9 < 1
           ·refine aw_r [(1, .dec true)] [5, 6, 23, 221] [5, 6] [.ref 5 0, .ref 6 0, I v_9, Bv true] [some (bxLatticeT v_1), some (.box [slEntry true q_1.Entries])] [v_9 < 1] hB ⟨h16, trivial⟩ ?_
            refine ae_then ?_
            refine aw_true rfl ?_
            refine aR [] [4] [] [Bv false] [] [] hB trivial ?_
            refine aw_ret ?_
            refine ae_ret_then ?_
            refine ae_ret hB (Bv false) (by kernel_rfl) (.inl (by first | rfl | (exfalso; omega) | (refine congrArg Bv ?_; first | exact decide_eq_true (by omega) | (symm; exact decide_eq_true (by omega)) | (simp; omega)) | (exfalso; simp_all; done) | (exfalso; simp_all; omega))) rfl (fun _ => trivial)
           by_cases h17 : 30 < v_9
           ·refine aw_r [(1, .dec false), (4, .dec true)] [5, 6, 23, 221] [5, 6] [.ref 5 0, .ref 6 0, I v_9, Bv true] [some (bxLatticeT v_1), some (.box [slEntry true q_1.Entries])] [¬ (v_9 < 1), 30 < v_9] hB ⟨h16, h17, trivial⟩ ?_
            refine ae_then ?_
            refine aw_true rfl ?_
            refine aR [] [4] [] [Bv false] [] [] hB trivial ?_
            refine aw_ret ?_
            refine ae_ret_then ?_
            refine ae_ret hB (Bv false) (by kernel_rfl) (.inl (by first | rfl | (exfalso; omega) | (refine congrArg Bv ?_; first | exact decide_eq_true (by omega) | (symm; exact decide_eq_true (by omega)) | (simp; omega)) | (exfalso; simp_all; done) | (exfalso; simp_all; omega))) rfl (fun _ => trivial)
           by_cases h18 : c_10 = 0
           ·by_cases h19 : v_10 = 0
            ·refine aw_r [(1, .dec false), (4, .dec false), (8, .dec false), (12, .dec false)] [5, 6, 23, 221] [5, 6] [.ref 5 0, .ref 6 0, I v_9, Bv false] [some (bxLatticeT v_1), some (.box [slEntry true q_1.Entries])] [¬ (v_9 < 1), ¬ (30 < v_9), ¬ (c_10 ≠ 0), ¬ (v_10 ≠ 0)] hB ⟨h16, h17, (fun hq => hq h18), (fun hq => hq h19), trivial⟩ ?_
             refine ae_then ?_
             refine aw_false rfl ?_
             refine aw_skip ?_
             refine ae_then ?_
             refine aw_seq ?_
             refine aw_seq ?_
             by_cases h20 : v_9 = 1
             ·refine aw_r [(1, .dec true)] [5, 6, 23, 223] [5, 6] [.ref 5 0, .ref 6 0, I v_9, Bv true] [some (bxLatticeT v_1), some (.box [slEntry true q_1.Entries])] [v_9 = 1] hB ⟨h20, trivial⟩ ?_
              refine ae_then ?_
              refine aw_true rfl ?_
              refine aR [] [4] [] [Bv true] [] [] hB trivial ?_
              refine aw_ret ?_
              refine ae_ret_then ?_
              refine ae_ret hB (Bv true) (by kernel_rfl) (.inl rfl) rfl (fun _ => trivial)
             refine aw_r [(1, .dec false)] [5, 6, 23, 223] [5, 6] [.ref 5 0, .ref 6 0, I v_9, Bv false] [some (bxLatticeT v_1), some (.box [slEntry true q_1.Entries])] [¬ (v_9 = 1)] hB ⟨h20, trivial⟩ ?_
             refine ae_then ?_
             refine aw_false rfl ?_
             refine aw_skip ?_
             refine ae_then ?_
             refine aw_seq ?_
             obtain ⟨v_11, c_11, hx11_0, hc11⟩ := BeamLoss_ok v_1 q_1 (v_9 - 1) hl hx (by omega)
             have hbl2 := hx11_0
             have hbc2 := bl_cs hbl2
             have hless := bl_cs0 hbl2 (by rw [show (v_9 - 1).toNat = v_9.toNat - 1 from by omega]; exact hlw3 (v_9.toNat - 1) (by omega) (by omega))
             refine aw_r [(4, .call [(false, agLattice v_1), (false, .agg [slEntry false q_1.Entries]), (true, .any)] true (.tup [I v_11, I c_11]))] [27, 28] [] [I v_11, I c_11] [] [inR .i64 (v_9 - 1), Con Tryz.prog 8 [agLattice v_1, .agg [slEntry false q_1.Entries], I (v_9 - 1)] true (.tup [I v_11, I c_11]) ∧ ((valOf (I v_1.Nodes) = valOf (I v_1.Nodes)) ∧ ((false = true → true = true) ∧ 4 = 4 ∧ v_1.Edges.length = v_1.Edges.length ∧ ∀ i_, i_ < v_1.Edges.length → (fEdge v_1.Edges) i_ = (fEdge v_1.Edges) i_ ∨ (AV.idsL ((fEdge v_1.Edges) i_) = [] ∧ leL (fun _ => none) false ((fEdge v_1.Edges) i_) ((fEdge v_1.Edges) i_))) ∧ ([] : List AV) = []) ∧ (((false = true → true = true) ∧ 2 = 2 ∧ q_1.Entries.length = q_1.Entries.length ∧ ∀ i_, i_ < q_1.Entries.length → (fEntry q_1.Entries) i_ = (fEntry q_1.Entries) i_ ∨ (AV.idsL ((fEntry q_1.Entries) i_) = [] ∧ leL (fun _ => none) false ((fEntry q_1.Entries) i_) ((fEntry q_1.Entries) i_))) ∧ ([] : List AV) = []) ∧ True] hB ⟨(inR_i64 (by omega) (by omega)), ⟨hc11, ⟨rfl, ⟨⟨(fun h => by cases h), rfl, rfl, fun i _ => .inl rfl⟩, rfl⟩⟩, ⟨⟨(fun h => by cases h), rfl, rfl, fun i _ => .inl rfl⟩, rfl⟩, trivial⟩, trivial⟩ ?_
             refine ae_then ?_
             refine aw_seq ?_
             by_cases h21 : c_11 = 3
             ·refine aw_r [(1, .dec true)] [4] [] [Bv true] [] [c_11 = 3] hB ⟨h21, trivial⟩ ?_
              refine ae_then ?_
              refine aw_ret ?_
              refine ae_ret hB (Bv true) (by kernel_rfl) (.inl rfl) rfl (fun _ => trivial)
             by_cases h22 : c_11 = 0
             ·refine aw_r [(1, .dec false), (4, .dec true)] [4] [] [Bv (decide (0 < v_11))] [] [¬ (c_11 = 3), c_11 = 0] hB ⟨h21, h22, trivial⟩ ?_
              refine ae_then ?_
              refine aw_ret ?_
              refine ae_ret hB (Bv (decide (0 < v_11))) (by kernel_rfl) (.inl (by first | rfl | (exfalso; omega) | (refine congrArg Bv ?_; first | exact decide_eq_true (by omega) | (symm; exact decide_eq_true (by omega)) | (simp; omega)) | (exfalso; simp_all; done) | (exfalso; simp_all; omega))) rfl (fun _ => trivial)
             refine aw_r [(1, .dec false), (4, .dec false)] [4] [] [Bv false] [] [¬ (c_11 = 3), ¬ (c_11 = 0)] hB ⟨h21, h22, trivial⟩ ?_
             refine ae_then ?_
             refine aw_ret ?_
             refine ae_ret hB (Bv false) (by kernel_rfl) (.inl (by first | rfl | (exfalso; omega) | (refine congrArg Bv ?_; first | exact decide_eq_true (by omega) | (symm; exact decide_eq_true (by omega)) | (simp; omega)) | (exfalso; simp_all; done) | (exfalso; simp_all; omega))) rfl (fun _ => trivial)
            refine aw_r [(1, .dec false), (4, .dec false), (8, .dec false), (12, .dec true)] [5, 6, 23, 221] [5, 6] [.ref 5 0, .ref 6 0, I v_9, Bv true] [some (bxLatticeT v_1), some (.box [slEntry true q_1.Entries])] [¬ (v_9 < 1), ¬ (30 < v_9), ¬ (c_10 ≠ 0), v_10 ≠ 0] hB ⟨h16, h17, (fun hq => hq h18), h19, trivial⟩ ?_
            refine ae_then ?_
            refine aw_true rfl ?_
            refine aR [] [4] [] [Bv false] [] [] hB trivial ?_
            refine aw_ret ?_
            refine ae_ret_then ?_
            refine ae_ret hB (Bv false) (by kernel_rfl) (.inl (by first | rfl | (exfalso; omega) | (refine congrArg Bv ?_; first | exact decide_eq_true (by omega) | (symm; exact decide_eq_true (by omega)) | (simp; omega)) | (exfalso; simp_all; done) | (exfalso; simp_all; omega))) rfl (fun _ => trivial)
           refine aw_r [(1, .dec false), (4, .dec false), (8, .dec true)] [5, 6, 23, 221] [5, 6] [.ref 5 0, .ref 6 0, I v_9, Bv true] [some (bxLatticeT v_1), some (.box [slEntry true q_1.Entries])] [¬ (v_9 < 1), ¬ (30 < v_9), c_10 ≠ 0] hB ⟨h16, h17, h18, trivial⟩ ?_
           refine ae_then ?_
           refine aw_true rfl ?_
           refine aR [] [4] [] [Bv false] [] [] hB trivial ?_
           refine aw_ret ?_
           refine ae_ret_then ?_
           refine ae_ret hB (Bv false) (by kernel_rfl) (.inl (by first | rfl | (exfalso; omega) | (refine congrArg Bv ?_; first | exact decide_eq_true (by omega) | (symm; exact decide_eq_true (by omega)) | (simp; omega)) | (exfalso; simp_all; done) | (exfalso; simp_all; omega))) rfl (fun _ => trivial)
          have hlw1 : c_9 = 3 ∧ ∀ u : Nat, 1 ≤ u → u ≤ 30 → ¬ blOK v_1 q_1 u 0 0 := by rcases hlw with q | q; omega; exact q
          have hless := bl_cs0 hbl0 (hlw1.2 _ hwn (by omega))
          refine aw_r [(1, .dec true)] [5, 6, 10, 11, 13, 23, 24, 186] [5, 6] [.ref 5 0, .ref 6 0, I v_3, I c_3, I c_4, I v_9, I c_9, Bv true] [some (bxLatticeT v_1), some (.box [slEntry true q_1.Entries])] [c_9 ≠ 0] hB ⟨h15, trivial⟩ ?_
          refine ae_then ?_
          refine aw_true rfl ?_
          refine aw_seq ?_
          by_cases h23 : c_9 = 3
          ·by_cases h24 : 0 < v_3
           ·refine aw_r [(1, .dec true), (4, .dec false), (7, .dec true)] [4] [] [Bv true] [] [c_9 = 3, ¬ (c_4 ≠ 0), 0 < v_3] hB ⟨h23, (fun hq => hq h3), h24, trivial⟩ ?_
            refine ae_then ?_
            refine aw_ret ?_
            refine ae_ret_then ?_
            refine ae_ret hB (Bv true) (by kernel_rfl) (.inl rfl) rfl (fun _ => trivial)
           refine aw_r [(1, .dec true), (4, .dec false), (7, .dec false)] [4] [] [Bv (decide (c_3 ≠ 0))] [] [c_9 = 3, ¬ (c_4 ≠ 0), ¬ (0 < v_3)] hB ⟨h23, (fun hq => hq h3), h24, trivial⟩ ?_
           refine ae_then ?_
           refine aw_ret ?_
           refine ae_ret_then ?_
           refine ae_ret hB (Bv (decide (c_3 ≠ 0))) (by kernel_rfl) (.inl (by first | rfl | (exfalso; omega) | (refine congrArg Bv ?_; first | exact decide_eq_true (by omega) | (symm; exact decide_eq_true (by omega)) | (simp; omega)) | (exfalso; simp_all; done) | (exfalso; simp_all; omega))) rfl (fun _ => trivial)
          refine aw_r [(1, .dec false)] [4] [] [Bv false] [] [¬ (c_9 = 3)] hB ⟨h23, trivial⟩ ?_
          refine ae_then ?_
          refine aw_ret ?_
          refine ae_ret_then ?_
          refine ae_ret hB (Bv false) (by kernel_rfl) (.inl (by first | rfl | (exfalso; omega) | (refine congrArg Bv ?_; first | exact decide_eq_true (by omega) | (symm; exact decide_eq_true (by omega)) | (simp; omega)) | (exfalso; simp_all; done) | (exfalso; simp_all; omega))) rfl (fun _ => trivial)
         refine aw_r [(1, .dec false), (7, .dec true)] [5, 6, 7, 10, 11, 13, 18, 145] [5, 6] [.ref 5 0, .ref 6 0, I (1 + (a2AtI more 0 30)), I v_3, I c_3, I c_4, slI true v_7, Bv true] [some (bxLatticeT v_1), some (.box [slEntry true q_1.Entries])] [¬ (c_7 ≠ 0), (v_7.length : Int) ≠ v_1.Nodes] hB ⟨(fun hq => hq hc4_), h11, trivial⟩ ?_
         refine ae_then ?_
         refine aw_true rfl ?_
         refine aR [] [4] [] [Bv false] [] [] hB trivial ?_
         refine aw_ret ?_
         refine ae_ret_then ?_
         refine ae_ret hB (Bv false) (by kernel_rfl) (.inl (by first | rfl | (exfalso; omega) | (refine congrArg Bv ?_; first | exact decide_eq_true (by omega) | (symm; exact decide_eq_true (by omega)) | (simp; omega)) | (exfalso; simp_all; done) | (exfalso; simp_all; omega))) rfl (fun _ => trivial)
        refine aw_r [(1, .dec false), (4, .dec false), (10, .dec false), (15, .call [(true, .any)] true (Bv true)), (22, .dec false), (26, .dec false), (41, .dec true)] [5, 6, 7, 10, 11, 13, 129] [5, 6] [.ref 5 0, .ref 6 0, I (1 + (a2AtI more 0 30)), I v_3, I c_3, I c_4, Bv true] [some (bxLatticeT v_1), some (.box [slEntry true q_1.Entries])] [¬ (c_5 ≠ 0), ¬ (c_6 ≠ 0), ¬ (v_2.Path < v_5), Con Tryz.prog 12 [I v_2.Path] true (Bv true) ∧ True, ¬ (v_2.Own ≠ v_6), ¬ (v_3 < 0), inR .i64 (v_2.Path + v_2.Own), inR .i64 ((v_2.Path + v_2.Own) - v_4.Path), inR .i64 (((v_2.Path + v_2.Own) - v_4.Path) - v_4.Own), v_3 ≠ (((v_2.Path + v_2.Own) - v_4.Path) - v_4.Own)] hB ⟨(fun hq => hq h4), (fun hq => hq h5), h6, ⟨(con_bool h7 (a2Small_ok v_2.Path)), trivial⟩, (fun hq => hq h8), h9, (inR_i64 (by omega) (by omega)), (inR_i64 (by omega) (by omega)), (inR_i64 (by omega) (by omega)), h10, trivial⟩ ?_
        refine ae_then ?_
        refine aw_true rfl ?_
        refine aR [] [4] [] [Bv false] [] [] hB trivial ?_
        refine aw_ret ?_
        refine ae_ret_then ?_
        refine ae_ret hB (Bv false) (by kernel_rfl) (.inl (by first | rfl | (exfalso; omega) | (refine congrArg Bv ?_; first | exact decide_eq_true (by omega) | (symm; exact decide_eq_true (by omega)) | (simp; omega)) | (exfalso; simp_all; done) | (exfalso; simp_all; omega))) rfl (fun _ => trivial)
       refine aw_r [(1, .dec false), (4, .dec false), (10, .dec false), (15, .call [(true, .any)] true (Bv true)), (22, .dec true)] [5, 6, 7, 10, 11, 13, 129] [5, 6] [.ref 5 0, .ref 6 0, I (1 + (a2AtI more 0 30)), I v_3, I c_3, I c_4, Bv true] [some (bxLatticeT v_1), some (.box [slEntry true q_1.Entries])] [¬ (c_5 ≠ 0), ¬ (c_6 ≠ 0), ¬ (v_2.Path < v_5), Con Tryz.prog 12 [I v_2.Path] true (Bv true) ∧ True, v_2.Own ≠ v_6] hB ⟨(fun hq => hq h4), (fun hq => hq h5), h6, ⟨(con_bool h7 (a2Small_ok v_2.Path)), trivial⟩, h8, trivial⟩ ?_
       refine ae_then ?_
       refine aw_true rfl ?_
       refine aR [] [4] [] [Bv false] [] [] hB trivial ?_
       refine aw_ret ?_
       refine ae_ret_then ?_
       refine ae_ret hB (Bv false) (by kernel_rfl) (.inl (by first | rfl | (exfalso; omega) | (refine congrArg Bv ?_; first | exact decide_eq_true (by omega) | (symm; exact decide_eq_true (by omega)) | (simp; omega)) | (exfalso; simp_all; done) | (exfalso; simp_all; omega))) rfl (fun _ => trivial)
      refine aw_r [(1, .dec false), (4, .dec false), (10, .dec false), (15, .call [(true, .any)] true (Bv false))] [5, 6, 7, 10, 11, 13, 129] [5, 6] [.ref 5 0, .ref 6 0, I (1 + (a2AtI more 0 30)), I v_3, I c_3, I c_4, Bv true] [some (bxLatticeT v_1), some (.box [slEntry true q_1.Entries])] [¬ (c_5 ≠ 0), ¬ (c_6 ≠ 0), ¬ (v_2.Path < v_5), Con Tryz.prog 12 [I v_2.Path] true (Bv false) ∧ True] hB ⟨(fun hq => hq h4), (fun hq => hq h5), h6, ⟨(con_bool h7 (a2Small_ok v_2.Path)), trivial⟩, trivial⟩ ?_
      refine ae_then ?_
      refine aw_true rfl ?_
      refine aR [] [4] [] [Bv false] [] [] hB trivial ?_
      refine aw_ret ?_
      refine ae_ret_then ?_
      refine ae_ret hB (Bv false) (by kernel_rfl) (.inl (by first | rfl | (exfalso; omega) | (refine congrArg Bv ?_; first | exact decide_eq_true (by omega) | (symm; exact decide_eq_true (by omega)) | (simp; omega)) | (exfalso; simp_all; done) | (exfalso; simp_all; omega))) rfl (fun _ => trivial)
     refine aw_r [(1, .dec false), (4, .dec true)] [5, 6, 7, 10, 11, 13, 129] [5, 6] [.ref 5 0, .ref 6 0, I (1 + (a2AtI more 0 30)), I v_3, I c_3, I c_4, Bv true] [some (bxLatticeT v_1), some (.box [slEntry true q_1.Entries])] [¬ (c_5 ≠ 0), c_6 ≠ 0] hB ⟨(fun hq => hq h4), h5, trivial⟩ ?_
     refine ae_then ?_
     refine aw_true rfl ?_
     refine aR [] [4] [] [Bv false] [] [] hB trivial ?_
     refine aw_ret ?_
     refine ae_ret_then ?_
     refine ae_ret hB (Bv false) (by kernel_rfl) (.inl (by first | rfl | (exfalso; omega) | (refine congrArg Bv ?_; first | exact decide_eq_true (by omega) | (symm; exact decide_eq_true (by omega)) | (simp; omega)) | (exfalso; simp_all; done) | (exfalso; simp_all; omega))) rfl (fun _ => trivial)
    refine aw_r [(1, .dec true)] [5, 6, 7, 10, 11, 13, 129] [5, 6] [.ref 5 0, .ref 6 0, I (1 + (a2AtI more 0 30)), I v_3, I c_3, I c_4, Bv true] [some (bxLatticeT v_1), some (.box [slEntry true q_1.Entries])] [c_5 ≠ 0] hB ⟨h4, trivial⟩ ?_
    refine ae_then ?_
    refine aw_true rfl ?_
    refine aR [] [4] [] [Bv false] [] [] hB trivial ?_
    refine aw_ret ?_
    refine ae_ret_then ?_
    refine ae_ret hB (Bv false) (by kernel_rfl) (.inl (by first | rfl | (exfalso; omega) | (refine congrArg Bv ?_; first | exact decide_eq_true (by omega) | (symm; exact decide_eq_true (by omega)) | (simp; omega)) | (exfalso; simp_all; done) | (exfalso; simp_all; omega))) rfl (fun _ => trivial)
   refine aw_r [(2, .dec false), (5, .dec true), (8, .dec true)] [5, 6, 7, 8, 9, 10, 11, 12, 13, 70] [5, 6, 8, 12] [.ref 5 0, .ref 6 0, I (1 + (a2AtI more 0 30)), .ref 8 0, I c_2, I v_3, I c_3, .ref 12 0, I c_4, Bv true] [some (bxLatticeT v_1), some (.box [slEntry true q_1.Entries]), some (bxFound v_2), some (bxFound v_4)] [¬ (c_2 ≠ c_3), c_2 = 0, c_4 ≠ 0] hB ⟨(fun hq => hq hcc), h2, h3, trivial⟩ ?_
   refine ae_then ?_
   refine aw_true rfl ?_
   refine aR [] [4] [] [Bv false] [] [] hB trivial ?_
   refine aw_ret ?_
   refine ae_ret_then ?_
   refine ae_ret hB (Bv false) (by kernel_rfl) (.inl (by first | rfl | (exfalso; omega) | (refine congrArg Bv ?_; first | exact decide_eq_true (by omega) | (symm; exact decide_eq_true (by omega)) | (simp; omega)) | (exfalso; simp_all; done) | (exfalso; simp_all; omega))) rfl (fun _ => trivial)
  refine aw_r [(2, .dec false), (5, .dec false)] [5, 6, 7, 8, 9, 10, 11, 12, 13, 70] [5, 6, 8, 12] [.ref 5 0, .ref 6 0, I (1 + (a2AtI more 0 30)), .ref 8 0, I c_2, I v_3, I c_3, .ref 12 0, I c_4, Bv false] [some (bxLatticeT v_1), some (.box [slEntry true q_1.Entries]), some (bxFound v_2), some (bxFound v_4)] [¬ (c_2 ≠ c_3), ¬ (c_2 = 0)] hB ⟨(fun hq => hq hcc), h2, trivial⟩ ?_
  refine ae_then ?_
  refine aw_false rfl ?_
  refine aw_skip ?_
  refine ae_then ?_
  refine aw_seq ?_
  refine aR [(1, .dec false)] [5, 6, 7, 8, 10, 11, 12, 13, 72] [5, 6, 8, 12] [.ref 5 0, .ref 6 0, I (1 + (a2AtI more 0 30)), .ref 8 0, I v_3, I c_3, .ref 12 0, I c_4, Bv false] [some (bxLatticeT v_1), some (.box [slEntry true q_1.Entries]), some (bxFound v_2), some (bxFound v_4)] [¬ (c_2 = 0)] hB ⟨h2, trivial⟩ ?_
  refine aw_false rfl ?_
  refine aw_skip ?_
  refine ae_then ?_
  refine aw_seq ?_
  obtain ⟨v_12, c_12, hx12_0, hx12_1, hc12⟩ := BeamSizes_ok v_1 q_1 (1 + (a2AtI more 0 30)) hl hx (by omega)
  have hsz := hx12_0
  have hc4_ := hx12_1
  have hszl : v_12.length = v_1.Nodes.toNat := by rw [hsz, List.length_map]; exact hbt.1
  refine aw_r [(3, .call [(false, agLattice v_1), (false, .agg [slEntry false q_1.Entries]), (true, .any)] true (.tup [slI true v_12, I c_12]))] [5, 6, 7, 10, 11, 13, 18, 19] [5, 6] [.ref 5 0, .ref 6 0, I (1 + (a2AtI more 0 30)), I v_3, I c_3, I c_4, slI true v_12, I c_12] [some (bxLatticeT v_1), some (.box [slEntry true q_1.Entries])] [Con Tryz.prog 13 [agLattice v_1, .agg [slEntry false q_1.Entries], I (1 + (a2AtI more 0 30))] true (.tup [slI true v_12, I c_12]) ∧ ((valOf (I v_1.Nodes) = valOf (I v_1.Nodes)) ∧ ((false = true → true = true) ∧ 4 = 4 ∧ v_1.Edges.length = v_1.Edges.length ∧ ∀ i_, i_ < v_1.Edges.length → (fEdge v_1.Edges) i_ = (fEdge v_1.Edges) i_ ∨ (AV.idsL ((fEdge v_1.Edges) i_) = [] ∧ leL (fun _ => none) false ((fEdge v_1.Edges) i_) ((fEdge v_1.Edges) i_))) ∧ ([] : List AV) = []) ∧ (((false = true → true = true) ∧ 2 = 2 ∧ q_1.Entries.length = q_1.Entries.length ∧ ∀ i_, i_ < q_1.Entries.length → (fEntry q_1.Entries) i_ = (fEntry q_1.Entries) i_ ∨ (AV.idsL ((fEntry q_1.Entries) i_) = [] ∧ leL (fun _ => none) false ((fEntry q_1.Entries) i_) ((fEntry q_1.Entries) i_))) ∧ ([] : List AV) = []) ∧ True] hB ⟨⟨hc12, ⟨rfl, ⟨⟨(fun h => by cases h), rfl, rfl, fun i _ => .inl rfl⟩, rfl⟩⟩, ⟨⟨(fun h => by cases h), rfl, rfl, fun i _ => .inl rfl⟩, rfl⟩, trivial⟩, trivial⟩ ?_
  refine ae_then ?_
  refine aw_seq ?_
  refine aw_seq ?_
  by_cases h25 : (v_12.length : Int) = v_1.Nodes
  ·refine aw_r [(1, .dec false), (7, .dec false)] [5, 6, 7, 10, 11, 13, 18, 145] [5, 6] [.ref 5 0, .ref 6 0, I (1 + (a2AtI more 0 30)), I v_3, I c_3, I c_4, slI true v_12, Bv false] [some (bxLatticeT v_1), some (.box [slEntry true q_1.Entries])] [¬ (c_12 ≠ 0), ¬ ((v_12.length : Int) ≠ v_1.Nodes)] hB ⟨(fun hq => hq hc4_), (fun hq => hq h25), trivial⟩ ?_
   refine ae_then ?_
   refine aw_false rfl ?_
   refine aw_skip ?_
   refine ae_then ?_
   refine aw_seq ?_
   refine aR [] [5, 6, 7, 10, 11, 13, 18, 20] [5, 6] [.ref 5 0, .ref 6 0, I (1 + (a2AtI more 0 30)), I v_3, I c_3, I c_4, slI true v_12, I 0] [some (bxLatticeT v_1), some (.box [slEntry true q_1.Entries])] [] hB trivial ?_
   refine aw_block ?_
   refine aw_loop (fun gn gσ => ∃ (n : Int), gn = (v_1.Nodes - n).toNat ∧ (0 ≤ n ∧ n ≤ v_1.Nodes) ∧ gσ = mkS [(5, .ref 5 0), (6, .ref 6 0), (7, I (1 + (a2AtI more 0 30))), (10, I v_3), (11, I c_3), (13, I c_4), (18, slI true v_12), (20, I n)] [(5, bxLatticeT v_1), (6, .box [slEntry true q_1.Entries])]) ((v_1.Nodes - 0).toNat) ⟨0, rfl, (by omega), rfl⟩ (fun gn gσ hI => ?_)
   obtain ⟨n, rfl, hi0, rfl⟩ := hI
   refine aw_seq ?_
   refine aw_seq ?_
   by_cases h26 : n < v_1.Nodes
   ·have hn : n.toNat < v_1.Nodes.toNat := by omega
    refine aw_r [(3, .dec true)] [5, 6, 7, 10, 11, 13, 18, 20, 149] [5, 6] [.ref 5 0, .ref 6 0, I (1 + (a2AtI more 0 30)), I v_3, I c_3, I c_4, slI true v_12, I n, Bv true] [some (bxLatticeT v_1), some (.box [slEntry true q_1.Entries])] [n < v_1.Nodes] hB ⟨h26, trivial⟩ ?_
    refine ae_then ?_
    refine aw_true rfl ?_
    refine aw_skip ?_
    refine ae_then ?_
    refine aw_seq ?_
    refine aw_block ?_
    refine aw_seq ?_
    obtain ⟨v_13, c_13, hx13_0, hx13_1, hc13⟩ := BeamStates_ok v_1 q_1 (1 + (a2AtI more 0 30)) n hl hx (by omega) (by omega)
    have hst := hx13_0
    have hse_ := hx13_1
    have hsa : at_ v_12 n.toNat = (v_13.length : Int) := by rw [hsz, at_mp2 (by rw [hbt.1]; omega), hst]
    have hsl := hbt.2 n.toNat
    rw [← hst] at hsl
    refine aw_r [(4, .call [(false, agLattice v_1), (false, .agg [slEntry false q_1.Entries]), (true, .any), (true, .any)] true (.tup [slReading true v_13, I c_13]))] [5, 6, 7, 10, 11, 13, 18, 20, 21, 22] [5, 6] [.ref 5 0, .ref 6 0, I (1 + (a2AtI more 0 30)), I v_3, I c_3, I c_4, slI true v_12, I n, slReading true v_13, I c_13] [some (bxLatticeT v_1), some (.box [slEntry true q_1.Entries])] [Con Tryz.prog 14 [agLattice v_1, .agg [slEntry false q_1.Entries], I (1 + (a2AtI more 0 30)), I n] true (.tup [slReading true v_13, I c_13]) ∧ ((valOf (I v_1.Nodes) = valOf (I v_1.Nodes)) ∧ ((false = true → true = true) ∧ 4 = 4 ∧ v_1.Edges.length = v_1.Edges.length ∧ ∀ i_, i_ < v_1.Edges.length → (fEdge v_1.Edges) i_ = (fEdge v_1.Edges) i_ ∨ (AV.idsL ((fEdge v_1.Edges) i_) = [] ∧ leL (fun _ => none) false ((fEdge v_1.Edges) i_) ((fEdge v_1.Edges) i_))) ∧ ([] : List AV) = []) ∧ (((false = true → true = true) ∧ 2 = 2 ∧ q_1.Entries.length = q_1.Entries.length ∧ ∀ i_, i_ < q_1.Entries.length → (fEntry q_1.Entries) i_ = (fEntry q_1.Entries) i_ ∨ (AV.idsL ((fEntry q_1.Entries) i_) = [] ∧ leL (fun _ => none) false ((fEntry q_1.Entries) i_) ((fEntry q_1.Entries) i_))) ∧ ([] : List AV) = []) ∧ True] hB ⟨⟨hc13, ⟨rfl, ⟨⟨(fun h => by cases h), rfl, rfl, fun i _ => .inl rfl⟩, rfl⟩⟩, ⟨⟨(fun h => by cases h), rfl, rfl, fun i _ => .inl rfl⟩, rfl⟩, trivial⟩, trivial⟩ ?_
    refine ae_then ?_
    refine aw_seq ?_
    by_cases h27 : (v_13.length : Int) = (at_ v_12 n.toNat)
    ·by_cases h28 : (1 + (a2AtI more 0 30)) < (at_ v_12 n.toNat)
     ·refine aw_r [(1, .dec false), (9, .dec false), (17, .dec true)] [5, 6, 7, 10, 11, 13, 18, 20, 178] [5, 6] [.ref 5 0, .ref 6 0, I (1 + (a2AtI more 0 30)), I v_3, I c_3, I c_4, slI true v_12, I n, Bv true] [some (bxLatticeT v_1), some (.box [slEntry true q_1.Entries])] [¬ (c_13 ≠ 0), (0 : Int) ≤ n ∧ n < (v_12.length : Int), ¬ ((v_13.length : Int) ≠ (at_ v_12 n.toNat)), (0 : Int) ≤ n ∧ n < (v_12.length : Int), (1 + (a2AtI more 0 30)) < (at_ v_12 n.toNat)] hB ⟨(fun hq => hq hse_), ⟨(by omega), (by omega)⟩, (fun hq => hq h27), ⟨(by omega), (by omega)⟩, h28, trivial⟩ ?_
      refine ae_then ?_
      refine aw_true rfl ?_
      refine aR [] [4] [] [Bv false] [] [] hB trivial ?_
      refine aw_ret ?_
      refine ae_ret_block (ae_ret_then (ae_ret_then (ae_ret_block (ae_ret_then ?_))))
      refine ae_ret hB (Bv false) (by kernel_rfl) (.inl (by first | rfl | (exfalso; omega) | (refine congrArg Bv ?_; first | exact decide_eq_true (by omega) | (symm; exact decide_eq_true (by omega)) | (simp; omega)) | (exfalso; simp_all; done) | (exfalso; simp_all; omega))) rfl (fun _ => trivial)
     refine aw_r [(1, .dec false), (9, .dec false), (17, .dec false)] [5, 6, 7, 10, 11, 13, 18, 20, 178] [5, 6] [.ref 5 0, .ref 6 0, I (1 + (a2AtI more 0 30)), I v_3, I c_3, I c_4, slI true v_12, I n, Bv false] [some (bxLatticeT v_1), some (.box [slEntry true q_1.Entries])] [¬ (c_13 ≠ 0), (0 : Int) ≤ n ∧ n < (v_12.length : Int), ¬ ((v_13.length : Int) ≠ (at_ v_12 n.toNat)), (0 : Int) ≤ n ∧ n < (v_12.length : Int), ¬ ((1 + (a2AtI more 0 30)) < (at_ v_12 n.toNat))] hB ⟨(fun hq => hq hse_), ⟨(by omega), (by omega)⟩, (fun hq => hq h27), ⟨(by omega), (by omega)⟩, h28, trivial⟩ ?_
     refine ae_then ?_
     refine aw_false rfl ?_
     refine aw_skip ?_
     refine ae_block 1 ?_
     refine ae_then ?_
     refine aw_r [] [5, 6, 7, 10, 11, 13, 18, 20] [5, 6] [.ref 5 0, .ref 6 0, I (1 + (a2AtI more 0 30)), I v_3, I c_3, I c_4, slI true v_12, I (n + 1)] [some (bxLatticeT v_1), some (.box [slEntry true q_1.Entries])] [inR .i64 (n + 1)] hB ⟨(inR_i64 (by omega) (by omega)), trivial⟩ ?_
     exact ae_again _ (by omega) ⟨(n + 1), rfl, (by omega), rfl⟩
    refine aw_r [(1, .dec false), (9, .dec true)] [5, 6, 7, 10, 11, 13, 18, 20, 178] [5, 6] [.ref 5 0, .ref 6 0, I (1 + (a2AtI more 0 30)), I v_3, I c_3, I c_4, slI true v_12, I n, Bv true] [some (bxLatticeT v_1), some (.box [slEntry true q_1.Entries])] [¬ (c_13 ≠ 0), (0 : Int) ≤ n ∧ n < (v_12.length : Int), (v_13.length : Int) ≠ (at_ v_12 n.toNat)] hB ⟨(fun hq => hq hse_), ⟨(by omega), (by omega)⟩, h27, trivial⟩ ?_
    refine ae_then ?_
    refine aw_true rfl ?_
    refine aR [] [4] [] [Bv false] [] [] hB trivial ?_
    refine aw_ret ?_
    refine ae_ret_block (ae_ret_then (ae_ret_then (ae_ret_block (ae_ret_then ?_))))
    refine ae_ret hB (Bv false) (by kernel_rfl) (.inl (by first | rfl | (exfalso; omega) | (refine congrArg Bv ?_; first | exact decide_eq_true (by omega) | (symm; exact decide_eq_true (by omega)) | (simp; omega)) | (exfalso; simp_all; done) | (exfalso; simp_all; omega))) rfl (fun _ => trivial)
   refine aw_r [(3, .dec false)] [5, 6, 7, 10, 11, 13, 18, 20, 149] [5, 6] [.ref 5 0, .ref 6 0, I (1 + (a2AtI more 0 30)), I v_3, I c_3, I c_4, slI true v_12, I n, Bv false] [some (bxLatticeT v_1), some (.box [slEntry true q_1.Entries])] [¬ (n < v_1.Nodes)] hB ⟨h26, trivial⟩ ?_
   refine ae_then ?_
   refine aw_false rfl ?_
   refine aw_exit ?_
   refine ae_exit_then ?_
   refine ae_exit_then ?_
   refine ae_exit_same ?_
   refine ae_then ?_
   refine aw_seq ?_
   obtain ⟨v_14, c_14, hx14_0, hc14⟩ := LeastWidth_ok v_1 q_1 hl hx
   have hlw := hx14_0
   refine aw_r [(2, .call [(false, agLattice v_1), (false, .agg [slEntry false q_1.Entries])] true (.tup [I v_14, I c_14]))] [5, 6, 10, 11, 13, 23, 24] [5, 6] [.ref 5 0, .ref 6 0, I v_3, I c_3, I c_4, I v_14, I c_14] [some (bxLatticeT v_1), some (.box [slEntry true q_1.Entries])] [Con Tryz.prog 15 [agLattice v_1, .agg [slEntry false q_1.Entries]] true (.tup [I v_14, I c_14]) ∧ ((valOf (I v_1.Nodes) = valOf (I v_1.Nodes)) ∧ ((false = true → true = true) ∧ 4 = 4 ∧ v_1.Edges.length = v_1.Edges.length ∧ ∀ i_, i_ < v_1.Edges.length → (fEdge v_1.Edges) i_ = (fEdge v_1.Edges) i_ ∨ (AV.idsL ((fEdge v_1.Edges) i_) = [] ∧ leL (fun _ => none) false ((fEdge v_1.Edges) i_) ((fEdge v_1.Edges) i_))) ∧ ([] : List AV) = []) ∧ (((false = true → true = true) ∧ 2 = 2 ∧ q_1.Entries.length = q_1.Entries.length ∧ ∀ i_, i_ < q_1.Entries.length → (fEntry q_1.Entries) i_ = (fEntry q_1.Entries) i_ ∨ (AV.idsL ((fEntry q_1.Entries) i_) = [] ∧ leL (fun _ => none) false ((fEntry q_1.Entries) i_) ((fEntry q_1.Entries) i_))) ∧ ([] : List AV) = []) ∧ True] hB ⟨⟨hc14, ⟨rfl, ⟨⟨(fun h => by cases h), rfl, rfl, fun i _ => .inl rfl⟩, rfl⟩⟩, ⟨⟨(fun h => by cases h), rfl, rfl, fun i _ => .inl rfl⟩, rfl⟩, trivial⟩, trivial⟩ ?_
   refine ae_then ?_
   refine aw_seq ?_
   refine aw_seq ?_
   by_cases h29 : c_14 = 0
   ·have hlw1 : 1 ≤ v_14 ∧ v_14 ≤ 30 := by rcases hlw with q | q; (exact q.2.1); omega
    have hlw2 : blOK v_1 q_1 v_14.toNat 0 0 := by rcases hlw with q | q; (exact q.2.2.1); omega
    have hlw3 : ∀ u : Nat, 1 ≤ u → (u : Int) < v_14 → ¬ blOK v_1 q_1 u 0 0 := by rcases hlw with q | q; (exact q.2.2.2); omega
    refine aw_r [(1, .dec false)] [5, 6, 10, 11, 13, 23, 24, 186] [5, 6] [.ref 5 0, .ref 6 0, I v_3, I c_3, I c_4, I v_14, I c_14, Bv false] [some (bxLatticeT v_1), some (.box [slEntry true q_1.Entries])] [¬ (c_14 ≠ 0)] hB ⟨(fun hq => hq h29), trivial⟩ ?_
    refine ae_then ?_
    refine aw_false rfl ?_
    refine aw_skip ?_
    refine ae_then ?_
    refine aw_seq ?_
    obtain ⟨v_15, c_15, hx15_0, hc15⟩ := BeamLoss_ok v_1 q_1 v_14 hl hx (by omega)
    have hbl1 := hx15_0
    have hbc1 := bl_cs hbl1
    have hun := bl_uniq hbl1 hlw2
    refine aw_r [(3, .call [(false, agLattice v_1), (false, .agg [slEntry false q_1.Entries]), (true, .any)] true (.tup [I v_15, I c_15]))] [5, 6, 23, 25, 26] [5, 6] [.ref 5 0, .ref 6 0, I v_14, I v_15, I c_15] [some (bxLatticeT v_1), some (.box [slEntry true q_1.Entries])] [Con Tryz.prog 8 [agLattice v_1, .agg [slEntry false q_1.Entries], I v_14] true (.tup [I v_15, I c_15]) ∧ ((valOf (I v_1.Nodes) = valOf (I v_1.Nodes)) ∧ ((false = true → true = true) ∧ 4 = 4 ∧ v_1.Edges.length = v_1.Edges.length ∧ ∀ i_, i_ < v_1.Edges.length → (fEdge v_1.Edges) i_ = (fEdge v_1.Edges) i_ ∨ (AV.idsL ((fEdge v_1.Edges) i_) = [] ∧ leL (fun _ => none) false ((fEdge v_1.Edges) i_) ((fEdge v_1.Edges) i_))) ∧ ([] : List AV) = []) ∧ (((false = true → true = true) ∧ 2 = 2 ∧ q_1.Entries.length = q_1.Entries.length ∧ ∀ i_, i_ < q_1.Entries.length → (fEntry q_1.Entries) i_ = (fEntry q_1.Entries) i_ ∨ (AV.idsL ((fEntry q_1.Entries) i_) = [] ∧ leL (fun _ => none) false ((fEntry q_1.Entries) i_) ((fEntry q_1.Entries) i_))) ∧ ([] : List AV) = []) ∧ True] hB ⟨⟨hc15, ⟨rfl, ⟨⟨(fun h => by cases h), rfl, rfl, fun i _ => .inl rfl⟩, rfl⟩⟩, ⟨⟨(fun h => by cases h), rfl, rfl, fun i _ => .inl rfl⟩, rfl⟩, trivial⟩, trivial⟩ ?_
    refine ae_then ?_
    refine aw_seq ?_
    refine aw_seq ?_
    by_cases h30 : v_14 < 1
    ·refine aw_r [(1, .dec true)] [5, 6, 23, 221] [5, 6] [.ref 5 0, .ref 6 0, I v_14, Bv true] [some (bxLatticeT v_1), some (.box [slEntry true q_1.Entries])] [v_14 < 1] hB ⟨h30, trivial⟩ ?_
     refine ae_then ?_
     refine aw_true rfl ?_
     refine aR [] [4] [] [Bv false] [] [] hB trivial ?_
     refine aw_ret ?_
     refine ae_ret_then ?_
     refine ae_ret hB (Bv false) (by kernel_rfl) (.inl (by first | rfl | (exfalso; omega) | (refine congrArg Bv ?_; first | exact decide_eq_true (by omega) | (symm; exact decide_eq_true (by omega)) | (simp; omega)) | (exfalso; simp_all; done) | (exfalso; simp_all; omega))) rfl (fun _ => trivial)
    by_cases h31 : 30 < v_14
    ·refine aw_r [(1, .dec false), (4, .dec true)] [5, 6, 23, 221] [5, 6] [.ref 5 0, .ref 6 0, I v_14, Bv true] [some (bxLatticeT v_1), some (.box [slEntry true q_1.Entries])] [¬ (v_14 < 1), 30 < v_14] hB ⟨h30, h31, trivial⟩ ?_
     refine ae_then ?_
     refine aw_true rfl ?_
     refine aR [] [4] [] [Bv false] [] [] hB trivial ?_
     refine aw_ret ?_
     refine ae_ret_then ?_
     refine ae_ret hB (Bv false) (by kernel_rfl) (.inl (by first | rfl | (exfalso; omega) | (refine congrArg Bv ?_; first | exact decide_eq_true (by omega) | (symm; exact decide_eq_true (by omega)) | (simp; omega)) | (exfalso; simp_all; done) | (exfalso; simp_all; omega))) rfl (fun _ => trivial)
    by_cases h32 : c_15 = 0
    ·by_cases h33 : v_15 = 0
     ·refine aw_r [(1, .dec false), (4, .dec false), (8, .dec false), (12, .dec false)] [5, 6, 23, 221] [5, 6] [.ref 5 0, .ref 6 0, I v_14, Bv false] [some (bxLatticeT v_1), some (.box [slEntry true q_1.Entries])] [¬ (v_14 < 1), ¬ (30 < v_14), ¬ (c_15 ≠ 0), ¬ (v_15 ≠ 0)] hB ⟨h30, h31, (fun hq => hq h32), (fun hq => hq h33), trivial⟩ ?_
      refine ae_then ?_
      refine aw_false rfl ?_
      refine aw_skip ?_
      refine ae_then ?_
      refine aw_seq ?_
      refine aw_seq ?_
      by_cases h34 : v_14 = 1
      ·refine aw_r [(1, .dec true)] [5, 6, 23, 223] [5, 6] [.ref 5 0, .ref 6 0, I v_14, Bv true] [some (bxLatticeT v_1), some (.box [slEntry true q_1.Entries])] [v_14 = 1] hB ⟨h34, trivial⟩ ?_
       refine ae_then ?_
       refine aw_true rfl ?_
       refine aR [] [4] [] [Bv true] [] [] hB trivial ?_
       refine aw_ret ?_
       refine ae_ret_then ?_
       refine ae_ret hB (Bv true) (by kernel_rfl) (.inl rfl) rfl (fun _ => trivial)
      refine aw_r [(1, .dec false)] [5, 6, 23, 223] [5, 6] [.ref 5 0, .ref 6 0, I v_14, Bv false] [some (bxLatticeT v_1), some (.box [slEntry true q_1.Entries])] [¬ (v_14 = 1)] hB ⟨h34, trivial⟩ ?_
      refine ae_then ?_
      refine aw_false rfl ?_
      refine aw_skip ?_
      refine ae_then ?_
      refine aw_seq ?_
      obtain ⟨v_16, c_16, hx16_0, hc16⟩ := BeamLoss_ok v_1 q_1 (v_14 - 1) hl hx (by omega)
      have hbl2 := hx16_0
      have hbc2 := bl_cs hbl2
      have hless := bl_cs0 hbl2 (by rw [show (v_14 - 1).toNat = v_14.toNat - 1 from by omega]; exact hlw3 (v_14.toNat - 1) (by omega) (by omega))
      refine aw_r [(4, .call [(false, agLattice v_1), (false, .agg [slEntry false q_1.Entries]), (true, .any)] true (.tup [I v_16, I c_16]))] [27, 28] [] [I v_16, I c_16] [] [inR .i64 (v_14 - 1), Con Tryz.prog 8 [agLattice v_1, .agg [slEntry false q_1.Entries], I (v_14 - 1)] true (.tup [I v_16, I c_16]) ∧ ((valOf (I v_1.Nodes) = valOf (I v_1.Nodes)) ∧ ((false = true → true = true) ∧ 4 = 4 ∧ v_1.Edges.length = v_1.Edges.length ∧ ∀ i_, i_ < v_1.Edges.length → (fEdge v_1.Edges) i_ = (fEdge v_1.Edges) i_ ∨ (AV.idsL ((fEdge v_1.Edges) i_) = [] ∧ leL (fun _ => none) false ((fEdge v_1.Edges) i_) ((fEdge v_1.Edges) i_))) ∧ ([] : List AV) = []) ∧ (((false = true → true = true) ∧ 2 = 2 ∧ q_1.Entries.length = q_1.Entries.length ∧ ∀ i_, i_ < q_1.Entries.length → (fEntry q_1.Entries) i_ = (fEntry q_1.Entries) i_ ∨ (AV.idsL ((fEntry q_1.Entries) i_) = [] ∧ leL (fun _ => none) false ((fEntry q_1.Entries) i_) ((fEntry q_1.Entries) i_))) ∧ ([] : List AV) = []) ∧ True] hB ⟨(inR_i64 (by omega) (by omega)), ⟨hc16, ⟨rfl, ⟨⟨(fun h => by cases h), rfl, rfl, fun i _ => .inl rfl⟩, rfl⟩⟩, ⟨⟨(fun h => by cases h), rfl, rfl, fun i _ => .inl rfl⟩, rfl⟩, trivial⟩, trivial⟩ ?_
      refine ae_then ?_
      refine aw_seq ?_
      by_cases h35 : c_16 = 3
      ·refine aw_r [(1, .dec true)] [4] [] [Bv true] [] [c_16 = 3] hB ⟨h35, trivial⟩ ?_
       refine ae_then ?_
       refine aw_ret ?_
       refine ae_ret hB (Bv true) (by kernel_rfl) (.inl rfl) rfl (fun _ => trivial)
      by_cases h36 : c_16 = 0
      ·refine aw_r [(1, .dec false), (4, .dec true)] [4] [] [Bv (decide (0 < v_16))] [] [¬ (c_16 = 3), c_16 = 0] hB ⟨h35, h36, trivial⟩ ?_
       refine ae_then ?_
       refine aw_ret ?_
       refine ae_ret hB (Bv (decide (0 < v_16))) (by kernel_rfl) (.inl (by first | rfl | (exfalso; omega) | (refine congrArg Bv ?_; first | exact decide_eq_true (by omega) | (symm; exact decide_eq_true (by omega)) | (simp; omega)) | (exfalso; simp_all; done) | (exfalso; simp_all; omega))) rfl (fun _ => trivial)
      refine aw_r [(1, .dec false), (4, .dec false)] [4] [] [Bv false] [] [¬ (c_16 = 3), ¬ (c_16 = 0)] hB ⟨h35, h36, trivial⟩ ?_
      refine ae_then ?_
      refine aw_ret ?_
      refine ae_ret hB (Bv false) (by kernel_rfl) (.inl (by first | rfl | (exfalso; omega) | (refine congrArg Bv ?_; first | exact decide_eq_true (by omega) | (symm; exact decide_eq_true (by omega)) | (simp; omega)) | (exfalso; simp_all; done) | (exfalso; simp_all; omega))) rfl (fun _ => trivial)
     refine aw_r [(1, .dec false), (4, .dec false), (8, .dec false), (12, .dec true)] [5, 6, 23, 221] [5, 6] [.ref 5 0, .ref 6 0, I v_14, Bv true] [some (bxLatticeT v_1), some (.box [slEntry true q_1.Entries])] [¬ (v_14 < 1), ¬ (30 < v_14), ¬ (c_15 ≠ 0), v_15 ≠ 0] hB ⟨h30, h31, (fun hq => hq h32), h33, trivial⟩ ?_
     refine ae_then ?_
     refine aw_true rfl ?_
     refine aR [] [4] [] [Bv false] [] [] hB trivial ?_
     refine aw_ret ?_
     refine ae_ret_then ?_
     refine ae_ret hB (Bv false) (by kernel_rfl) (.inl (by first | rfl | (exfalso; omega) | (refine congrArg Bv ?_; first | exact decide_eq_true (by omega) | (symm; exact decide_eq_true (by omega)) | (simp; omega)) | (exfalso; simp_all; done) | (exfalso; simp_all; omega))) rfl (fun _ => trivial)
    refine aw_r [(1, .dec false), (4, .dec false), (8, .dec true)] [5, 6, 23, 221] [5, 6] [.ref 5 0, .ref 6 0, I v_14, Bv true] [some (bxLatticeT v_1), some (.box [slEntry true q_1.Entries])] [¬ (v_14 < 1), ¬ (30 < v_14), c_15 ≠ 0] hB ⟨h30, h31, h32, trivial⟩ ?_
    refine ae_then ?_
    refine aw_true rfl ?_
    refine aR [] [4] [] [Bv false] [] [] hB trivial ?_
    refine aw_ret ?_
    refine ae_ret_then ?_
    refine ae_ret hB (Bv false) (by kernel_rfl) (.inl (by first | rfl | (exfalso; omega) | (refine congrArg Bv ?_; first | exact decide_eq_true (by omega) | (symm; exact decide_eq_true (by omega)) | (simp; omega)) | (exfalso; simp_all; done) | (exfalso; simp_all; omega))) rfl (fun _ => trivial)
   have hlw1 : c_14 = 3 ∧ ∀ u : Nat, 1 ≤ u → u ≤ 30 → ¬ blOK v_1 q_1 u 0 0 := by rcases hlw with q | q; omega; exact q
   have hless := bl_cs0 hbl0 (hlw1.2 _ hwn (by omega))
   refine aw_r [(1, .dec true)] [5, 6, 10, 11, 13, 23, 24, 186] [5, 6] [.ref 5 0, .ref 6 0, I v_3, I c_3, I c_4, I v_14, I c_14, Bv true] [some (bxLatticeT v_1), some (.box [slEntry true q_1.Entries])] [c_14 ≠ 0] hB ⟨h29, trivial⟩ ?_
   refine ae_then ?_
   refine aw_true rfl ?_
   refine aw_seq ?_
   by_cases h37 : c_14 = 3
   ·by_cases h38 : c_4 = 0
    ·by_cases h39 : 0 < v_3
     ·refine aw_r [(1, .dec true), (4, .dec false), (7, .dec true)] [4] [] [Bv true] [] [c_14 = 3, ¬ (c_4 ≠ 0), 0 < v_3] hB ⟨h37, (fun hq => hq h38), h39, trivial⟩ ?_
      refine ae_then ?_
      refine aw_ret ?_
      refine ae_ret_then ?_
      refine ae_ret hB (Bv true) (by kernel_rfl) (.inl rfl) rfl (fun _ => trivial)
     refine aw_r [(1, .dec true), (4, .dec false), (7, .dec false)] [4] [] [Bv (decide (c_3 ≠ 0))] [] [c_14 = 3, ¬ (c_4 ≠ 0), ¬ (0 < v_3)] hB ⟨h37, (fun hq => hq h38), h39, trivial⟩ ?_
     refine ae_then ?_
     refine aw_ret ?_
     refine ae_ret_then ?_
     refine ae_ret hB (Bv (decide (c_3 ≠ 0))) (by kernel_rfl) (.inl (by first | rfl | (exfalso; omega) | (refine congrArg Bv ?_; first | exact decide_eq_true (by omega) | (symm; exact decide_eq_true (by omega)) | (simp; omega)) | (exfalso; simp_all; done) | (exfalso; simp_all; omega))) rfl (fun _ => trivial)
    refine aw_r [(1, .dec true), (4, .dec true)] [4] [] [Bv true] [] [c_14 = 3, c_4 ≠ 0] hB ⟨h37, h38, trivial⟩ ?_
    refine ae_then ?_
    refine aw_ret ?_
    refine ae_ret_then ?_
    refine ae_ret hB (Bv true) (by kernel_rfl) (.inl rfl) rfl (fun _ => trivial)
   refine aw_r [(1, .dec false)] [4] [] [Bv false] [] [¬ (c_14 = 3)] hB ⟨h37, trivial⟩ ?_
   refine ae_then ?_
   refine aw_ret ?_
   refine ae_ret_then ?_
   refine ae_ret hB (Bv false) (by kernel_rfl) (.inl (by first | rfl | (exfalso; omega) | (refine congrArg Bv ?_; first | exact decide_eq_true (by omega) | (symm; exact decide_eq_true (by omega)) | (simp; omega)) | (exfalso; simp_all; done) | (exfalso; simp_all; omega))) rfl (fun _ => trivial)
  refine aw_r [(1, .dec false), (7, .dec true)] [5, 6, 7, 10, 11, 13, 18, 145] [5, 6] [.ref 5 0, .ref 6 0, I (1 + (a2AtI more 0 30)), I v_3, I c_3, I c_4, slI true v_12, Bv true] [some (bxLatticeT v_1), some (.box [slEntry true q_1.Entries])] [¬ (c_12 ≠ 0), (v_12.length : Int) ≠ v_1.Nodes] hB ⟨(fun hq => hq hc4_), h25, trivial⟩ ?_
  refine ae_then ?_
  refine aw_true rfl ?_
  refine aR [] [4] [] [Bv false] [] [] hB trivial ?_
  refine aw_ret ?_
  refine ae_ret_then ?_
  refine ae_ret hB (Bv false) (by kernel_rfl) (.inl (by first | rfl | (exfalso; omega) | (refine congrArg Bv ?_; first | exact decide_eq_true (by omega) | (symm; exact decide_eq_true (by omega)) | (simp; omega)) | (exfalso; simp_all; done) | (exfalso; simp_all; omega))) rfl (fun _ => trivial)





theorem opens_t22 : OpensA Tryz.prog 22 (cLU8 false) (fun xs => ∀ y ∈ xs, inR .u8 y) :=
  opensA_slice (c := cU8) (sz := 1) Tryz.underlying22 (by kernel_rfl) (by decide) (fun x => ⟨rfl, by simp [oneA, cU8]⟩) (opensA_int Tryz.underlying5)


namespace fnBeams
set_option maxRecDepth 100000 in
theorem lifted (os : Os) (started : os.Started) (H : Type) (enc : TypeId × Value → H) :
    ReturnsInHanded {} Tryz.checked os 3 .any (Rows.fnBeamsSpec.pre6 enc Tryz.prog Tryz.f3 Rows.fnBeamsRow.domain false) (Rows.fnBeamsSpec.post enc Tryz.prog Tryz.f3 false true false false) := by
  refine returnsInHanded_of_change_shaped (C := Tryz.checked) Tryz.own started (by kernel_rfl) Tryz.func3
    (ChangeSpec.witness6 (enc := enc) (C := Tryz.checked) false ⟨#[], #[.slice none 0 0, .slice none 0 0], []⟩ 8 (by kernel_rfl) (by kernel_rfl) (by kernel_rfl) (by kernel_rfl)) ?_
  intro W base args ds gs before hval0 hW hcnd hsz hshp _
  have hW' := hW
  obtain ⟨p, q, hA0, hV, rfl, hfz, hnd⟩ := hW
  have hval : ∀ (j : Nat) t v, Tryz.f3.params[j]? = some t → args[j]? = some v → Value.okWide Tryz.prog W .any base t v := hval0
  have hA : DataW.TrodAll enc Tryz.prog W 0 (fun _ => true) true Tryz.f3.params.toList args.toList ds p := hA0
  rw [Tryz.params3] at hA hval
  obtain ⟨v0, vs0, d0, ds0, p0, q0, hargs, rfl, rfl, h0, r0⟩ := trodAll_cons hA
  obtain ⟨v1, vs1, d1, ds1, p1, q1, rfl, rfl, rfl, h1, r1⟩ := trodAll_cons r0
  obtain ⟨rfl, rfl, rfl⟩ := trodAll_nil r1
  obtain rfl : args = #[v0, v1] := args_eq hargs
  obtain ⟨rfl, rfl⟩ := trodVars_none hV
  obtain ⟨fuel0, hf0⟩ := h0
  obtain ⟨A0, l0, c0, rfl⟩ := okWide_slice Tryz.underlying22 (hval 0 22 v0 rfl rfl)
  obtain ⟨x0, rx0, ok0⟩ := (opens_t22) enc W 0 _ _ _ _ _ hf0
  obtain ⟨fuel1, hf1⟩ := h1
  obtain ⟨A1, l1, c1, rfl⟩ := okWide_slice Tryz.underlying22 (hval 1 22 v1 rfl rfl)
  obtain ⟨x1, rx1, ok1⟩ := (opens_t22) enc W 0 _ _ _ _ _ hf1
  refine (walk_of0 (fnBeams_con x0 x1 ok0 ok1) (fun w _ => WX_free w) (RelTL.cons (relTL_one rx0) (RelTL.cons (relTL_one rx1) RelTL.nil))).mono fun e W1 ⟨he, hb⟩ => ?_
  subst he
  exact ⟨_, rfl, law_post Tryz.laidOut rfl Tryz.underlying4 (of_decide_eq_true (by kernel_rfl)) rfl hW' hb rfl⟩

theorem jf0 : (Rows.fnBeamsRow.inPlace == Tryz.pinned.checked.prog.inPlace 3) = true := by kernel_rfl
theorem jf1 : (Rows.fnBeamsRow.unfollowed == Tryz.pinned.checked.prog.unfollowed 3) = true := by kernel_rfl
theorem jf2 : (Rows.fnBeamsRow.recurses == Tryz.pinned.checked.prog.recurses 3) = true := by kernel_rfl
theorem jf3 : (Rows.fnBeamsRow.named == Tryz.pinned.checked.prog.varsNamed 3) = true := by kernel_rfl
theorem jf : joinedFacts Tryz.pinned.checked.prog 3 Tryz.f3 Rows.fnBeamsSpec Rows.fnBeamsRow = true := by
  unfold joinedFacts
  rw [jf0, jf1, jf2, jf3]
  kernel_rfl
theorem over : Rows.fnBeamsRow.holds Tryz.pinned (OpenSpec.ofChange Rows.fnBeamsSpec) :=
  OpenClaim.holds_of_wide 3 Tryz.f3 rfl rfl rfl rfl rfl rfl rfl ⟨rfl, rfl, rfl, rfl, rfl⟩ rfl rfl rfl rfl rfl (by kernel_rfl) Tryz.func3 jf
    (of_decide_eq_true (by kernel_rfl)) (by unfold Func.isWrapper; first | (rw [if_pos (by decide +kernel)]; kernel_rfl) | (rw [if_neg (by decide +kernel)]; exact ⟨rfl, rfl⟩))
    (fun os started H enc _ => lifted os started H enc)

theorem proved : Rows.FnBeamsSaid :=
  over
#print axioms proved
end fnBeams

end Go.Proofs.YtppknhfdmmnmoaaGreat.Ax
