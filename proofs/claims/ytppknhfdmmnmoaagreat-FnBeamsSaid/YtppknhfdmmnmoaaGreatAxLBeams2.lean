/- Contracts that the statement FnBeams reaches, part 2. No conditions. -/
import Derived.Test.YtppknhfdmmnmoaaGreatAxLBeams1
import Derived.Test.YtppknhfdmmnmoaaGreatAxR
import Derived.Test.YtppknhfdmmnmoaaGreatAxS
import Derived.Test.YtppknhfdmmnmoaaGreatAxSF
import Derived.Test.YtppknhfdmmnmoaaGreatSfFndShelf
import Derived.Test.YtppknhfdmmnmoaaGreatSfRdgShelf
namespace Go.Proofs.YtppknhfdmmnmoaaGreat.Ax
open Go.RowKit Go.ChangeShapes Go.WideShapes
set_option linter.unusedVariables false
set_option linter.unusedSimpArgs false


-- cmp.Compare[int64]
theorem CompareI_ok (x : Int) (y : Int) : Con Tryz.prog 62 [I x, I y] true (I (cmpI x y)) := by
  refine fn_ok (fn := Tryz.f62) (nt := 20) Tryz.func62 rfl rfl rfl rfl (by simp [taggedL, tagged]) fun B hB => ?_
  refine aR [] [0, 1] [] [I x, I y] [] [] hB trivial ?_
  refine aR [(1, .call [(true, .any)] true (Bv false))] [0, 1, 5] [] [I x, I y, Bv false] [] [Con Tryz.prog 77 [I x] true (Bv false) ∧ True] hB ⟨⟨(isNaNI_ok x), trivial⟩, trivial⟩ ?_
  refine aR [(1, .call [(true, .any)] true (Bv false))] [0, 1, 5, 6] [] [I x, I y, Bv false, Bv false] [] [Con Tryz.prog 77 [I y] true (Bv false) ∧ True] hB ⟨⟨(isNaNI_ok y), trivial⟩, trivial⟩ ?_
  refine aw_seq ?_
  refine aR [] [0, 1, 6, 11] [] [I x, I y, Bv false, Bv false] [] [] hB trivial ?_
  refine aw_false rfl ?_
  refine aw_skip ?_
  refine ae_then ?_
  refine aw_seq ?_
  refine aR [] [0, 1, 13] [] [I x, I y, Bv false] [] [] hB trivial ?_
  refine aw_false rfl ?_
  refine aw_skip ?_
  refine ae_then ?_
  refine aw_seq ?_
  refine aw_seq ?_
  by_cases h1 : x < y
  ·refine aw_r [(2, .dec true)] [0, 1, 16] [] [I x, I y, Bv true] [] [x < y] hB ⟨h1, trivial⟩ ?_
   refine ae_then ?_
   refine aw_true rfl ?_
   refine aR [] [4] [] [I (-1)] [] [] hB trivial ?_
   refine aw_ret ?_
   refine ae_ret_then ?_
   refine ae_ret hB (I (-1)) (by kernel_rfl) (.inl (by refine congrArg I ?_; unfold cmpI; first | (rw [if_pos (by omega)]; done) | (rw [if_neg (by omega), if_pos (by omega)]; done) | (rw [if_neg (by omega), if_neg (by omega)]; done))) rfl (fun _ => trivial)
  refine aw_r [(2, .dec false)] [0, 1, 16] [] [I x, I y, Bv false] [] [¬ (x < y)] hB ⟨h1, trivial⟩ ?_
  refine ae_then ?_
  refine aw_false rfl ?_
  refine aw_skip ?_
  refine ae_then ?_
  refine aw_seq ?_
  refine aw_seq ?_
  by_cases h2 : y < x
  ·refine aw_r [(2, .dec true)] [19] [] [Bv true] [] [y < x] hB ⟨h2, trivial⟩ ?_
   refine ae_then ?_
   refine aw_true rfl ?_
   refine aR [] [4] [] [I 1] [] [] hB trivial ?_
   refine aw_ret ?_
   refine ae_ret_then ?_
   refine ae_ret hB (I 1) (by kernel_rfl) (.inl (by refine congrArg I ?_; unfold cmpI; first | (rw [if_pos (by omega)]; done) | (rw [if_neg (by omega), if_pos (by omega)]; done) | (rw [if_neg (by omega), if_neg (by omega)]; done))) rfl (fun _ => trivial)
  refine aw_r [(2, .dec false)] [19] [] [Bv false] [] [¬ (y < x)] hB ⟨h2, trivial⟩ ?_
  refine ae_then ?_
  refine aw_false rfl ?_
  refine aw_skip ?_
  refine ae_then ?_
  refine aR [] [4] [] [I 0] [] [] hB trivial ?_
  refine aw_ret ?_
  refine ae_ret hB (I 0) (by kernel_rfl) (.inl (by refine congrArg I ?_; unfold cmpI; first | (rw [if_pos (by omega)]; done) | (rw [if_neg (by omega), if_pos (by omega)]; done) | (rw [if_neg (by omega), if_neg (by omega)]; done))) rfl (fun _ => trivial)



-- cmp.isNaN[string]
theorem isNaNS_ok (x : ByteArray) : Con Tryz.prog 76 [Sv x] true (Bv false) := by
  refine fn_ok (fn := Tryz.f76) (nt := 6) Tryz.func76 rfl rfl rfl rfl (by simp [taggedL, tagged]) fun B hB => ?_
  refine aR [] [0] [] [Sv x] [] [] hB trivial ?_
  refine aR [(2, .dec false)] [2] [] [Bv false] [] [¬ (x ≠ x)] hB ⟨(fun hq => hq rfl), trivial⟩ ?_
  refine aw_ret ?_
  refine ae_ret hB (Bv false) (by kernel_rfl) (.inl rfl) rfl (fun _ => trivial)



-- cmp.Compare[string]
theorem CompareS_ok (x : ByteArray) (y : ByteArray) : Con Tryz.prog 60 [Sv x, Sv y] true (I (cmpS x y)) := by
  refine fn_ok (fn := Tryz.f60) (nt := 20) Tryz.func60 rfl rfl rfl rfl (by simp [taggedL, tagged]) fun B hB => ?_
  refine aR [] [0, 1] [] [Sv x, Sv y] [] [] hB trivial ?_
  refine aR [(1, .call [(true, .any)] true (Bv false))] [0, 1, 5] [] [Sv x, Sv y, Bv false] [] [Con Tryz.prog 76 [Sv x] true (Bv false) ∧ True] hB ⟨⟨(isNaNS_ok x), trivial⟩, trivial⟩ ?_
  refine aR [(1, .call [(true, .any)] true (Bv false))] [0, 1, 5, 6] [] [Sv x, Sv y, Bv false, Bv false] [] [Con Tryz.prog 76 [Sv y] true (Bv false) ∧ True] hB ⟨⟨(isNaNS_ok y), trivial⟩, trivial⟩ ?_
  refine aw_seq ?_
  refine aR [] [0, 1, 6, 11] [] [Sv x, Sv y, Bv false, Bv false] [] [] hB trivial ?_
  refine aw_false rfl ?_
  refine aw_skip ?_
  refine ae_then ?_
  refine aw_seq ?_
  refine aR [] [0, 1, 13] [] [Sv x, Sv y, Bv false] [] [] hB trivial ?_
  refine aw_false rfl ?_
  refine aw_skip ?_
  refine ae_then ?_
  refine aw_seq ?_
  refine aw_seq ?_
  by_cases h1 : sless x y = true
  ·refine aw_r [(2, .dec true)] [0, 1, 16] [] [Sv x, Sv y, Bv true] [] [sless x y = true] hB ⟨h1, trivial⟩ ?_
   refine ae_then ?_
   refine aw_true rfl ?_
   refine aR [] [4] [] [I (-1)] [] [] hB trivial ?_
   refine aw_ret ?_
   refine ae_ret_then ?_
   refine ae_ret hB (I (-1)) (by kernel_rfl) (.inl (by refine congrArg I ?_; unfold cmpS; first | (rw [if_pos (by assumption)]; done) | (rw [if_neg (by assumption), if_pos (by assumption)]; done) | (rw [if_neg (by assumption), if_neg (by assumption)]; done))) rfl (fun _ => trivial)
  refine aw_r [(2, .dec false)] [0, 1, 16] [] [Sv x, Sv y, Bv false] [] [¬ (sless x y = true)] hB ⟨h1, trivial⟩ ?_
  refine ae_then ?_
  refine aw_false rfl ?_
  refine aw_skip ?_
  refine ae_then ?_
  refine aw_seq ?_
  refine aw_seq ?_
  by_cases h2 : sless x y = false ∧ x ≠ y
  ·refine aw_r [(2, .dec true)] [19] [] [Bv true] [] [sless x y = false ∧ x ≠ y] hB ⟨h2, trivial⟩ ?_
   refine ae_then ?_
   refine aw_true rfl ?_
   refine aR [] [4] [] [I 1] [] [] hB trivial ?_
   refine aw_ret ?_
   refine ae_ret_then ?_
   refine ae_ret hB (I 1) (by kernel_rfl) (.inl (by refine congrArg I ?_; unfold cmpS; first | (rw [if_pos (by assumption)]; done) | (rw [if_neg (by assumption), if_pos (by assumption)]; done) | (rw [if_neg (by assumption), if_neg (by assumption)]; done))) rfl (fun _ => trivial)
  refine aw_r [(2, .dec false)] [19] [] [Bv false] [] [¬ (sless x y = false ∧ x ≠ y)] hB ⟨h2, trivial⟩ ?_
  refine ae_then ?_
  refine aw_false rfl ?_
  refine aw_skip ?_
  refine ae_then ?_
  refine aR [] [4] [] [I 0] [] [] hB trivial ?_
  refine aw_ret ?_
  refine ae_ret hB (I 0) (by kernel_rfl) (.inl (by refine congrArg I ?_; unfold cmpS; first | (rw [if_pos (by assumption)]; done) | (rw [if_neg (by assumption), if_pos (by assumption)]; done) | (rw [if_neg (by assumption), if_neg (by assumption)]; done))) rfl (fun _ => trivial)



-- cmp.Or[int]
theorem OrI_ok (vals : List Int) : Con Tryz.prog 61 [slI false vals] true (I (orL vals)) := by
  refine fn_ok (fn := Tryz.f61) (nt := 18) Tryz.func61 rfl rfl rfl rfl (by simp [taggedL, tagged, tagI]) fun B hB => ?_
  refine aw_lens (x := slI false vals) 0 rfl (fun len_vals => ?_)
  simp [LenOK, LenL, cI, fI, slI] at len_vals
  refine aR [] [0] [] [slI false vals] [] [] hB trivial ?_
  refine aR [] [0, 3] [] [slI false vals, I 0] [] [] hB trivial ?_
  refine aw_seq ?_
  refine aR [] [3, 6, 7, 8] [] [I 0, slI false vals, I (vals.length : Int), I 0] [] [] hB trivial ?_
  refine aw_block ?_
  refine aw_loop (fun gn gσ => ∃ (t8 : Int), gn = ((vals.length : Int) - t8).toNat ∧ (0 ≤ t8 ∧ t8 ≤ (vals.length : Int)) ∧ (∀ j : Nat, (j : Int) < t8 → at_ vals j = 0) ∧ gσ = mkS [(3, I 0), (6, slI false vals), (7, I (vals.length : Int)), (8, I t8)] []) (((vals.length : Int) - 0).toNat) ⟨0, rfl, (by omega), (by intro j hj; omega), rfl⟩ (fun gn gσ hI => ?_)
  obtain ⟨t8, rfl, hi0, hz0, rfl⟩ := hI
  refine aw_seq ?_
  by_cases h1 : t8 < (vals.length : Int)
  ·have hi : t8.toNat < vals.length := by omega
   refine aw_r [(0, .dec true)] [3, 6, 7, 8, 9] [] [I 0, slI false vals, I (vals.length : Int), I t8, Bv true] [] [t8 < (vals.length : Int)] hB ⟨h1, trivial⟩ ?_
   refine ae_then ?_
   refine aw_seq ?_
   refine aw_true rfl ?_
   refine aw_skip ?_
   refine ae_then ?_
   refine aw_seq ?_
   refine aw_block ?_
   refine aR [] [3, 5, 6, 7, 8] [] [I 0, I (at_ vals t8.toNat), slI false vals, I (vals.length : Int), I t8] [] [(0 : Int) ≤ t8 ∧ t8 < (vals.length : Int)] hB ⟨⟨(by omega), (by omega)⟩, trivial⟩ ?_
   refine aw_seq ?_
   by_cases h2 : (at_ vals t8.toNat) = 0
   ·refine aw_r [(2, .dec false)] [3, 5, 6, 7, 8, 14] [] [I 0, I (at_ vals t8.toNat), slI false vals, I (vals.length : Int), I t8, Bv false] [] [¬ ((at_ vals t8.toNat) ≠ 0)] hB ⟨(fun hq => hq h2), trivial⟩ ?_
    refine ae_then ?_
    refine aw_false rfl ?_
    refine aw_skip ?_
    refine ae_block 1 ?_
    refine ae_then ?_
    refine aw_r [] [3, 6, 7, 8] [] [I 0, slI false vals, I (vals.length : Int), I (t8 + 1)] [] [inR .i64 (t8 + 1)] hB ⟨(inR_i64 (by omega) (by omega)), trivial⟩ ?_
    exact ae_again _ (by omega) ⟨(t8 + 1), rfl, (by omega), (by intro j hj; by_cases ej : j = t8.toNat; (subst ej; assumption); exact hz0 j (by omega)), rfl⟩
   refine aw_r [(2, .dec true)] [3, 5, 6, 7, 8, 14] [] [I 0, I (at_ vals t8.toNat), slI false vals, I (vals.length : Int), I t8, Bv true] [] [(at_ vals t8.toNat) ≠ 0] hB ⟨h2, trivial⟩ ?_
   refine ae_then ?_
   refine aw_true rfl ?_
   refine aR [] [2] [] [I (at_ vals t8.toNat)] [] [] hB trivial ?_
   refine aw_ret ?_
   refine ae_ret_block (ae_ret_then (ae_ret_then (ae_ret_block (ae_ret_then ?_))))
   refine ae_ret hB (I (at_ vals t8.toNat)) (by kernel_rfl) (.inl (by refine congrArg I ?_; first | (rw [orL_none (fun j hj => hz0 j (by omega))]; done) | (rw [orL_at hi (fun j hj => hz0 j (by omega)) (by assumption)]; done) | (rw [orL_at hi (fun j hj => hz0 j (by omega)) (by assumption)]))) rfl (fun _ => trivial)
  refine aw_r [(0, .dec false)] [3, 6, 7, 8, 9] [] [I 0, slI false vals, I (vals.length : Int), I t8, Bv false] [] [¬ (t8 < (vals.length : Int))] hB ⟨h1, trivial⟩ ?_
  refine ae_then ?_
  refine aw_seq ?_
  refine aw_false rfl ?_
  refine aw_exit ?_
  refine ae_exit_then ?_
  refine ae_exit_then ?_
  refine ae_exit_same ?_
  refine ae_then ?_
  refine aR [] [2] [] [I 0] [] [] hB trivial ?_
  refine aw_ret ?_
  refine ae_ret hB (I 0) (by kernel_rfl) (.inl (by refine congrArg I ?_; first | (rw [orL_none (fun j hj => hz0 j (by omega))]; done) | (rw [orL_at hi (fun j hj => hz0 j (by omega)) (by assumption)]; done) | (rw [orL_at hi (fun j hj => hz0 j (by omega)) (by assumption)]))) rfl (fun _ => trivial)



-- impl.compareEdges
theorem compareEdges_ok (a : Edge) (b : Edge) : Con Tryz.prog 53 [agEdge a, agEdge b] true (I (cmpE a b)) := by
  refine fn_ok (fn := Tryz.f53) (nt := 22) Tryz.func53 rfl rfl rfl rfl (by simp [taggedL, tagged]) fun B hB => ?_
  refine aR [(0, .new 2), (1, .new 3)] [2, 3] [2, 3] [.ref 2 0, .ref 3 0] [some (bxEdge a), some (bxEdge b)] [] hB trivial ?_
  refine aR [(4, .call [(true, .any), (true, .any)] true (I (cmpI a.From b.From))), (9, .call [(true, .any), (true, .any)] true (I (cmpI a.To b.To))), (14, .call [(true, .any), (true, .any)] true (I (cmpS a.Label b.Label))), (15, .new 20), (16, .call [(false, slI false ([(cmpI a.From b.From), (cmpI a.To b.To), (cmpS a.Label b.Label)]))] true (I (orL ([(cmpI a.From b.From), (cmpI a.To b.To), (cmpS a.Label b.Label)]))))] [4] [] [I (orL ([(cmpI a.From b.From), (cmpI a.To b.To), (cmpS a.Label b.Label)]))] [] [Con Tryz.prog 62 [I a.From, I b.From] true (I (cmpI a.From b.From)) ∧ True, Con Tryz.prog 62 [I a.To, I b.To] true (I (cmpI a.To b.To)) ∧ True, Con Tryz.prog 60 [Sv a.Label, Sv b.Label] true (I (cmpS a.Label b.Label)) ∧ True, Con Tryz.prog 61 [slI false ([(cmpI a.From b.From), (cmpI a.To b.To), (cmpS a.Label b.Label)])] true (I (orL ([(cmpI a.From b.From), (cmpI a.To b.To), (cmpS a.Label b.Label)]))) ∧ ((false = true → true = true) ∧ 1 = 1 ∧ 3 = (([(cmpI a.From b.From), (cmpI a.To b.To), (cmpS a.Label b.Label)]).length) ∧ ∀ i_, i_ < (([(cmpI a.From b.From), (cmpI a.To b.To), (cmpS a.Label b.Label)]).length) → (litF [I (cmpI a.From b.From), I (cmpI a.To b.To), I (cmpS a.Label b.Label)] 1) i_ = (fI ([(cmpI a.From b.From), (cmpI a.To b.To), (cmpS a.Label b.Label)])) i_ ∨ (AV.idsL ((fI ([(cmpI a.From b.From), (cmpI a.To b.To), (cmpS a.Label b.Label)])) i_) = [] ∧ leL (fun _ => none) false ((litF [I (cmpI a.From b.From), I (cmpI a.To b.To), I (cmpS a.Label b.Label)] 1) i_) ((fI ([(cmpI a.From b.From), (cmpI a.To b.To), (cmpS a.Label b.Label)])) i_))) ∧ True] hB ⟨⟨(CompareI_ok a.From b.From), trivial⟩, ⟨(CompareI_ok a.To b.To), trivial⟩, ⟨(CompareS_ok a.Label b.Label), trivial⟩, ⟨(OrI_ok ([(cmpI a.From b.From), (cmpI a.To b.To), (cmpS a.Label b.Label)])), ⟨(fun h => by cases h), rfl, (by first | rfl | (simp; done) | (simp; omega) | omega), fun i_ hi_ => .inl (match i_, hi_ with | 0, _ => rfl | 1, _ => rfl | 2, _ => rfl | (i + 3), h => absurd h (by simp))⟩, trivial⟩, trivial⟩ ?_
  refine aw_ret ?_
  refine ae_ret hB (I (orL ([(cmpI a.From b.From), (cmpI a.To b.To), (cmpS a.Label b.Label)]))) (by kernel_rfl) (.inl (by rfl)) rfl (fun _ => trivial)



-- impl.ValidLattice
theorem ValidLattice_ok (l : Lattice) (hl : okLat l) : Con Tryz.prog 29 [agLattice l] true (Bv true) := by
  have hn := hl.1
  have hc := hl.2.1
  refine fn_ok (fn := Tryz.f29) (nt := 48) Tryz.func29 rfl rfl rfl rfl (by simp [taggedL, tagged, tagEdge]) fun B hB => ?_
  refine aw_lens (x := agLattice l) 0 rfl (fun len_l => ?_)
  simp [LenOK, LenL, cEdge, fEdge, slEdge] at len_l
  refine aR [(0, .new 1)] [1] [1] [.ref 1 0] [some (bxLattice l)] [] hB trivial ?_
  refine aw_seq ?_
  refine aR [] [1, 6, 7, 8] [1] [.ref 1 0, slEdge false l.Edges, I (l.Edges.length : Int), I 0] [some (bxLattice l)] [] hB trivial ?_
  refine aw_block ?_
  refine aw_loop (fun gn gσ => ∃ (t8 : Int), gn = ((l.Edges.length : Int) - t8).toNat ∧ (0 ≤ t8 ∧ t8 ≤ (l.Edges.length : Int)) ∧ gσ = mkS [(1, .ref 1 0), (6, slEdge false l.Edges), (7, I (l.Edges.length : Int)), (8, I t8)] [(1, bxLattice l)]) (((l.Edges.length : Int) - 0).toNat) ⟨0, rfl, (by omega), rfl⟩ (fun gn gσ hI => ?_)
  obtain ⟨t8, rfl, hi0, rfl⟩ := hI
  refine aw_seq ?_
  by_cases h1 : t8 < (l.Edges.length : Int)
  ·have hi : t8.toNat < l.Edges.length := by omega
   have hed := hl.2.2.1 _ hi
   refine aw_r [(0, .dec true)] [1, 6, 7, 8, 9] [1] [.ref 1 0, slEdge false l.Edges, I (l.Edges.length : Int), I t8, Bv true] [some (bxLattice l)] [t8 < (l.Edges.length : Int)] hB ⟨h1, trivial⟩ ?_
   refine ae_then ?_
   refine aw_seq ?_
   refine aw_true rfl ?_
   refine aw_skip ?_
   refine ae_then ?_
   refine aw_seq ?_
   refine aw_block ?_
   refine aR [(3, .new 4)] [1, 3, 4, 6, 7, 8] [1, 4] [.ref 1 0, I t8, .ref 4 0, slEdge false l.Edges, I (l.Edges.length : Int), I t8] [some (bxLattice l), some (bxEdge (at_ l.Edges t8.toNat))] [(0 : Int) ≤ t8 ∧ t8 < (l.Edges.length : Int)] hB ⟨⟨(by omega), (by omega)⟩, trivial⟩ ?_
   refine aw_seq ?_
   by_cases h2 : 0 < t8
   ·have hpr := pw_get hl.2.2.2 (show (t8 - 1).toNat < t8.toNat by omega) hi
    refine aw_r [(2, .call [(true, .any), (true, .any)] true (Bv true)), (7, .call [(true, .any)] true (Bv true)), (12, .dec true), (21, .call [(true, .any), (true, .any)] true (I (cmpE (at_ l.Edges ((t8 - 1).toNat)) (at_ l.Edges t8.toNat)))), (22, .dec false)] [1, 6, 7, 8, 37] [1] [.ref 1 0, slEdge false l.Edges, I (l.Edges.length : Int), I t8, Bv false] [some (bxLattice l)] [Con Tryz.prog 51 [agLattice l, agEdge (at_ l.Edges t8.toNat)] true (Bv true) ∧ True, Con Tryz.prog 52 [Sv ((at_ l.Edges t8.toNat).Label)] true (Bv true) ∧ True, 0 < t8, inR .i64 (t8 - 1), (0 : Int) ≤ (t8 - 1) ∧ (t8 - 1) < (l.Edges.length : Int), Con Tryz.prog 53 [agEdge (at_ l.Edges ((t8 - 1).toNat)), agEdge (at_ l.Edges t8.toNat)] true (I (cmpE (at_ l.Edges ((t8 - 1).toNat)) (at_ l.Edges t8.toNat))) ∧ True, ¬ (0 ≤ (cmpE (at_ l.Edges ((t8 - 1).toNat)) (at_ l.Edges t8.toNat)))] hB ⟨⟨(fitsNodes_ok l (at_ l.Edges t8.toNat) hed (by omega)), trivial⟩, ⟨(con_bool hed.2.2 (implIsLabel_ok ((at_ l.Edges t8.toNat).Label) (by have := lab_size hed.2.2; omega))), trivial⟩, h2, (inR_i64 (by omega) (by omega)), ⟨(by omega), (by omega)⟩, ⟨(compareEdges_ok (at_ l.Edges ((t8 - 1).toNat)) (at_ l.Edges t8.toNat)), trivial⟩, (by omega), trivial⟩ ?_
    refine ae_then ?_
    refine aw_false rfl ?_
    refine aw_skip ?_
    refine ae_block 1 ?_
    refine ae_then ?_
    refine aw_r [] [1, 6, 7, 8] [1] [.ref 1 0, slEdge false l.Edges, I (l.Edges.length : Int), I (t8 + 1)] [some (bxLattice l)] [inR .i64 (t8 + 1)] hB ⟨(inR_i64 (by omega) (by omega)), trivial⟩ ?_
    exact ae_again _ (by omega) ⟨(t8 + 1), rfl, (by omega), rfl⟩
   refine aw_r [(2, .call [(true, .any), (true, .any)] true (Bv true)), (7, .call [(true, .any)] true (Bv true)), (12, .dec false)] [1, 6, 7, 8, 37] [1] [.ref 1 0, slEdge false l.Edges, I (l.Edges.length : Int), I t8, Bv false] [some (bxLattice l)] [Con Tryz.prog 51 [agLattice l, agEdge (at_ l.Edges t8.toNat)] true (Bv true) ∧ True, Con Tryz.prog 52 [Sv ((at_ l.Edges t8.toNat).Label)] true (Bv true) ∧ True, ¬ (0 < t8)] hB ⟨⟨(fitsNodes_ok l (at_ l.Edges t8.toNat) hed (by omega)), trivial⟩, ⟨(con_bool hed.2.2 (implIsLabel_ok ((at_ l.Edges t8.toNat).Label) (by have := lab_size hed.2.2; omega))), trivial⟩, h2, trivial⟩ ?_
   refine ae_then ?_
   refine aw_false rfl ?_
   refine aw_skip ?_
   refine ae_block 1 ?_
   refine ae_then ?_
   refine aw_r [] [1, 6, 7, 8] [1] [.ref 1 0, slEdge false l.Edges, I (l.Edges.length : Int), I (t8 + 1)] [some (bxLattice l)] [inR .i64 (t8 + 1)] hB ⟨(inR_i64 (by omega) (by omega)), trivial⟩ ?_
   exact ae_again _ (by omega) ⟨(t8 + 1), rfl, (by omega), rfl⟩
  refine aw_r [(0, .dec false)] [1, 6, 7, 8, 9] [1] [.ref 1 0, slEdge false l.Edges, I (l.Edges.length : Int), I t8, Bv false] [some (bxLattice l)] [¬ (t8 < (l.Edges.length : Int))] hB ⟨h1, trivial⟩ ?_
  refine ae_then ?_
  refine aw_seq ?_
  refine aw_false rfl ?_
  refine aw_exit ?_
  refine ae_exit_then ?_
  refine ae_exit_then ?_
  refine ae_exit_same ?_
  refine ae_then ?_
  refine aR [(2, .call [(true, .any), (true, .any), (true, .any)] true (Bv true)), (7, .dec true)] [2] [] [Bv true] [] [Con Tryz.prog 28 [I l.Nodes, I 1, I 20] true (Bv true) ∧ True, (l.Edges.length : Int) ≤ 200] hB ⟨⟨(con_bool (inB_iff.2 hl.1) (within_ok l.Nodes 1 20)), trivial⟩, (by omega), trivial⟩ ?_
  refine aw_ret ?_
  refine ae_ret hB (Bv true) (by kernel_rfl) (.inl rfl) rfl (fun _ => trivial)



-- impl.IsWord
theorem IsWord_ok (s : ByteArray) (hs : s.size ≤ 1000) : Con Tryz.prog 54 [Sv s] true (Bv (okWord s)) := by
  refine fn_ok (fn := Tryz.f54) (nt := 24) Tryz.func54 rfl rfl rfl rfl (by simp [taggedL, tagged]) fun B hB => ?_
  refine aR [] [0] [] [Sv s] [] [] hB trivial ?_
  refine aw_seq ?_
  refine aR [] [0, 6, 7, 8] [] [Sv s, .sl true 1 s.size (byteF s), I (s.size : Int), I 0] [] [s.size ≤ 140737488355328] hB ⟨(by omega), trivial⟩ ?_
  refine aw_block ?_
  refine aw_loop (fun gn gσ => ∃ (t8 : Int), gn = ((s.size : Int) - t8).toNat ∧ (0 ≤ t8 ∧ t8 ≤ (s.size : Int)) ∧ (∀ j : Nat, (j : Int) < t8 → letB (bAt s j) = true) ∧ gσ = mkS [(0, Sv s), (6, .sl true 1 s.size (byteF s)), (7, I (s.size : Int)), (8, I t8)] []) (((s.size : Int) - 0).toNat) ⟨0, rfl, (by omega), (by intro j hj; omega), rfl⟩ (fun gn gσ hI => ?_)
  obtain ⟨t8, rfl, hi0, hz0, rfl⟩ := hI
  refine aw_seq ?_
  by_cases h1 : t8 < (s.size : Int)
  ·refine aw_r [(0, .dec true)] [0, 6, 7, 8, 9] [] [Sv s, .sl true 1 s.size (byteF s), I (s.size : Int), I t8, Bv true] [] [t8 < (s.size : Int)] hB ⟨h1, trivial⟩ ?_
   refine ae_then ?_
   refine aw_seq ?_
   refine aw_true rfl ?_
   refine aw_skip ?_
   refine ae_then ?_
   refine aw_seq ?_
   refine aw_block ?_
   refine aR [] [0, 4, 6, 7, 8] [] [Sv s, .val (.int .u8 (bAt s t8.toNat)), .sl true 1 s.size (byteF s), I (s.size : Int), I t8] [] [(0 : Int) ≤ t8 ∧ t8 < (s.size : Int)] hB ⟨⟨(by omega), (by omega)⟩, trivial⟩ ?_
   refine aw_seq ?_
   rcases Bool.eq_false_or_eq_true (inB (bAt s t8.toNat) 97 122) with h2 | h2
   ·refine aw_r [(1, .call [(true, .any)] true (Bv true))] [0, 6, 7, 8, 14] [] [Sv s, .sl true 1 s.size (byteF s), I (s.size : Int), I t8, Bv false] [] [Con Tryz.prog 74 [.val (.int .u8 (bAt s t8.toNat))] true (Bv true) ∧ True] hB ⟨⟨(con_bool h2 (isLetter_ok (bAt s t8.toNat))), trivial⟩, trivial⟩ ?_
    refine ae_then ?_
    refine aw_false rfl ?_
    refine aw_skip ?_
    refine ae_block 1 ?_
    refine ae_then ?_
    refine aw_r [] [0, 6, 7, 8] [] [Sv s, .sl true 1 s.size (byteF s), I (s.size : Int), I (t8 + 1)] [] [inR .i64 (t8 + 1)] hB ⟨(inR_i64 (by omega) (by omega)), trivial⟩ ?_
    exact ae_again _ (by omega) ⟨(t8 + 1), rfl, (by omega), (by intro j hj; by_cases ej : j = t8.toNat; (subst ej; assumption); exact hz0 j (by omega)), rfl⟩
   refine aw_r [(1, .call [(true, .any)] true (Bv false))] [0, 6, 7, 8, 14] [] [Sv s, .sl true 1 s.size (byteF s), I (s.size : Int), I t8, Bv true] [] [Con Tryz.prog 74 [.val (.int .u8 (bAt s t8.toNat))] true (Bv false) ∧ True] hB ⟨⟨(con_bool h2 (isLetter_ok (bAt s t8.toNat))), trivial⟩, trivial⟩ ?_
   refine ae_then ?_
   refine aw_true rfl ?_
   refine aR [] [2] [] [Bv false] [] [] hB trivial ?_
   refine aw_ret ?_
   refine ae_ret_block (ae_ret_then (ae_ret_then (ae_ret_block (ae_ret_then ?_))))
   refine ae_ret hB (Bv false) (by kernel_rfl) (.inl (by first | (refine congrArg Bv ?_; rw [okWord_sz (fun j hj => hz0 j (by omega))]; first | exact decide_eq_decide.2 ⟨fun _ => by omega, fun _ => by omega⟩ | exact (decide_eq_true (by omega)).symm | exact (decide_eq_false (by omega)).symm | (simp; omega)) | (refine congrArg Bv ?_; exact (okWord_no (j := t8.toNat) (by omega) (by assumption)).symm))) rfl (fun _ => trivial)
  refine aw_r [(0, .dec false)] [0, 6, 7, 8, 9] [] [Sv s, .sl true 1 s.size (byteF s), I (s.size : Int), I t8, Bv false] [] [¬ (t8 < (s.size : Int))] hB ⟨h1, trivial⟩ ?_
  refine ae_then ?_
  refine aw_seq ?_
  refine aw_false rfl ?_
  refine aw_exit ?_
  refine ae_exit_then ?_
  refine ae_exit_then ?_
  refine ae_exit_same ?_
  refine ae_then ?_
  refine aw_seq ?_
  by_cases h3 : 1 ≤ (s.size : Int)
  ·refine aw_r [(2, .dec true)] [2] [] [Bv (decide ((s.size : Int) ≤ 10))] [] [1 ≤ (s.size : Int)] hB ⟨h3, trivial⟩ ?_
   refine ae_then ?_
   refine aw_ret ?_
   refine ae_ret hB (Bv (decide ((s.size : Int) ≤ 10))) (by kernel_rfl) (.inl (by first | (refine congrArg Bv ?_; rw [okWord_sz (fun j hj => hz0 j (by omega))]; first | exact decide_eq_decide.2 ⟨fun _ => by omega, fun _ => by omega⟩ | exact (decide_eq_true (by omega)).symm | exact (decide_eq_false (by omega)).symm | (simp; omega)) | (refine congrArg Bv ?_; exact (okWord_no (j := t8.toNat) (by omega) (by assumption)).symm))) rfl (fun _ => trivial)
  refine aw_r [(2, .dec false)] [2] [] [Bv false] [] [¬ (1 ≤ (s.size : Int))] hB ⟨h3, trivial⟩ ?_
  refine ae_then ?_
  refine aw_ret ?_
  refine ae_ret hB (Bv false) (by kernel_rfl) (.inl (by first | (refine congrArg Bv ?_; rw [okWord_sz (fun j hj => hz0 j (by omega))]; first | exact decide_eq_decide.2 ⟨fun _ => by omega, fun _ => by omega⟩ | exact (decide_eq_true (by omega)).symm | exact (decide_eq_false (by omega)).symm | (simp; omega)) | (refine congrArg Bv ?_; exact (okWord_no (j := t8.toNat) (by omega) (by assumption)).symm))) rfl (fun _ => trivial)



-- impl.ValidLexicon
theorem ValidLexicon_ok (lx : Lexicon) (hx : okLex lx) : Con Tryz.prog 30 [.agg [slEntry false lx.Entries]] true (Bv true) := by
  have hc := hx.1
  refine fn_ok (fn := Tryz.f30) (nt := 44) Tryz.func30 rfl rfl rfl rfl (by simp [taggedL, tagged, tagEntry]) fun B hB => ?_
  refine aw_lens (x := .agg [slEntry false lx.Entries]) 0 rfl (fun len_lx => ?_)
  simp [LenOK, LenL, cEntry, fEntry, slEntry] at len_lx
  refine aR [(0, .new 1)] [1] [1] [.ref 1 0] [some (.box [slEntry false lx.Entries])] [] hB trivial ?_
  refine aw_seq ?_
  refine aR [] [1, 6, 7, 8] [1] [.ref 1 0, slEntry false lx.Entries, I (lx.Entries.length : Int), I 0] [some (.box [slEntry false lx.Entries])] [] hB trivial ?_
  refine aw_block ?_
  refine aw_loop (fun gn gσ => ∃ (t8 : Int), gn = ((lx.Entries.length : Int) - t8).toNat ∧ (0 ≤ t8 ∧ t8 ≤ (lx.Entries.length : Int)) ∧ gσ = mkS [(1, .ref 1 0), (6, slEntry false lx.Entries), (7, I (lx.Entries.length : Int)), (8, I t8)] [(1, .box [slEntry false lx.Entries])]) (((lx.Entries.length : Int) - 0).toNat) ⟨0, rfl, (by omega), rfl⟩ (fun gn gσ hI => ?_)
  obtain ⟨t8, rfl, hi0, rfl⟩ := hI
  refine aw_seq ?_
  by_cases h1 : t8 < (lx.Entries.length : Int)
  ·have hi : t8.toNat < lx.Entries.length := by omega
   have hen := hx.2.1 _ (at_mem hi)
   have hed := hen
   refine aw_r [(0, .dec true)] [1, 6, 7, 8, 9] [1] [.ref 1 0, slEntry false lx.Entries, I (lx.Entries.length : Int), I t8, Bv true] [some (.box [slEntry false lx.Entries])] [t8 < (lx.Entries.length : Int)] hB ⟨h1, trivial⟩ ?_
   refine ae_then ?_
   refine aw_seq ?_
   refine aw_true rfl ?_
   refine aw_skip ?_
   refine ae_then ?_
   refine aw_seq ?_
   refine aw_block ?_
   refine aR [(3, .new 4)] [1, 3, 4, 6, 7, 8] [1, 4] [.ref 1 0, I t8, .ref 4 0, slEntry false lx.Entries, I (lx.Entries.length : Int), I t8] [some (.box [slEntry false lx.Entries]), some (bxEntry (at_ lx.Entries t8.toNat))] [(0 : Int) ≤ t8 ∧ t8 < (lx.Entries.length : Int)] hB ⟨⟨(by omega), (by omega)⟩, trivial⟩ ?_
   refine aw_seq ?_
   by_cases h2 : 0 < t8
   ·have hpr := pw_get hx.2.2 (show (t8 - 1).toNat < t8.toNat by omega) hi
    have hpa := (cmpN_w.anti _ _).1 hpr
    refine aw_r [(2, .call [(true, .any)] true (Bv true)), (7, .call [(true, .any)] true (Bv true)), (12, .dec true), (23, .dec false)] [1, 6, 7, 8, 38] [1] [.ref 1 0, slEntry false lx.Entries, I (lx.Entries.length : Int), I t8, Bv false] [some (.box [slEntry false lx.Entries])] [Con Tryz.prog 54 [Sv ((at_ lx.Entries t8.toNat).Word)] true (Bv true) ∧ True, Con Tryz.prog 55 [I ((at_ lx.Entries t8.toNat).Cost)] true (Bv true) ∧ True, 0 < t8, inR .i64 (t8 - 1), (0 : Int) ≤ (t8 - 1) ∧ (t8 - 1) < (lx.Entries.length : Int), ¬ (sless ((at_ lx.Entries t8.toNat).Word) ((at_ lx.Entries ((t8 - 1).toNat)).Word) = true ∨ ((at_ lx.Entries t8.toNat).Word) = ((at_ lx.Entries ((t8 - 1).toNat)).Word))] hB ⟨⟨(con_bool hen.1 (IsWord_ok ((at_ lx.Entries t8.toNat).Word) (by have := (okWord_iff.1 hen.1).1; omega))), trivial⟩, ⟨(con_bool (inB_iff.2 hen.2) (isCost_ok ((at_ lx.Entries t8.toNat).Cost))), trivial⟩, h2, (inR_i64 (by omega) (by omega)), ⟨(by omega), (by omega)⟩, (by have q := cmpS_neg.1 (show cmpS _ _ < 0 from hpr); exact fun z => z.elim (fun a => by rw [sl_asym q] at a; cases a) (fun a => sl_ne q a.symm)), trivial⟩ ?_
    refine ae_then ?_
    refine aw_false rfl ?_
    refine aw_skip ?_
    refine ae_block 1 ?_
    refine ae_then ?_
    refine aw_r [] [1, 6, 7, 8] [1] [.ref 1 0, slEntry false lx.Entries, I (lx.Entries.length : Int), I (t8 + 1)] [some (.box [slEntry false lx.Entries])] [inR .i64 (t8 + 1)] hB ⟨(inR_i64 (by omega) (by omega)), trivial⟩ ?_
    exact ae_again _ (by omega) ⟨(t8 + 1), rfl, (by omega), rfl⟩
   refine aw_r [(2, .call [(true, .any)] true (Bv true)), (7, .call [(true, .any)] true (Bv true)), (12, .dec false)] [1, 6, 7, 8, 38] [1] [.ref 1 0, slEntry false lx.Entries, I (lx.Entries.length : Int), I t8, Bv false] [some (.box [slEntry false lx.Entries])] [Con Tryz.prog 54 [Sv ((at_ lx.Entries t8.toNat).Word)] true (Bv true) ∧ True, Con Tryz.prog 55 [I ((at_ lx.Entries t8.toNat).Cost)] true (Bv true) ∧ True, ¬ (0 < t8)] hB ⟨⟨(con_bool hen.1 (IsWord_ok ((at_ lx.Entries t8.toNat).Word) (by have := (okWord_iff.1 hen.1).1; omega))), trivial⟩, ⟨(con_bool (inB_iff.2 hen.2) (isCost_ok ((at_ lx.Entries t8.toNat).Cost))), trivial⟩, h2, trivial⟩ ?_
   refine ae_then ?_
   refine aw_false rfl ?_
   refine aw_skip ?_
   refine ae_block 1 ?_
   refine ae_then ?_
   refine aw_r [] [1, 6, 7, 8] [1] [.ref 1 0, slEntry false lx.Entries, I (lx.Entries.length : Int), I (t8 + 1)] [some (.box [slEntry false lx.Entries])] [inR .i64 (t8 + 1)] hB ⟨(inR_i64 (by omega) (by omega)), trivial⟩ ?_
   exact ae_again _ (by omega) ⟨(t8 + 1), rfl, (by omega), rfl⟩
  refine aw_r [(0, .dec false)] [1, 6, 7, 8, 9] [1] [.ref 1 0, slEntry false lx.Entries, I (lx.Entries.length : Int), I t8, Bv false] [some (.box [slEntry false lx.Entries])] [¬ (t8 < (lx.Entries.length : Int))] hB ⟨h1, trivial⟩ ?_
  refine ae_then ?_
  refine aw_seq ?_
  refine aw_false rfl ?_
  refine aw_exit ?_
  refine ae_exit_then ?_
  refine ae_exit_then ?_
  refine ae_exit_same ?_
  refine ae_then ?_
  refine aR [(3, .dec true)] [2] [] [Bv true] [] [(lx.Entries.length : Int) ≤ 60] hB ⟨(by omega), trivial⟩ ?_
  refine aw_ret ?_
  refine ae_ret hB (Bv true) (by kernel_rfl) (.inl rfl) rfl (fun _ => trivial)



def firstN (n : Nat) (p : Nat → Bool) : Int := match (List.range n).find? p with
  | some i => i
  | none => -1

theorem ext_zero (w : ByteArray) : w.extract 0 0 = ⟨#[]⟩ := by
  apply ByteArray.ext
  simp
theorem ext_step (w : ByteArray) {k : Nat} (h : k < w.size) : w.extract 0 (k + 1) = w.extract 0 k ++ chA w k := by
  apply ba_inj
  rw [toList_app]
  unfold chA
  have e : ∀ a b : Nat, (w.extract a b).toList = (w.data.toList.drop a).take (b - a) := fun a b => by rw [Lib.toList_data]; simp [ByteArray.data_extract, Array.toList_extract, List.extract_eq_take_drop]
  rw [e, e, e, Nat.sub_zero, Nat.sub_zero, List.drop_zero, Nat.add_sub_cancel_left, List.take_add]
theorem ext_full (w : ByteArray) : w.extract 0 w.size = w := by
  apply ba_inj
  rw [Lib.toList_data, Lib.toList_data, ByteArray.data_extract, Array.toList_extract, List.extract_eq_take_drop, List.drop_zero, Nat.sub_zero, List.take_of_length_le]
  exact Nat.le_refl _
theorem ext_sz (w : ByteArray) {k : Nat} (h : k ≤ w.size) : (w.extract 0 k).size = k := by rw [ByteArray.size_extract]; omega
theorem chA_sz (w : ByteArray) {k : Nat} (h : k < w.size) : (chA w k).size = 1 := by unfold chA; rw [ByteArray.size_extract]; omega
def tcC (l : Lattice) (c : List Int) (ch : ByteArray) (i n : Nat) (v : Int) : Prop := ∃ i' : Nat, i' < i ∧ (at_ l.Edges i').Label = ch ∧ at_ c (at_ l.Edges i').From.toNat < 1099511627776 ∧ (at_ l.Edges i').To = (n : Int) ∧ v = at_ c (at_ l.Edges i').From.toNat + (at_ l.Edges i').Cost
theorem rowE_is {l : Lattice} (hl : okLat l) {b : Int} (hb : 0 ≤ b) {c : List Int} (hc : okRow l.Nodes.toNat b c) (ch : ByteArray) : ∀ i : Nat, i ≤ l.Edges.length → (∀ n : Nat, n < l.Nodes.toNat → (at_ (rowE l c ch i).1 n < 1099511627776 → tcC l c ch i n (at_ (rowE l c ch i).1 n)) ∧ ∀ v, tcC l c ch i n v → at_ (rowE l c ch i).1 n ≤ v) ∧ ((∃ i' : Nat, i' < i ∧ (at_ l.Edges i').Label = ch ∧ at_ c (at_ l.Edges i').From.toNat < 1099511627776) → (rowE l c ch i).2 = true)
  | 0, _ => ⟨fun n hn => ⟨fun q => by
      have e : at_ (rowE l c ch 0).1 n = 1099511627776 := at_rep hn
      omega, fun v ⟨i', h, _⟩ => absurd h (Nat.not_lt_zero _)⟩, fun ⟨i', h, _⟩ => absurd h (Nat.not_lt_zero _)⟩
  | i + 1, hi => by
    have ih := rowE_is hl hb hc ch i (by omega)
    have ok := rowE_ok hl hb hc ch i (by omega)
    have he := hl.2.2.1 i (by omega)
    have h1 := he.1
    have hup : ∀ n v, tcC l c ch i n v → tcC l c ch (i + 1) n v := fun n v ⟨i', a, q⟩ => ⟨i', by omega, q⟩
    unfold rowE
    split
    · rename_i q
      have hnew : tcC l c ch (i + 1) (at_ l.Edges i).To.toNat (at_ c (at_ l.Edges i).From.toNat + (at_ l.Edges i).Cost) := ⟨i, by omega, q.1, q.2, by omega, rfl⟩
      refine ⟨fun n hn => ?_, fun _ => rfl⟩
      by_cases e : n = (at_ l.Edges i).To.toNat
      · subst e
        dsimp only
        rw [at_set_same (by rw [ok.1]; exact hn)]
        have a := ih.1 _ hn
        constructor
        · intro hlt
          rcases Int.le_total (at_ (rowE l c ch i).1 (at_ l.Edges i).To.toNat) (at_ c (at_ l.Edges i).From.toNat + (at_ l.Edges i).Cost) with z | z
          · rw [Int.min_eq_left z] at hlt ⊢
            exact hup _ _ (a.1 hlt)
          · rw [Int.min_eq_right z]; exact hnew
        · rintro v ⟨i', h2, h3, h4, h5, h6⟩
          by_cases e2 : i' = i
          · subst e2; rw [h6]; exact Int.min_le_right _ _
          · exact Int.le_trans (Int.min_le_left _ _) (a.2 v ⟨i', by omega, h3, h4, h5, h6⟩)
      · dsimp only
        rw [at_set_oth e]
        have a := ih.1 _ hn
        refine ⟨fun hlt => hup _ _ (a.1 hlt), fun v ⟨i', h2, h3, h4, h5, h6⟩ => ?_⟩
        by_cases e2 : i' = i
        · subst e2; exact absurd h5 (by omega)
        · exact a.2 v ⟨i', by omega, h3, h4, h5, h6⟩
    · rename_i q
      refine ⟨fun n hn => ?_, fun ⟨i', h2, h3, h4⟩ => ?_⟩
      · have a := ih.1 _ hn
        refine ⟨fun hlt => hup _ _ (a.1 hlt), fun v ⟨i', h2, h3, h4, h5, h6⟩ => ?_⟩
        by_cases e2 : i' = i
        · subst e2; exact absurd ⟨h3, h4⟩ q
        · exact a.2 v ⟨i', by omega, h3, h4, h5, h6⟩
      · by_cases e2 : i' = i
        · subst e2; exact absurd ⟨h3, h4⟩ q
        · exact ih.2 ⟨i', by omega, h3, h4⟩
theorem pth_last {l : Lattice} (hl : okLat l) {w : ByteArray} {k n : Nat} (hk : k < w.size) (hn : n < l.Nodes.toNat) {c : Int} (h : pth l n ⟨w.extract 0 (k + 1), c⟩) : ∃ e ∈ l.Edges, e.To = (n : Int) ∧ e.Label = chA w k ∧ ∃ c', pth l e.From.toNat ⟨w.extract 0 k, c'⟩ ∧ c = c' + e.Cost := by
  rcases (pth_iff hl hn _).1 h with ⟨_, q⟩ | ⟨e, he, a, r, hr, q⟩
  · have := congrArg (fun r : Reading => r.Text.size) q
    simp only [ext_sz w (show k + 1 ≤ w.size by omega)] at this
    exact absurd this (by show ¬ (k + 1 = 0); omega)
  · have t := congrArg Reading.Text q
    have c2 := congrArg Reading.Cost q
    replace t : w.extract 0 (k + 1) = r.Text ++ e.Label := t
    replace c2 : c = r.Cost + e.Cost := c2
    rw [ext_step w hk] at t
    have z := app_inj t (by rw [chA_sz w hk, lab_size (ed_ok hl he).2.2])
    refine ⟨e, he, a, z.2.symm, r.Cost, ?_, c2⟩
    rw [z.1]; exact hr
theorem tcRow_is {l : Lattice} (hl : okLat l) (w : ByteArray) : ∀ k : Nat, k ≤ w.size → ∀ n : Nat, n < l.Nodes.toNat → (at_ (tcRow l w k) n < 1099511627776 → pth l n ⟨w.extract 0 k, at_ (tcRow l w k) n⟩) ∧ ∀ c, pth l n ⟨w.extract 0 k, c⟩ → at_ (tcRow l w k) n ≤ c
  | 0, _, n, hn => by
    rw [ext_zero]
    show (at_ ((List.replicate l.Nodes.toNat (1099511627776 : Int)).set 0 0) n < _ → pth l n ⟨⟨#[]⟩, at_ ((List.replicate l.Nodes.toNat (1099511627776 : Int)).set 0 0) n⟩) ∧ ∀ c, _ → at_ ((List.replicate l.Nodes.toNat (1099511627776 : Int)).set 0 0) n ≤ c
    by_cases e : n = 0
    · subst e
      rw [at_set_same (by rw [List.length_replicate]; exact hn)]
      exact ⟨fun _ => (pth_iff hl hn _).2 (.inl ⟨rfl, rfl⟩), fun c hc => (pth_bd hl 0 0 (Nat.le_refl _) hn _ hc).2.1⟩
    · rw [at_set_oth e, at_rep hn]
      refine ⟨fun q => absurd q (by omega), fun c hc => ?_⟩
      rcases (pth_iff hl hn _).1 hc with ⟨q, _⟩ | ⟨e2, he, a, r, hr, q⟩
      · exact absurd q e
      · have t := congrArg (fun r : Reading => r.Text.size) q
        replace t : (⟨#[]⟩ : ByteArray).size = (r.Text ++ e2.Label).size := t
        rw [ByteArray.size_append, lab_size (ed_ok hl he).2.2] at t
        exact absurd t (by show ¬ (0 = _); omega)
  | k + 1, hk, n, hn => by
    have ih := tcRow_is hl w k (by omega)
    have rk := tcRow_ok hl w k
    have R := (rowE_is hl (by omega) rk (chA w k) l.Edges.length (Nat.le_refl _)).1 n hn
    show (at_ (rowE l (tcRow l w k) (chA w k) l.Edges.length).1 n < _ → _) ∧ ∀ c, _ → at_ (rowE l (tcRow l w k) (chA w k) l.Edges.length).1 n ≤ c
    constructor
    · intro hlt
      obtain ⟨i', h1, h2, h3, h4, h5⟩ := R.1 hlt
      have b := (hl.2.2.1 i' h1).1
      have p := (ih (at_ l.Edges i').From.toNat (by omega)).1 h3
      show pth l n ⟨w.extract 0 (k + 1), at_ (rowE l (tcRow l w k) (chA w k) l.Edges.length).1 n⟩
      rw [h5, ext_step w (by omega)]
      exact (pth_iff hl hn _).2 (.inr ⟨at_ l.Edges i', at_mem h1, h4, _, p, by rw [← h2]; rfl⟩)
    · intro c hc
      obtain ⟨e, he, h1, h2, c', h3, h4⟩ := pth_last hl (show k < w.size by omega) hn hc
      obtain ⟨i', hi, q⟩ := List.getElem_of_mem he
      rw [← at_eq hi] at q
      subst q
      have b := (hl.2.2.1 i' hi).1
      have p := (ih (at_ l.Edges i').From.toNat (by omega)).2 c' h3
      have bd := pth_bd hl _ _ (Nat.le_refl _) (by omega) _ h3
      have sz := ext_sz w (show k ≤ w.size by omega)
      have hN := hl.1
      have h5 := bd.1
      have h6 := bd.2.2
      replace h5 : (w.extract 0 k).size ≤ (at_ l.Edges i').From.toNat := h5
      replace h6 : c' ≤ 1000000 * (((w.extract 0 k).size : Nat) : Int) := h6
      have := R.2 _ ⟨i', hi, h2, by omega, h1, rfl⟩
      omega
theorem pth_pre {l : Lattice} (hl : okLat l) {w : ByteArray} : ∀ (d k n : Nat) (c : Int), k + d ≤ w.size → n < l.Nodes.toNat → pth l n ⟨w.extract 0 (k + d), c⟩ → ∃ n' c', n' < l.Nodes.toNat ∧ pth l n' ⟨w.extract 0 k, c'⟩
  | 0, k, n, c, _, hn, h => ⟨n, c, hn, h⟩
  | d + 1, k, n, c, hk, hn, h => by
    obtain ⟨e, he, h1, h2, c', h3, h4⟩ := pth_last hl (k := k + d) (by omega) hn h
    have b := (ed_ok hl he).1
    exact pth_pre hl d k _ c' (by omega) (by omega) h3
theorem tcF_min {l : Lattice} (hl : okLat l) {w : ByteArray} {c : Int} (h : pth l (l.Nodes - 1).toNat ⟨w, c⟩) : tcF l w ≤ c := by
  have hN := hl.1
  have hn : (l.Nodes - 1).toNat < l.Nodes.toNat := by omega
  have ha : anyN w.size (fun k => !(tcA l w k)) = false := anyN_none fun k hk => by
    rw [← ext_full w, show w.size = (k + 1) + (w.size - (k + 1)) from by omega] at h
    obtain ⟨n', c', h1, h2⟩ := pth_pre hl _ _ _ _ (by omega) hn h
    obtain ⟨e, he, h3, h4, c2, h5, h6⟩ := pth_last hl hk h1 h2
    obtain ⟨i', hi, q⟩ := List.getElem_of_mem he
    rw [← at_eq hi] at q
    subst q
    have b := (hl.2.2.1 i' hi).1
    have p := (tcRow_is hl w k (by omega) (at_ l.Edges i').From.toNat (by omega)).2 c2 h5
    have bd := pth_bd hl _ _ (Nat.le_refl _) (by omega) _ h5
    have sz := ext_sz w (show k ≤ w.size by omega)
    have h7 := bd.1
    have h8 := bd.2.2
    replace h7 : (w.extract 0 k).size ≤ (at_ l.Edges i').From.toNat := h7
    replace h8 : c2 ≤ 1000000 * (((w.extract 0 k).size : Nat) : Int) := h8
    have : tcA l w k = true := (rowE_is hl (by omega) (tcRow_ok hl w k) (chA w k) l.Edges.length (Nat.le_refl _)).2 ⟨i', hi, h4, by omega⟩
    rw [this]; rfl
  unfold tcF
  rw [if_neg (by rw [ha]; decide)]
  refine (tcRow_is hl w w.size (Nat.le_refl _) _ hn).2 c ?_
  rw [ext_full]; exact h
theorem tcF_has {l : Lattice} (hl : okLat l) {w : ByteArray} (h : tcF l w < 1099511627776) : pth l (l.Nodes - 1).toNat ⟨w, tcF l w⟩ := by
  have hN := hl.1
  have e : tcF l w = if (anyN w.size fun k => !(tcA l w k)) = true then 1099511627776 else at_ (tcRow l w w.size) (l.Nodes - 1).toNat := rfl
  by_cases ha : (anyN w.size fun k => !(tcA l w k)) = true
  · rw [if_pos ha] at e; omega
  · rw [if_neg ha] at e
    have := (tcRow_is hl w w.size (Nat.le_refl _) (l.Nodes - 1).toNat (by omega)).1 (by omega)
    rw [ext_full, ← e] at this
    exact this

def bestL (k : Nat) (l : Lattice) : List Reading := at_ (tbN (frL k) pAny l (tb0 l) l.Nodes.toNat) (l.Nodes - 1).toNat
def endP (l : Lattice) (x : Reading) : Prop := pth l (l.Nodes - 1).toNat x

def othR (t : ByteArray) (xs : List Reading) (i : Nat) : List Reading := (xs.take i).filter fun x => !decide (x.Text = t)
def frA (k n : Nat) (T : List (List Reading)) : List (List Reading) := (List.range T.length).map fun j => if j ≤ n then at_ T j else frL k (at_ T j)

def clT (w : ByteArray) (T : List Int) (j m : Int) : Int := at_ T (j * ((w.size : Int) + 1) + m).toNat
theorem clT_ix {l : Lattice} {w : ByteArray} {j m : Int} (hj : 0 ≤ j ∧ j < l.Nodes) (hm : 0 ≤ m ∧ m ≤ w.size) : 0 ≤ j * ((w.size : Int) + 1) + m ∧ j * ((w.size : Int) + 1) + m < l.Nodes * ((w.size : Int) + 1) := by
  have a := Int.mul_nonneg hj.1 (show (0 : Int) ≤ (w.size : Int) + 1 by omega)
  have b := Int.mul_le_mul_of_nonneg_right (show j + 1 ≤ l.Nodes by omega) (show (0 : Int) ≤ (w.size : Int) + 1 by omega)
  rw [Int.add_mul, Int.one_mul] at b
  omega
theorem clT_inj {n a b c d : Int} (hb : 0 ≤ b ∧ b < n) (hd : 0 ≤ d ∧ d < n) (h : a * n + b = c * n + d) : a = c ∧ b = d := by
  rcases Int.lt_trichotomy a c with q | q | q
  · have := Int.mul_le_mul_of_nonneg_right (show a + 1 ≤ c by omega) (show 0 ≤ n by omega)
    rw [Int.add_mul, Int.one_mul] at this
    omega
  · subst q; omega
  · have := Int.mul_le_mul_of_nonneg_right (show c + 1 ≤ a by omega) (show 0 ≤ n by omega)
    rw [Int.add_mul, Int.one_mul] at this
    omega
theorem clT_set {l : Lattice} {w : ByteArray} {T : List Int} (hT : (T.length : Int) = l.Nodes * ((w.size : Int) + 1)) {j m a b : Int} (hj : 0 ≤ j ∧ j < l.Nodes) (hm : 0 ≤ m ∧ m ≤ w.size) (ha : 0 ≤ a ∧ a < l.Nodes) (hb : 0 ≤ b ∧ b ≤ w.size) (v : Int) : clT w (T.set (a * ((w.size : Int) + 1) + b).toNat v) j m = if j = a ∧ m = b then v else clT w T j m := by
  have i1 := clT_ix hj hm
  have i2 := clT_ix ha hb
  unfold clT
  by_cases q : j = a ∧ m = b
  · rw [if_pos q, q.1, q.2, at_set_same (by omega)]
  · rw [if_neg q, at_set_oth]
    intro e
    have := clT_inj (n := (w.size : Int) + 1) (a := j) (b := m) (c := a) (d := b) (by omega) (by omega) (by omega)
    exact q this
def scCov (l : Lattice) (w : ByteArray) (T : List Int) (i' : Nat) (m : Int) : Prop := 0 ≤ clT w T (at_ l.Edges i').From m → (at_ l.Edges i').Label = chA w m.toNat → 0 ≤ clT w T (at_ l.Edges i').To (m + 1) ∧ clT w T (at_ l.Edges i').To (m + 1) ≤ clT w T (at_ l.Edges i').From m + (at_ l.Edges i').Cost
def scI (l : Lattice) (w : ByteArray) (nd i k : Int) (T : List Int) : Prop := (T.length : Int) = l.Nodes * ((w.size : Int) + 1) ∧ clT w T 0 0 = 0 ∧ (∀ j m : Int, 0 ≤ j → j < l.Nodes → 0 ≤ m → m ≤ w.size → clT w T j m = -1 ∨ (0 ≤ clT w T j m ∧ pth l j.toNat ⟨w.extract 0 m.toNat, clT w T j m⟩)) ∧ ∀ (i' : Nat) (m : Int), i' < l.Edges.length → 0 ≤ m → m < w.size → ((at_ l.Edges i').From < nd ∨ ((at_ l.Edges i').From = nd ∧ ((i' : Int) < i ∨ ((i' : Int) = i ∧ m < k)))) → scCov l w T i' m
theorem sc_start {l : Lattice} (hl : okLat l) {w : ByteArray} {T : List Int} (hT : (T.length : Int) = l.Nodes * ((w.size : Int) + 1)) (h : ∀ j : Nat, j < T.length → at_ T j = -1) : scI l w 0 0 0 (T.set 0 0) := by
  have hN := hl.1
  have e0 : T.set 0 (0 : Int) = T.set ((0 : Int) * ((w.size : Int) + 1) + 0).toNat 0 := by simp
  have hc : ∀ j m : Int, 0 ≤ j → j < l.Nodes → 0 ≤ m → m ≤ w.size → clT w (T.set 0 0) j m = if j = 0 ∧ m = 0 then 0 else -1 := fun j m h1 h2 h3 h4 => by
    rw [e0, clT_set hT ⟨h1, h2⟩ ⟨h3, h4⟩ (by omega) (by omega)]
    split
    · rfl
    · have := clT_ix (l := l) (w := w) ⟨h1, h2⟩ ⟨h3, h4⟩
      exact h _ (by omega)
  refine ⟨by rw [List.length_set]; exact hT, by rw [hc 0 0 (by omega) (by omega) (by omega) (by omega)]; rfl, fun j m h1 h2 h3 h4 => ?_, fun i' m hi h1 h2 h3 => ?_⟩
  · rw [hc j m h1 h2 h3 h4]
    by_cases q : j = 0 ∧ m = 0
    · rw [if_pos q]; right
      refine ⟨Int.le_refl _, ?_⟩
      rw [q.1, q.2]
      show pth l 0 ⟨w.extract 0 0, 0⟩
      rw [ext_zero]
      exact (pth_iff hl (by omega) _).2 (.inl ⟨rfl, rfl⟩)
    · rw [if_neg q]; exact .inl rfl
  · have := (hl.2.2.1 i' hi).1
    rcases h3 with h3 | ⟨h3, h4 | h4⟩ <;> omega
theorem sc_skip {l : Lattice} {w : ByteArray} {nd i k : Int} {T : List Int} (h : scI l w nd i k T) (hc : scCov l w T i.toNat k) : scI l w nd i (k + 1) T :=
  ⟨h.1, h.2.1, h.2.2.1, fun i' m hi h1 h2 h3 => by
    rcases h3 with h3 | ⟨h3, h4 | ⟨h4, h5⟩⟩
    · exact h.2.2.2 i' m hi h1 h2 (.inl h3)
    · exact h.2.2.2 i' m hi h1 h2 (.inr ⟨h3, .inl h4⟩)
    · by_cases e : m = k
      · subst e; have : i' = i.toNat := by omega
        subst this; exact hc
      · exact h.2.2.2 i' m hi h1 h2 (.inr ⟨h3, .inr ⟨h4, by omega⟩⟩)⟩
theorem sc_put {l : Lattice} (hl : okLat l) {w : ByteArray} {nd i k : Int} {T : List Int} (h : scI l w nd i k T) (hi0 : 0 ≤ i) (hi : i.toNat < l.Edges.length) (hk : 0 ≤ k ∧ k < w.size) (hf : (at_ l.Edges i.toNat).From = nd) (hc : 0 ≤ clT w T nd k) (hlb : (at_ l.Edges i.toNat).Label = chA w k.toNat)
    (ho : clT w T (at_ l.Edges i.toNat).To (k + 1) < 0 ∨ clT w T nd k + (at_ l.Edges i.toNat).Cost < clT w T (at_ l.Edges i.toNat).To (k + 1)) : scI l w nd i (k + 1) (T.set ((at_ l.Edges i.toNat).To * ((w.size : Int) + 1) + (k + 1)).toNat (clT w T nd k + (at_ l.Edges i.toNat).Cost)) := by
  have he := hl.2.2.1 i.toNat hi
  have b := he.1
  have hcost := he.2.1
  have hS := fun (j m : Int) (h1 : 0 ≤ j) (h2 : j < l.Nodes) (h3 : 0 ≤ m) (h4 : m ≤ w.size) => clT_set (w := w) h.1 (j := j) (m := m) ⟨h1, h2⟩ ⟨h3, h4⟩ (a := (at_ l.Edges i.toNat).To) (b := k + 1) ⟨by omega, by omega⟩ ⟨by omega, by omega⟩ (clT w T nd k + (at_ l.Edges i.toNat).Cost)
  refine ⟨by rw [List.length_set]; exact h.1, by rw [hS 0 0 (by omega) (by omega) (by omega) (by omega), if_neg (by omega)]; exact h.2.1, fun j m h1 h2 h3 h4 => ?_, fun i' m hi' h1 h2 h3 => ?_⟩
  · rw [hS j m h1 h2 h3 h4]
    by_cases q : j = (at_ l.Edges i.toNat).To ∧ m = k + 1
    · rw [if_pos q]
      right
      refine ⟨by omega, ?_⟩
      rcases h.2.2.1 nd k (by omega) (by omega) hk.1 (by omega) with z | z
      · omega
      · rw [q.1, q.2, show (k + 1).toNat = k.toNat + 1 from by omega, ext_step w (by omega)]
        exact (pth_iff hl (by omega) _).2 (.inr ⟨_, at_mem hi, by omega, ⟨w.extract 0 k.toNat, clT w T nd k⟩, by rw [hf]; exact z.2, by unfold rdr; rw [hlb]⟩)
    · rw [if_neg q]; exact h.2.2.1 j m h1 h2 h3 h4
  · have b' := (hl.2.2.1 i' hi').1
    intro g1 g2
    rw [hS (at_ l.Edges i').From m (by omega) (by omega) h1 (by omega), if_neg (by rcases h3 with h3 | h3 <;> omega)] at g1 ⊢
    rw [hS (at_ l.Edges i').To (m + 1) (by omega) (by omega) (by omega) (by omega)]
    by_cases e : i' = i.toNat ∧ m = k
    · obtain ⟨e1, e2⟩ := e
      subst e1; subst e2
      rw [if_pos ⟨rfl, rfl⟩, hf]
      rw [hf] at g1
      exact ⟨by omega, Int.le_refl _⟩
    · have old := h.2.2.2 i' m hi' h1 h2 (by
        rcases h3 with h3 | ⟨h3, h4 | ⟨h4, h5⟩⟩
        · exact .inl h3
        · exact .inr ⟨h3, .inl h4⟩
        · refine .inr ⟨h3, .inr ⟨h4, ?_⟩⟩
          have : i' = i.toNat := by omega
          have : m ≠ k := fun z => e ⟨this, z⟩
          omega) g1 g2
      split
      · rename_i q
        rw [q.1, q.2] at old
        refine ⟨by omega, ?_⟩
        rcases ho with ho | ho <;> omega
      · exact old
theorem sc_edge {l : Lattice} {w : ByteArray} {nd i k : Int} {T : List Int} (h : scI l w nd i k T) (hi : 0 ≤ i) (hk : (w.size : Int) ≤ k ∨ (at_ l.Edges i.toNat).From ≠ nd) : scI l w nd (i + 1) 0 T :=
  ⟨h.1, h.2.1, h.2.2.1, fun i' m hi' h1 h2 h3 => by
    refine h.2.2.2 i' m hi' h1 h2 ?_
    rcases h3 with h3 | ⟨h3, h4 | ⟨h4, h5⟩⟩
    · exact .inl h3
    · by_cases e : (i' : Int) = i
      · rcases hk with hk | hk
        · exact .inr ⟨h3, .inr ⟨e, by omega⟩⟩
        · have : i' = i.toNat := by omega
          subst this; exact absurd h3 hk
      · exact .inr ⟨h3, .inl (by omega)⟩
    · omega⟩
theorem sc_node {l : Lattice} {w : ByteArray} {nd i : Int} {T : List Int} (h : scI l w nd i 0 T) (hi : (l.Edges.length : Int) ≤ i) : scI l w (nd + 1) 0 0 T :=
  ⟨h.1, h.2.1, h.2.2.1, fun i' m hi' h1 h2 h3 => by
    refine h.2.2.2 i' m hi' h1 h2 ?_
    rcases h3 with h3 | ⟨h3, h4 | ⟨h4, h5⟩⟩
    · by_cases e : (at_ l.Edges i').From = nd
      · exact .inr ⟨e, .inl (by omega)⟩
      · exact .inl (by omega)
    · omega
    · omega⟩
theorem sc_end {l : Lattice} (hl : okLat l) {w : ByteArray} {nd : Int} {T : List Int} (hnd : l.Nodes ≤ nd) (h : scI l w nd 0 0 T) : (clT w T (l.Nodes - 1) w.size = -1 ∧ ¬ tcF l w < 1099511627776) ∨ (0 ≤ clT w T (l.Nodes - 1) w.size ∧ clT w T (l.Nodes - 1) w.size = tcF l w ∧ tcF l w < 1099511627776) := by
  have hN := hl.1
  have key : ∀ m : Nat, m ≤ w.size → ∀ j : Nat, j < l.Nodes.toNat → ∀ c, pth l j ⟨w.extract 0 m, c⟩ → 0 ≤ clT w T j m ∧ clT w T j m ≤ c := fun m => by
    induction m with
    | zero =>
      intro _ j hj c hc
      rcases (pth_iff hl hj _).1 hc with ⟨q1, q2⟩ | ⟨e2, he, a, r, hr, q⟩
      · subst q1
        have := congrArg Reading.Cost q2
        replace this : c = 0 := this
        have z : clT w T ((0 : Nat) : Int) ((0 : Nat) : Int) = 0 := h.2.1
        rw [z]; omega
      · have t := congrArg (fun r : Reading => r.Text.size) q
        replace t : (w.extract 0 0).size = (r.Text ++ e2.Label).size := t
        rw [ByteArray.size_append, lab_size (ed_ok hl he).2.2, ext_zero] at t
        exact absurd t (by show ¬ (0 = _); omega)
    | succ m ih =>
      intro hm j hj c hc
      obtain ⟨e, he, h1, h2, c', h3, h4⟩ := pth_last hl (show m < w.size by omega) hj hc
      obtain ⟨i', hi, q⟩ := List.getElem_of_mem he
      rw [← at_eq hi] at q
      subst q
      have b := (hl.2.2.1 i' hi).1
      have a := ih (by omega) (at_ l.Edges i').From.toNat (by omega) c' h3
      rw [show (((at_ l.Edges i').From.toNat : Nat) : Int) = (at_ l.Edges i').From from by omega] at a
      have := h.2.2.2 i' m hi (by omega) (by omega) (.inl (by omega)) a.1 h2
      rw [h1, show ((m : Nat) : Int) + 1 = ((m + 1 : Nat) : Int) from by omega] at this
      omega
  have e1 : (((l.Nodes - 1).toNat : Nat) : Int) = l.Nodes - 1 := by omega
  have hv := h.2.2.1 (l.Nodes - 1) w.size (by omega) (by omega) (by omega) (by omega)
  have hk := key w.size (Nat.le_refl _) (l.Nodes - 1).toNat (by omega)
  rw [e1, ext_full] at hk
  rw [show ((w.size : Int)).toNat = w.size from by omega, ext_full] at hv
  by_cases q : tcF l w < 1099511627776
  · right
    have a := hk _ (tcF_has hl q)
    rcases hv with z | z
    · omega
    · have := tcF_min hl z.2
      exact ⟨a.1, by omega, q⟩
  · left
    rcases hv with z | z
    · exact ⟨z, q⟩
    · have a := tcF_min hl z.2
      have bd := pth_bd hl _ _ (Nat.le_refl _) (by omega) _ z.2
      have b1 := bd.1
      have b2 := bd.2.2
      replace b1 : w.size ≤ (l.Nodes - 1).toNat := b1
      replace b2 : clT w T (l.Nodes - 1) w.size ≤ 1000000 * ((w.size : Nat) : Int) := b2
      omega
theorem tcF_long {l : Lattice} (hl : okLat l) {w : ByteArray} (h : 20 < w.size) : ¬ tcF l w < 1099511627776 := fun q => by
  have hN := hl.1
  have bd := (pth_bd hl _ _ (Nat.le_refl _) (by omega) _ (tcF_has hl q)).1
  replace bd : w.size ≤ (l.Nodes - 1).toNat := bd
  omega

theorem sc_bd {l : Lattice} (hl : okLat l) {w : ByteArray} {j m v : Int} (hj : 0 ≤ j ∧ j < l.Nodes) (h : v = -1 ∨ (0 ≤ v ∧ pth l j.toNat ⟨w.extract 0 m.toNat, v⟩)) : -1 ≤ v ∧ v ≤ 20000000 := by
  rcases h with q | q
  · omega
  · have hN := hl.1
    have b := pth_bd hl _ _ (Nat.le_refl _) (by omega) _ q.2
    have b1 := b.1
    have b2 := b.2.2
    replace b1 : (w.extract 0 m.toNat).size ≤ j.toNat := b1
    replace b2 : v ≤ 1000000 * (((w.extract 0 m.toNat).size : Nat) : Int) := b2
    omega
theorem sc_no {l : Lattice} {w : ByteArray} {T : List Int} {i : Nat} {k : Int} {nd : Int} (hf : (at_ l.Edges i).From = nd) (h : clT w T nd k < 0 ∨ ¬ w.extract k.toNat (k + 1).toNat = (at_ l.Edges i).Label ∨ (0 ≤ clT w T (at_ l.Edges i).To (k + 1) ∧ clT w T (at_ l.Edges i).To (k + 1) ≤ clT w T nd k + (at_ l.Edges i).Cost)) (hk : 0 ≤ k) : scCov l w T i k := fun h1 h2 => by
  rw [hf] at h1 ⊢
  rcases h with h | h | h
  · omega
  · exact absurd (by rw [h2]; unfold chA; rw [show (k + 1).toNat = k.toNat + 1 from by omega]) h
  · exact h


def sfxK (l : Lattice) : Nat → Nat → Int → Prop
  | 0, j, s => j = (l.Nodes - 1).toNat ∧ s = 0
  | k + 1, j, s => ∃ e ∈ l.Edges, e.From = (j : Int) ∧ ∃ s', sfxK l k e.To.toNat s' ∧ s = e.Cost + s'
def fvI (l : Lattice) : Nat → List Int
  | 0 => (List.replicate l.Nodes.toNat 1099511627776).set 0 0
  | i + 1 => (fvI l i).set (at_ l.Edges i).To.toNat (min (at_ (fvI l i) (at_ l.Edges i).To.toNat) (at_ (fvI l i) (at_ l.Edges i).From.toNat + (at_ l.Edges i).Cost))
def tvI (l : Lattice) : Nat → List Int
  | 0 => (List.replicate l.Nodes.toNat 1099511627776).set (l.Nodes - 1).toNat 0
  | m + 1 => (tvI l m).set (at_ l.Edges (l.Edges.length - 1 - m)).From.toNat (min (at_ (tvI l m) (at_ l.Edges (l.Edges.length - 1 - m)).From.toNat) (at_ (tvI l m) (at_ l.Edges (l.Edges.length - 1 - m)).To.toNat + (at_ l.Edges (l.Edges.length - 1 - m)).Cost))
def fvL (l : Lattice) : List Int := fvI l l.Edges.length
def tvL (l : Lattice) : List Int := tvI l l.Edges.length
def keepE (l : Lattice) (b : Int) (e : Edge) : Bool := decide (at_ (fvL l) e.From.toNat + e.Cost + at_ (tvL l) e.To.toNat ≤ b)
def prL (l : Lattice) (b : Int) (i : Nat) : List Edge := (l.Edges.take i).filter (keepE l b)
def prT (l : Lattice) (b : Int) : Lattice := ⟨l.Nodes, prL l b l.Edges.length⟩

def shE (d : Int) (e : Edge) : Edge := ⟨e.From + d, e.To + d, e.Label, e.Cost⟩
def joinT (l m : Lattice) : Lattice := ⟨l.Nodes - 1 + m.Nodes, l.Edges ++ m.Edges.map (shE (l.Nodes - 1))⟩
def catR (a b : Reading) : Reading := ⟨a.Text ++ b.Text, a.Cost + b.Cost⟩

theorem cmpR_neg {a b : Reading} : cmpR a b < 0 ↔ a.Cost < b.Cost ∨ (a.Cost = b.Cost ∧ ((a.Text.size : Int) < (b.Text.size : Int) ∨ ((a.Text.size : Int) = (b.Text.size : Int) ∧ sless a.Text b.Text = true))) := by
  rw [cmpR_eq]
  by_cases h1 : cmpI a.Cost b.Cost = 0
  · rw [if_pos h1]; rw [cmpI_zero] at h1
    by_cases h2 : cmpI (a.Text.size : Int) (b.Text.size : Int) = 0
    · rw [if_pos h2, cmpS_neg]; rw [cmpI_zero] at h2
      exact ⟨fun q => .inr ⟨h1, .inr ⟨h2, q⟩⟩, fun q => by
        rcases q with q | ⟨_, q | q⟩
        · omega
        · omega
        · exact q.2⟩
    · rw [if_neg h2, cmpI_neg]; rw [cmpI_zero] at h2
      exact ⟨fun q => .inr ⟨h1, .inl q⟩, fun q => by
        rcases q with q | ⟨_, q | q⟩
        · omega
        · exact q
        · exact absurd q.1 h2⟩
  · rw [if_neg h1, cmpI_neg]; rw [cmpI_zero] at h1
    exact ⟨.inl, fun q => q.elim id fun z => absurd z.1 h1⟩

theorem bs_lo {α : Type} [Inhabited α] {d : α → α → Int} (hw : CmpW d) {xs : List α} {e : α} (hp : xs.Pairwise fun x y => d x y < 0) {k h : Nat} (hk : k < h) (hh : h < xs.length) (hc : d (at_ xs h) e < 0) : d (at_ xs k) e < 0 :=
  hw.trans _ _ _ (by have := pw_get hp hk hh; omega) hc
theorem bs_hi {α : Type} [Inhabited α] {d : α → α → Int} (hw : CmpW d) {xs : List α} {e : α} (hp : xs.Pairwise fun x y => d x y < 0) {k h : Nat} (hk : k < h) (hh : h < xs.length) (hc : ¬ d (at_ xs k) e < 0) : ¬ d (at_ xs h) e < 0 := fun q => hc (bs_lo hw hp hk hh q)
theorem bs_no {α : Type} [Inhabited α] {d : α → α → Int} (hw : CmpW d) {xs : List α} {e : α} (hp : xs.Pairwise fun x y => d x y < 0) {a : Nat} (h1 : ∀ k : Nat, k < a → d (at_ xs k) e < 0) (h3 : ∀ k : Nat, a ≤ k → k < xs.length → ¬ d (at_ xs k) e < 0) (h2 : ¬ (a < xs.length ∧ d (at_ xs a) e = 0)) : ∀ j : Nat, j < xs.length → d (at_ xs j) e ≠ 0 := fun j hj q => by
  by_cases c1 : j < a
  · have := h1 j c1; omega
  · by_cases c2 : j = a
    · subst c2; exact h2 ⟨hj, q⟩
    · have n1 := h3 a (Nat.le_refl _) (by omega)
      have n2 : d (at_ xs a) e ≠ 0 := fun z => h2 ⟨by omega, z⟩
      have p := pw_get hp (show a < j by omega) hj
      have a1 := hw.anti e (at_ xs a)
      have a2 := hw.anti e (at_ xs j)
      have := hw.trans e (at_ xs a) (at_ xs j) (by omega) p
      omega


def pcM (m : Model) (a b : ByteArray) : Int := match m.Bigrams.find? (fun g => decide (g.First = a ∧ g.Second = b)) with
  | some g => g.Cost
  | none => m.Default
theorem find_at {α : Type} [Inhabited α] {xs : List α} {p : α → Bool} {k : Nat} (hk : k < xs.length) (h : p (at_ xs k) = true) (hn : ∀ j : Nat, j < k → ¬ p (at_ xs j) = true) : xs.find? p = some (at_ xs k) := by
  rw [at_eq hk] at *
  rw [List.find?_eq_some_iff_getElem]
  refine ⟨h, k, hk, rfl, fun j hj => ?_⟩
  have := hn j hj
  rw [at_eq (by omega)] at this
  simpa using this

def wcM (m : Model) (l : ByteArray) : List ByteArray → Int
  | [] => 0
  | w :: r => pcM m l w + wcM m w r
def lastW (l : ByteArray) (ws : List ByteArray) (k : Nat) : ByteArray := if k = 0 then l else at_ ws (k - 1)
def wcK (m : Model) (l : ByteArray) (ws : List ByteArray) : Nat → Int
  | 0 => 0
  | k + 1 => wcK m l ws k + pcM m (lastW l ws k) (at_ ws k)

def bwI (m : Model) (l : ByteArray) (ws : List wordAt) : Nat → wordAt × Bool
  | 0 => (⟨⟨#[]⟩, 0⟩, false)
  | k + 1 => if (bwI m l ws k).2 = false ∨ pcM m l (at_ ws k).word + (at_ ws k).cost < (bwI m l ws k).1.cost then (⟨(at_ ws k).word, pcM m l (at_ ws k).word + (at_ ws k).cost⟩, true) else bwI m l ws k

def entF (lx : Lexicon) (w : ByteArray) : Option Entry := lx.Entries.find? fun e => decide (e.Word = w)
def entC (lx : Lexicon) (w : ByteArray) : Int := match entF lx w with
  | some e => e.Cost
  | none => 0
def canW (lx : Lexicon) (l : Lattice) (w : ByteArray) : Prop := (∃ j : Nat, j < lx.Entries.length ∧ (at_ lx.Entries j).Word = w) ∧ tcF l w ≠ 1099511627776
theorem ent_hit {lx : Lexicon} {w : ByteArray} {k : Nat} (h : okLex lx) (hk : k < lx.Entries.length) (hw : (at_ lx.Entries k).Word = w) : entC lx w = (at_ lx.Entries k).Cost := by
  have e : entF lx w = some (at_ lx.Entries k) := find_at hk (decide_eq_true hw) fun j hj q => by
    have p := pw_get h.2.2 hj hk
    have z : cmpN (at_ lx.Entries j) (at_ lx.Entries k) = 0 := cmpS_zero.2 ((of_decide_eq_true q).trans hw.symm)
    omega
  unfold entC; rw [e]
theorem ent_bd {lx : Lexicon} (h : okLex lx) (w : ByteArray) : 0 ≤ entC lx w ∧ entC lx w ≤ 1000000 := by
  unfold entC
  split
  · rename_i e q
    exact (h.2.1 e (List.mem_of_find?_eq_some q)).2
  · omega
def scK (list : List Lattice) (lx : Lexicon) (ws : List ByteArray) : Nat → Int
  | 0 => 0
  | k + 1 => scK list lx ws k + (tcF (at_ list k) (at_ ws k) + entC lx (at_ ws k))
def scOK (list : List Lattice) (lx : Lexicon) (m : Model) (ws : List ByteArray) (v c : Int) : Prop :=
  (ws.length ≠ list.length ∧ v = 0 ∧ c = 2) ∨ (ws.length = list.length ∧ (∃ k : Nat, k < ws.length ∧ ¬ canW lx (at_ list k) (at_ ws k)) ∧ v = 0 ∧ c = 3) ∨ (ws.length = list.length ∧ (∀ k : Nat, k < ws.length → canW lx (at_ list k) (at_ ws k)) ∧ v = wcM m ⟨#[]⟩ ws + scK list lx ws ws.length ∧ c = 0)


def sumF (x : Found) : Int := IntKind.i64.wrap (x.Path + x.Own)
def cmpF (a b : Found) : Int := orL [cmpI (sumF a) (sumF b), cmpI (a.Word.size : Int) (b.Word.size : Int), cmpS a.Word b.Word]
theorem cmpF_eq (a b : Found) : cmpF a b = if cmpI (sumF a) (sumF b) = 0 then (if cmpI (a.Word.size : Int) (b.Word.size : Int) = 0 then cmpS a.Word b.Word else cmpI (a.Word.size : Int) (b.Word.size : Int)) else cmpI (sumF a) (sumF b) := by
  unfold cmpF orL orL orL orL
  by_cases h1 : cmpI (sumF a) (sumF b) = 0
  · rw [if_pos h1, if_pos h1]
    by_cases h2 : cmpI (a.Word.size : Int) (b.Word.size : Int) = 0
    · rw [if_pos h2, if_pos h2]; split
      · rename_i h3; exact h3.symm
      · rfl
    · rw [if_neg h2, if_neg h2]
  · rw [if_neg h1, if_neg h1]
theorem cmpF_w : CmpW cmpF := by
  have h : cmpF = fun x y => if cmpI (sumF x) (sumF y) = 0 then (fun x y : Found => if cmpI (x.Word.size : Int) (y.Word.size : Int) = 0 then (fun x y : Found => cmpS x.Word y.Word) x y else cmpI (x.Word.size : Int) (y.Word.size : Int)) x y else cmpI (sumF x) (sumF y) := funext fun a => funext fun b => cmpF_eq a b
  rw [h]
  exact CmpW.lex (f := sumF) cmpI_w (CmpW.lex (f := fun x : Found => (x.Word.size : Int)) cmpI_w (cmpS_w.map Found.Word))
theorem cmpF_sum {a b : Found} (h : ¬ cmpF b a < 0) : sumF a ≤ sumF b := by
  rw [cmpF_eq] at h
  by_cases h1 : cmpI (sumF b) (sumF a) = 0
  · rw [cmpI_zero] at h1; omega
  · rw [if_neg h1, cmpI_neg] at h; omega
def okFd (l : Lattice) (lx : Lexicon) (f : Found) : Prop := (∃ e ∈ lx.Entries, e.Word = f.Word ∧ e.Cost = f.Own) ∧ tcF l f.Word < 1099511627776 ∧ tcF l f.Word ≤ f.Path ∧ (0 ≤ f.Path ∧ f.Path ≤ 20000000) ∧ (0 ≤ f.Own ∧ f.Own ≤ 1000000)
theorem sum_is {l : Lattice} {lx : Lexicon} {f : Found} (h : okFd l lx f) : sumF f = f.Path + f.Own := by
  have a := h.2.2.2.1
  have b := h.2.2.2.2
  unfold sumF
  exact wrap_in (inR_i64 (by omega) (by omega))
def rdI (l : Lattice) (lx : Lexicon) : Nat → List Found
  | 0 => []
  | i + 1 => if tcF l (at_ lx.Entries i).Word < 1099511627776 then rdI l lx i ++ [⟨(at_ lx.Entries i).Word, tcF l (at_ lx.Entries i).Word, (at_ lx.Entries i).Cost⟩] else rdI l lx i
theorem rdI_len (l : Lattice) (lx : Lexicon) : ∀ i, (rdI l lx i).length ≤ i
  | 0 => Nat.le_refl _
  | i + 1 => by
    have := rdI_len l lx i
    unfold rdI
    split
    · rw [List.length_append]; simp; omega
    · omega
theorem rdI_mem {l : Lattice} {lx : Lexicon} {f : Found} : ∀ i, i ≤ lx.Entries.length → (f ∈ rdI l lx i ↔ ∃ j, j < i ∧ tcF l (at_ lx.Entries j).Word < 1099511627776 ∧ f = ⟨(at_ lx.Entries j).Word, tcF l (at_ lx.Entries j).Word, (at_ lx.Entries j).Cost⟩)
  | 0, _ => ⟨fun h => (by cases h), fun ⟨j, h, _⟩ => absurd h (Nat.not_lt_zero _)⟩
  | i + 1, hi => by
    have ih := rdI_mem (l := l) (lx := lx) (f := f) i (by omega)
    unfold rdI
    split
    · rename_i q
      rw [List.mem_append, ih, List.mem_singleton]
      constructor
      · rintro (⟨j, a, b⟩ | h)
        · exact ⟨j, by omega, b⟩
        · exact ⟨i, by omega, q, h⟩
      · rintro ⟨j, a, b, c⟩
        by_cases e : j = i
        · subst e; exact .inr c
        · exact .inl ⟨j, by omega, b, c⟩
    · rename_i q
      rw [ih]
      constructor
      · rintro ⟨j, a, b⟩; exact ⟨j, by omega, b⟩
      · rintro ⟨j, a, b, c⟩
        by_cases e : j = i
        · subst e; exact absurd b q
        · exact ⟨j, by omega, b, c⟩
def rdA (l : Lattice) (lx : Lexicon) : List Found := rdI l lx lx.Entries.length
theorem rdA_mem {l : Lattice} (hl : okLat l) {lx : Lexicon} (hx : okLex lx) {f : Found} : f ∈ rdA l lx ↔ ∃ e ∈ lx.Entries, tcF l e.Word < 1099511627776 ∧ f = ⟨e.Word, tcF l e.Word, e.Cost⟩ := by
  unfold rdA
  rw [rdI_mem _ (Nat.le_refl _)]
  constructor
  · rintro ⟨j, a, b, c⟩; exact ⟨_, at_mem a, b, c⟩
  · rintro ⟨e, he, b, c⟩
    obtain ⟨j, hj, q⟩ := List.getElem_of_mem he
    rw [← at_eq hj] at q
    subst q
    exact ⟨j, hj, b, c⟩
theorem rdA_ok {l : Lattice} (hl : okLat l) {lx : Lexicon} (hx : okLex lx) {f : Found} (h : f ∈ rdA l lx) : okFd l lx f ∧ f.Path = tcF l f.Word := by
  obtain ⟨e, he, a, rfl⟩ := (rdA_mem hl hx).1 h
  have b := (hx.2.1 e he).2
  have c := tcF_bd hl e.Word
  have d := pth_bd hl _ _ (Nat.le_refl _) (by have := hl.1; omega) _ (tcF_has hl a)
  have hN := hl.1
  have d1 := d.1
  have d2 := d.2.2
  replace d1 : e.Word.size ≤ (l.Nodes - 1).toNat := d1
  replace d2 : tcF l e.Word ≤ 1000000 * ((e.Word.size : Nat) : Int) := d2
  exact ⟨⟨⟨e, he, rfl, rfl⟩, a, Int.le_refl _, ⟨by show 0 ≤ tcF l e.Word; omega, by show tcF l e.Word ≤ _; omega⟩, ⟨by show 0 ≤ e.Cost; omega, by show e.Cost ≤ _; omega⟩⟩, rfl⟩
theorem rd_min {l : Lattice} (hl : okLat l) {lx : Lexicon} (hx : okLex lx) {v : List Found} (hp : v.Perm (rdA l lx)) (hs : v.Pairwise fun x y => ¬ cmpF y x < 0) (h0 : 0 < v.length) : at_ v 0 ∈ rdA l lx ∧ ∀ f ∈ rdA l lx, (at_ v 0).Path + (at_ v 0).Own ≤ f.Path + f.Own := by
  have m := hp.mem_iff.1 (at_mem h0)
  refine ⟨m, fun f hf => ?_⟩
  obtain ⟨i, hi, q⟩ := List.getElem_of_mem (hp.mem_iff.2 hf)
  have s0 := sum_is (rdA_ok hl hx m).1
  have s1 := sum_is (rdA_ok hl hx hf).1
  by_cases e : i = 0
  · subst e; rw [← at_eq hi] at q; rw [q]; exact Int.le_refl _
  · have := cmpF_sum (pw_get hs (show 0 < i by omega) hi)
    rw [at_eq hi, q] at this
    omega
def mnF (xs : List Found) : Nat → Found
  | 0 => at_ xs 0
  | i + 1 => if cmpF (at_ xs (i + 1)) (mnF xs i) < 0 then at_ xs (i + 1) else mnF xs i
theorem mnF_mem {xs : List Found} : ∀ i, i < xs.length → mnF xs i ∈ xs
  | 0, h => at_mem h
  | i + 1, h => by
    unfold mnF
    split
    · exact at_mem h
    · exact mnF_mem i (by omega)


-- impl.beamable
theorem beamable_ok (l : Lattice) (lx : Lexicon) (width : Int) (hl : okLat l) (hx : okLex lx) (hw : 1 ≤ width ∧ width ≤ 30) : Con Tryz.prog 19 [agLattice l, .agg [slEntry false lx.Entries], I width] true (I 0) := by
  refine fn_ok (fn := Tryz.f19) (nt := 20) Tryz.func19 rfl rfl rfl rfl (by simp [taggedL, tagged, tagEdge, tagEntry]) fun B hB => ?_
  refine aw_lens (x := agLattice l) 0 rfl (fun len_l => ?_)
  simp [LenOK, LenL, cEdge, fEdge, slEdge] at len_l
  refine aw_lens (x := .agg [slEntry false lx.Entries]) 1 rfl (fun len_lx => ?_)
  simp [LenOK, LenL, cEntry, fEntry, slEntry] at len_lx
  refine aR [(0, .new 3), (1, .new 4)] [2, 3, 4] [3, 4] [I width, .ref 3 0, .ref 4 0] [some (bxLattice l), some (.box [slEntry false lx.Entries])] [] hB trivial ?_
  refine aw_seq ?_
  refine aw_block ?_
  refine aR [(1, .call [(true, .any)] true (Bv true)), (5, .call [(true, .any)] true (Bv true))] [2, 7] [] [I width, Bv false] [] [Con Tryz.prog 29 [agLattice l] true (Bv true) ∧ True, Con Tryz.prog 30 [.agg [slEntry false lx.Entries]] true (Bv true) ∧ True] hB ⟨⟨(ValidLattice_ok l hl), trivial⟩, ⟨(ValidLexicon_ok lx hx), trivial⟩, trivial⟩ ?_
  refine aw_false rfl ?_
  refine aR [(1, .call [(true, .any), (true, .any), (true, .any)] true (Bv true))] [16] [] [Bv false] [] [Con Tryz.prog 28 [I width, I 1, I 30] true (Bv true) ∧ True] hB ⟨⟨(con_bool (inB_iff.2 hw) (within_ok width 1 30)), trivial⟩, trivial⟩ ?_
  refine aw_false rfl ?_
  refine aw_skip ?_
  refine ae_block 0 ?_
  refine ae_then ?_
  refine aR [] [6] [] [I 0] [] [] hB trivial ?_
  refine aw_ret ?_
  refine ae_ret hB (I 0) (by kernel_rfl) (.inl rfl) rfl (fun _ => trivial)



-- impl.placeOf$1
theorem placeOf1_ok (e : Entry) (w : ByteArray) : Con Tryz.prog 59 [agEntry e, Sv w] true (I (cmpS e.Word w)) := by
  refine fn_ok (fn := Tryz.f59) (nt := 9) Tryz.func59 rfl rfl rfl rfl (by simp [taggedL, tagged]) fun B hB => ?_
  refine aR [(0, .new 2)] [1, 2] [2] [Sv w, .ref 2 0] [some (bxEntry e)] [] hB trivial ?_
  refine aR [(3, .call [(true, .any), (true, .any)] true (I (cmpS e.Word w)))] [4] [] [I (cmpS e.Word w)] [] [Con Tryz.prog 60 [Sv e.Word, Sv w] true (I (cmpS e.Word w)) ∧ True] hB ⟨⟨(CompareS_ok e.Word w), trivial⟩, trivial⟩ ?_
  refine aw_ret ?_
  refine ae_ret hB (I (cmpS e.Word w)) (by kernel_rfl) (.inl rfl) rfl (fun _ => trivial)



-- impl.placeOf
theorem bsEnt_ok (xs : List Entry) (target : ByteArray) (hp : xs.Pairwise fun x_ y_ => cmpN x_ y_ < 0) (hll : xs.length ≤ 1000) : ∃ (pl : Int) (found : Bool), (0 ≤ pl ∧ pl ≤ (xs.length : Int)) ∧ (found = true → pl < (xs.length : Int) ∧ cmpN (at_ xs pl.toNat) (Entry.mk target 0) = 0) ∧ (found = false → ∀ j : Nat, j < xs.length → cmpN (at_ xs j) (Entry.mk target 0) ≠ 0) ∧ (∀ k : Nat, (k : Int) < pl → cmpN (at_ xs k) (Entry.mk target 0) < 0) ∧ (∀ k : Nat, pl ≤ (k : Int) → k < xs.length → ¬ cmpN (at_ xs k) (Entry.mk target 0) < 0) ∧ Con Tryz.prog 58 [slEntry false xs, Sv target, .fn 59 []] true (.tup [I pl, Bv found]) := by
  have hh : ∃ r : Int × Bool, ((0 ≤ r.1 ∧ r.1 ≤ (xs.length : Int)) ∧ (r.2 = true → r.1 < (xs.length : Int) ∧ cmpN (at_ xs r.1.toNat) (Entry.mk target 0) = 0) ∧ (r.2 = false → ∀ j : Nat, j < xs.length → cmpN (at_ xs j) (Entry.mk target 0) ≠ 0) ∧ (∀ k : Nat, (k : Int) < r.1 → cmpN (at_ xs k) (Entry.mk target 0) < 0) ∧ (∀ k : Nat, r.1 ≤ (k : Int) → k < xs.length → ¬ cmpN (at_ xs k) (Entry.mk target 0) < 0) ∧ (True)) ∧ CallOK Tryz.prog 58 [slEntry false xs, Sv target, .fn 59 []] (lookO []) true (.tup [I r.1, Bv r.2]) (lookO []) := by
    refine fn_okX (Φ := fun r : Int × Bool => (0 ≤ r.1 ∧ r.1 ≤ (xs.length : Int)) ∧ (r.2 = true → r.1 < (xs.length : Int) ∧ cmpN (at_ xs r.1.toNat) (Entry.mk target 0) = 0) ∧ (r.2 = false → ∀ j : Nat, j < xs.length → cmpN (at_ xs j) (Entry.mk target 0) ≠ 0) ∧ (∀ k : Nat, (k : Int) < r.1 → cmpN (at_ xs k) (Entry.mk target 0) < 0) ∧ (∀ k : Nat, r.1 ≤ (k : Int) → k < xs.length → ¬ cmpN (at_ xs k) (Entry.mk target 0) < 0) ∧ (True)) [] (fun r => []) (fn := Tryz.f58) (nt := 49) Tryz.func58 rfl rfl (args := [slEntry false xs, Sv target, .fn 59 []]) rfl (allcons (.inl ⟨rfl, tagEntry false _⟩) (allcons (.inl ⟨rfl, trivial⟩) (allcons (.inl ⟨rfl, trivial⟩) allnil))) (res := fun r => .tup [I r.1, Bv r.2]) ?_
    refine xR [] [0, 1, 2] [] [slEntry false xs, Sv target, .fn 59 []] [] [] trivial ?_
    refine xR [] [0, 1, 2, 8] [] [slEntry false xs, Sv target, .fn 59 [], I (xs.length : Int)] [] [] trivial ?_
    refine xR [] [0, 1, 2, 8, 9, 10] [] [slEntry false xs, Sv target, .fn 59 [], I (xs.length : Int), I 0, I (xs.length : Int)] [] [] trivial ?_
    refine x_seq ?_
    refine x_block ?_
    refine x_loop (X := Int × Int) (fun x => mkS [(0, slEntry false xs), (1, Sv target), (2, .fn 59 []), (8, I (xs.length : Int)), (9, I x.1), (10, I x.2)] []) (fun x => (0 ≤ x.1 ∧ x.1 ≤ x.2 ∧ x.2 ≤ (xs.length : Int)) ∧ (∀ k : Nat, (k : Int) < x.1 → cmpN (at_ xs k) (Entry.mk target 0) < 0) ∧ (∀ k : Nat, x.2 ≤ (k : Int) → k < xs.length → ¬ cmpN (at_ xs k) (Entry.mk target 0) < 0) ∧ True) (fun x => (x.2 - x.1).toNat) (0, (xs.length : Int)) rfl (show (0 ≤ (0 : Int) ∧ (0 : Int) ≤ (xs.length : Int) ∧ (xs.length : Int) ≤ (xs.length : Int)) ∧ (∀ k : Nat, (k : Int) < (0 : Int) → cmpN (at_ xs k) (Entry.mk target 0) < 0) ∧ (∀ k : Nat, (xs.length : Int) ≤ (k : Int) → k < xs.length → ¬ cmpN (at_ xs k) (Entry.mk target 0) < 0) ∧ True from ⟨(by omega), (by intro k hk; omega), (by intro k h1 h2; omega), trivial⟩) (fun x hI => ?_)
    obtain ⟨i, j⟩ := x
    obtain ⟨hi0, hlo, hhi, _⟩ : (0 ≤ i ∧ i ≤ j ∧ j ≤ (xs.length : Int)) ∧ (∀ k : Nat, (k : Int) < i → cmpN (at_ xs k) (Entry.mk target 0) < 0) ∧ (∀ k : Nat, j ≤ (k : Int) → k < xs.length → ¬ cmpN (at_ xs k) (Entry.mk target 0) < 0) ∧ True := hI
    show XW _ _ _ _ (mkS [(0, slEntry false xs), (1, Sv target), (2, .fn 59 []), (8, I (xs.length : Int)), (9, I i), (10, I j)] []) _ _
    refine x_seq ?_
    refine x_seq ?_
    by_cases h1 : i < j
    ·have hij : i < j := h1
     refine x_r [(2, .dec true)] [0, 1, 2, 8, 9, 10, 17] [] [slEntry false xs, Sv target, .fn 59 [], I (xs.length : Int), I i, I j, Bv true] [] [i < j] ⟨h1, trivial⟩ ?_
     refine xe_then ?_
     refine x_true rfl ?_
     refine x_skip ?_
     refine xe_then ?_
     refine x_block ?_
     refine xR [] [0, 1, 2, 8, 9, 10, 11] [] [slEntry false xs, Sv target, .fn 59 [], I (xs.length : Int), I i, I j, I ((i + j) / 2)] [] [inR .i64 (i + j), inR .u64 (i + j), (0 : Int) ≤ 1 ∧ (1 : Int) ≤ ((IntKind.bits .u64 : Nat) : Int), inR .i64 ((i + j) / 2)] ⟨(inR_i64 (by omega) (by omega)), (inR_u64 (by omega) (by omega)), ⟨(by decide), (by decide)⟩, (inR_i64 (by omega) (by omega)), trivial⟩ ?_
     refine x_seq ?_
     by_cases h2 : (cmpS (at_ xs (((i + j) / 2).toNat)).Word target) < 0
     ·refine x_r [(6, .call [(true, .any), (true, .any)] true (I (cmpS (at_ xs (((i + j) / 2).toNat)).Word target))), (7, .dec true)] [0, 1, 2, 8, 9, 10, 11, 31] [] [slEntry false xs, Sv target, .fn 59 [], I (xs.length : Int), I i, I j, I ((i + j) / 2), Bv true] [] [(0 : Int) ≤ ((i + j) / 2) ∧ ((i + j) / 2) < (xs.length : Int), Con Tryz.prog 59 [agEntry (at_ xs (((i + j) / 2).toNat)), Sv target] true (I (cmpS (at_ xs (((i + j) / 2).toNat)).Word target)) ∧ True, (cmpS (at_ xs (((i + j) / 2).toNat)).Word target) < 0] ⟨⟨(by omega), (by omega)⟩, ⟨(placeOf1_ok (at_ xs (((i + j) / 2).toNat)) target), trivial⟩, h2, trivial⟩ ?_
      refine xe_then ?_
      refine x_true rfl ?_
      refine x_r [] [0, 1, 2, 8, 9, 10] [] [slEntry false xs, Sv target, .fn 59 [], I (xs.length : Int), I (((i + j) / 2) + 1), I j] [] [inR .i64 (((i + j) / 2) + 1)] ⟨(inR_i64 (by omega) (by omega)), trivial⟩ ?_
      refine xe_block 1 ?_
      exact xe_again ((((i + j) / 2) + 1), j) rfl (show (0 ≤ (((i + j) / 2) + 1) ∧ (((i + j) / 2) + 1) ≤ j ∧ j ≤ (xs.length : Int)) ∧ (∀ k : Nat, (k : Int) < (((i + j) / 2) + 1) → cmpN (at_ xs k) (Entry.mk target 0) < 0) ∧ (∀ k : Nat, j ≤ (k : Int) → k < xs.length → ¬ cmpN (at_ xs k) (Entry.mk target 0) < 0) ∧ True from ⟨(by omega), (by first | exact hlo | (intro k hk; by_cases ek : (k : Int) = (i + j) / 2; (rw [show k = ((i + j) / 2).toNat from by omega]; assumption); exact bs_lo cmpN_w hp (k := k) (h := ((i + j) / 2).toNat) (by omega) (by omega) (by assumption))), (by first | exact hhi | (intro k hk1 hk2; by_cases ek : (k : Int) = (i + j) / 2; (rw [show k = ((i + j) / 2).toNat from by omega]; assumption); exact bs_hi cmpN_w hp (k := ((i + j) / 2).toNat) (h := k) (by omega) hk2 (by assumption))), trivial⟩) (by first | (show ((j - (((i + j) / 2) + 1)).toNat : Nat) < (j - i).toNat; omega) | (dsimp only; omega))
     refine x_r [(6, .call [(true, .any), (true, .any)] true (I (cmpS (at_ xs (((i + j) / 2).toNat)).Word target))), (7, .dec false)] [0, 1, 2, 8, 9, 10, 11, 31] [] [slEntry false xs, Sv target, .fn 59 [], I (xs.length : Int), I i, I j, I ((i + j) / 2), Bv false] [] [(0 : Int) ≤ ((i + j) / 2) ∧ ((i + j) / 2) < (xs.length : Int), Con Tryz.prog 59 [agEntry (at_ xs (((i + j) / 2).toNat)), Sv target] true (I (cmpS (at_ xs (((i + j) / 2).toNat)).Word target)) ∧ True, ¬ ((cmpS (at_ xs (((i + j) / 2).toNat)).Word target) < 0)] ⟨⟨(by omega), (by omega)⟩, ⟨(placeOf1_ok (at_ xs (((i + j) / 2).toNat)) target), trivial⟩, h2, trivial⟩ ?_
     refine xe_then ?_
     refine x_false rfl ?_
     refine x_r [] [0, 1, 2, 8, 9, 10] [] [slEntry false xs, Sv target, .fn 59 [], I (xs.length : Int), I i, I ((i + j) / 2)] [] [] trivial ?_
     refine xe_block 1 ?_
     exact xe_again (i, ((i + j) / 2)) rfl (show (0 ≤ i ∧ i ≤ ((i + j) / 2) ∧ ((i + j) / 2) ≤ (xs.length : Int)) ∧ (∀ k : Nat, (k : Int) < i → cmpN (at_ xs k) (Entry.mk target 0) < 0) ∧ (∀ k : Nat, ((i + j) / 2) ≤ (k : Int) → k < xs.length → ¬ cmpN (at_ xs k) (Entry.mk target 0) < 0) ∧ True from ⟨(by omega), (by first | exact hlo | (intro k hk; by_cases ek : (k : Int) = (i + j) / 2; (rw [show k = ((i + j) / 2).toNat from by omega]; assumption); exact bs_lo cmpN_w hp (k := k) (h := ((i + j) / 2).toNat) (by omega) (by omega) (by assumption))), (by first | exact hhi | (intro k hk1 hk2; by_cases ek : (k : Int) = (i + j) / 2; (rw [show k = ((i + j) / 2).toNat from by omega]; assumption); exact bs_hi cmpN_w hp (k := ((i + j) / 2).toNat) (h := k) (by omega) hk2 (by assumption))), trivial⟩) (by first | (show ((((i + j) / 2) - i).toNat : Nat) < (j - i).toNat; omega) | (dsimp only; omega))
    refine x_r [(2, .dec false)] [0, 1, 2, 8, 9, 10, 17] [] [slEntry false xs, Sv target, .fn 59 [], I (xs.length : Int), I i, I j, Bv false] [] [¬ (i < j)] ⟨h1, trivial⟩ ?_
    refine xe_then ?_
    refine x_false rfl ?_
    refine x_exit ?_
    refine xe_exit_then ?_
    refine xe_loop_exit ?_
    refine xe_exit_same ?_
    refine xe_then ?_
    refine x_seq ?_
    by_cases h3 : i < (xs.length : Int)
    ·refine x_r [(3, .dec true), (11, .call [(true, .any), (true, .any)] true (I (cmpS (at_ xs i.toNat).Word target)))] [6, 7] [] [I i, Bv (decide ((cmpS (at_ xs i.toNat).Word target) = 0))] [] [i < (xs.length : Int), (0 : Int) ≤ i ∧ i < (xs.length : Int), Con Tryz.prog 59 [agEntry (at_ xs i.toNat), Sv target] true (I (cmpS (at_ xs i.toNat).Word target)) ∧ True] ⟨h3, ⟨(by omega), (by omega)⟩, ⟨(placeOf1_ok (at_ xs i.toNat) target), trivial⟩, trivial⟩ ?_
     refine xe_then ?_
     refine x_ret ?_
     refine xe_end (i, decide ((cmpS (at_ xs i.toNat).Word target) = 0)) (show (0 ≤ i ∧ i ≤ (xs.length : Int)) ∧ ((decide ((cmpS (at_ xs i.toNat).Word target) = 0)) = true → i < (xs.length : Int) ∧ cmpN (at_ xs i.toNat) (Entry.mk target 0) = 0) ∧ ((decide ((cmpS (at_ xs i.toNat).Word target) = 0)) = false → ∀ j : Nat, j < xs.length → cmpN (at_ xs j) (Entry.mk target 0) ≠ 0) ∧ (∀ k : Nat, (k : Int) < i → cmpN (at_ xs k) (Entry.mk target 0) < 0) ∧ (∀ k : Nat, i ≤ (k : Int) → k < xs.length → ¬ cmpN (at_ xs k) (Entry.mk target 0) < 0) ∧ (True) from ⟨(by first | omega | exact fun q => ⟨by omega, of_decide_eq_true q⟩ | exact fun q => absurd q (by decide) | exact fun q => bs_no cmpN_w hp (a := i.toNat) (fun k hk => hlo k (by omega)) (fun k h1 h2 => hhi k (by omega) h2) (fun z => absurd z.2 (of_decide_eq_false q)) | exact fun _ => bs_no cmpN_w hp (a := i.toNat) (fun k hk => hlo k (by omega)) (fun k h1 h2 => hhi k (by omega) h2) (fun z => absurd z.1 (by omega))), (by first | omega | exact fun q => ⟨by omega, of_decide_eq_true q⟩ | exact fun q => absurd q (by decide) | exact fun q => bs_no cmpN_w hp (a := i.toNat) (fun k hk => hlo k (by omega)) (fun k h1 h2 => hhi k (by omega) h2) (fun z => absurd z.2 (of_decide_eq_false q)) | exact fun _ => bs_no cmpN_w hp (a := i.toNat) (fun k hk => hlo k (by omega)) (fun k h1 h2 => hhi k (by omega) h2) (fun z => absurd z.1 (by omega))), (by first | omega | exact fun q => ⟨by omega, of_decide_eq_true q⟩ | exact fun q => absurd q (by decide) | exact fun q => bs_no cmpN_w hp (a := i.toNat) (fun k hk => hlo k (by omega)) (fun k h1 h2 => hhi k (by omega) h2) (fun z => absurd z.2 (of_decide_eq_false q)) | exact fun _ => bs_no cmpN_w hp (a := i.toNat) (fun k hk => hlo k (by omega)) (fun k h1 h2 => hhi k (by omega) h2) (fun z => absurd z.1 (by omega))), (by first | exact fun k hk => hlo k (by omega) | exact fun k h1 h2 => hhi k (by omega) h2), (by first | exact fun k hk => hlo k (by omega) | exact fun k h1 h2 => hhi k (by omega) h2), trivial⟩) (trivial) (.tup [I i, Bv (decide ((cmpS (at_ xs i.toNat).Word target) = 0))]) (by kernel_rfl) (.inl rfl) (fun _ => rfl) (fun _ => (by simp [tagged, taggedL]))
    refine x_r [(3, .dec false)] [6, 7] [] [I i, Bv false] [] [¬ (i < (xs.length : Int))] ⟨h3, trivial⟩ ?_
    refine xe_then ?_
    refine x_ret ?_
    refine xe_end (i, false) (show (0 ≤ i ∧ i ≤ (xs.length : Int)) ∧ (false = true → i < (xs.length : Int) ∧ cmpN (at_ xs i.toNat) (Entry.mk target 0) = 0) ∧ (false = false → ∀ j : Nat, j < xs.length → cmpN (at_ xs j) (Entry.mk target 0) ≠ 0) ∧ (∀ k : Nat, (k : Int) < i → cmpN (at_ xs k) (Entry.mk target 0) < 0) ∧ (∀ k : Nat, i ≤ (k : Int) → k < xs.length → ¬ cmpN (at_ xs k) (Entry.mk target 0) < 0) ∧ (True) from ⟨(by first | omega | exact fun q => ⟨by omega, of_decide_eq_true q⟩ | exact fun q => absurd q (by decide) | exact fun q => bs_no cmpN_w hp (a := i.toNat) (fun k hk => hlo k (by omega)) (fun k h1 h2 => hhi k (by omega) h2) (fun z => absurd z.2 (of_decide_eq_false q)) | exact fun _ => bs_no cmpN_w hp (a := i.toNat) (fun k hk => hlo k (by omega)) (fun k h1 h2 => hhi k (by omega) h2) (fun z => absurd z.1 (by omega))), (by first | omega | exact fun q => ⟨by omega, of_decide_eq_true q⟩ | exact fun q => absurd q (by decide) | exact fun q => bs_no cmpN_w hp (a := i.toNat) (fun k hk => hlo k (by omega)) (fun k h1 h2 => hhi k (by omega) h2) (fun z => absurd z.2 (of_decide_eq_false q)) | exact fun _ => bs_no cmpN_w hp (a := i.toNat) (fun k hk => hlo k (by omega)) (fun k h1 h2 => hhi k (by omega) h2) (fun z => absurd z.1 (by omega))), (by first | omega | exact fun q => ⟨by omega, of_decide_eq_true q⟩ | exact fun q => absurd q (by decide) | exact fun q => bs_no cmpN_w hp (a := i.toNat) (fun k hk => hlo k (by omega)) (fun k h1 h2 => hhi k (by omega) h2) (fun z => absurd z.2 (of_decide_eq_false q)) | exact fun _ => bs_no cmpN_w hp (a := i.toNat) (fun k hk => hlo k (by omega)) (fun k h1 h2 => hhi k (by omega) h2) (fun z => absurd z.1 (by omega))), (by first | exact fun k hk => hlo k (by omega) | exact fun k h1 h2 => hhi k (by omega) h2), (by first | exact fun k hk => hlo k (by omega) | exact fun k h1 h2 => hhi k (by omega) h2), trivial⟩) (trivial) (.tup [I i, Bv false]) (by kernel_rfl) (.inl rfl) (fun _ => rfl) (fun _ => (by simp [tagged, taggedL]))
  obtain ⟨⟨pl, found⟩, ⟨hh0, hh1, hh2, hh3, hh4, _⟩, hc⟩ := hh
  exact ⟨pl, found, hh0, hh1, hh2, hh3, hh4, hc⟩

theorem placeOf_ok (lx : Lexicon) (w : ByteArray) (hlx : okLex lx) : ∃ (pl : Int) (found : Bool), (0 ≤ pl ∧ pl ≤ (lx.Entries.length : Int)) ∧ (found = true → pl < (lx.Entries.length : Int) ∧ (at_ lx.Entries pl.toNat).Word = w) ∧ (found = false → ∀ j : Nat, j < lx.Entries.length → (at_ lx.Entries j).Word ≠ w) ∧ (∀ k : Nat, (k : Int) < pl → cmpS (at_ lx.Entries k).Word w < 0) ∧ (∀ k : Nat, pl ≤ (k : Int) → k < lx.Entries.length → ¬ cmpS (at_ lx.Entries k).Word w < 0) ∧ Con Tryz.prog 38 [.agg [slEntry false lx.Entries], Sv w] true (.tup [I pl, Bv found]) := by
  have hc := hlx.1
  have hh : ∃ r : Int × Bool, ((0 ≤ r.1 ∧ r.1 ≤ (lx.Entries.length : Int)) ∧ (r.2 = true → r.1 < (lx.Entries.length : Int) ∧ (at_ lx.Entries r.1.toNat).Word = w) ∧ (r.2 = false → ∀ j : Nat, j < lx.Entries.length → (at_ lx.Entries j).Word ≠ w) ∧ (∀ k : Nat, (k : Int) < r.1 → cmpS (at_ lx.Entries k).Word w < 0) ∧ (∀ k : Nat, r.1 ≤ (k : Int) → k < lx.Entries.length → ¬ cmpS (at_ lx.Entries k).Word w < 0) ∧ (True)) ∧ CallOK Tryz.prog 38 [.agg [slEntry false lx.Entries], Sv w] (lookO []) true (.tup [I r.1, Bv r.2]) (lookO []) := by
    refine fn_okX (Φ := fun r : Int × Bool => (0 ≤ r.1 ∧ r.1 ≤ (lx.Entries.length : Int)) ∧ (r.2 = true → r.1 < (lx.Entries.length : Int) ∧ (at_ lx.Entries r.1.toNat).Word = w) ∧ (r.2 = false → ∀ j : Nat, j < lx.Entries.length → (at_ lx.Entries j).Word ≠ w) ∧ (∀ k : Nat, (k : Int) < r.1 → cmpS (at_ lx.Entries k).Word w < 0) ∧ (∀ k : Nat, r.1 ≤ (k : Int) → k < lx.Entries.length → ¬ cmpS (at_ lx.Entries k).Word w < 0) ∧ (True)) [] (fun r => []) (fn := Tryz.f38) (nt := 12) Tryz.func38 rfl rfl (args := [.agg [slEntry false lx.Entries], Sv w]) rfl (allcons (.inl ⟨rfl, by simp [tagged, taggedL, tagEntry]⟩) (allcons (.inl ⟨rfl, trivial⟩) allnil)) (res := fun r => .tup [I r.1, Bv r.2]) ?_
    refine xR [(0, .new 2)] [1, 2] [2] [Sv w, .ref 2 0] [some (.box [slEntry false lx.Entries])] [] trivial ?_
    refine x_seq ?_
    obtain ⟨pl_1, found_1, hx1_0, hx1_1, hx1_2, hx1_3, hx1_4, hc1⟩ := bsEnt_ok lx.Entries w hlx.2.2 (by omega)
    have hb1 := hx1_1
    have hb2 := hx1_2
    have hb3 := hx1_3
    have hb4 := hx1_4
    refine x_r [(3, .call [(true, .any), (true, .any), (true, .any)] true (.tup [I pl_1, Bv found_1]))] [4, 5] [] [I pl_1, Bv found_1] [] [Con Tryz.prog 58 [slEntry false lx.Entries, Sv w, .fn 59 []] true (.tup [I pl_1, Bv found_1]) ∧ True] ⟨⟨hc1, trivial⟩, trivial⟩ ?_
    refine xe_then ?_
    refine x_ret ?_
    refine xe_end (pl_1, found_1) (show (0 ≤ pl_1 ∧ pl_1 ≤ (lx.Entries.length : Int)) ∧ (found_1 = true → pl_1 < (lx.Entries.length : Int) ∧ (at_ lx.Entries pl_1.toNat).Word = w) ∧ (found_1 = false → ∀ j : Nat, j < lx.Entries.length → (at_ lx.Entries j).Word ≠ w) ∧ (∀ k : Nat, (k : Int) < pl_1 → cmpS (at_ lx.Entries k).Word w < 0) ∧ (∀ k : Nat, pl_1 ≤ (k : Int) → k < lx.Entries.length → ¬ cmpS (at_ lx.Entries k).Word w < 0) ∧ (True) from ⟨(by first | omega | assumption), (by exact fun q => ⟨(hb1 q).1, cmpS_zero.1 (hb1 q).2⟩), (by exact fun q j hj z => hb2 q j hj (cmpS_zero.2 z)), (by exact hb3), (by exact hb4), trivial⟩) (trivial) (.tup [I pl_1, Bv found_1]) (by kernel_rfl) (.inl rfl) (fun _ => rfl) (fun _ => (by simp [tagged, taggedL]))
  obtain ⟨⟨pl, found⟩, ⟨hh0, hh1, hh2, hh3, hh4, _⟩, hc⟩ := hh
  exact ⟨pl, found, hh0, hh1, hh2, hh3, hh4, hc⟩



def preB (w t : ByteArray) : Bool := decide (t.size ≤ w.size ∧ w.extract 0 t.size = t)
def begB (lx : Lexicon) (t : ByteArray) : Bool := lx.Entries.any fun e => preB e.Word t
theorem begB_iff {lx : Lexicon} {t : ByteArray} : begB lx t = true ↔ ∃ e ∈ lx.Entries, preB e.Word t = true := by unfold begB; rw [List.any_eq_true]
theorem preB_app {w t : ByteArray} : preB w t = true ↔ ∃ u : ByteArray, w = t ++ u := by
  unfold preB
  rw [decide_eq_true_eq]
  have ex : ∀ a b : Nat, (w.extract a b).toList = (w.data.toList.drop a).take (b - a) := fun a b => by rw [Lib.toList_data]; simp [ByteArray.data_extract, Array.toList_extract, List.extract_eq_take_drop]
  constructor
  · rintro ⟨h1, h2⟩
    refine ⟨w.extract t.size w.size, ba_inj ?_⟩
    rw [toList_app]
    conv => rhs; rw [← h2]
    rw [ex, ex, Lib.toList_data, h2, Nat.sub_zero, List.drop_zero]
    have : (w.data.toList.drop t.size).take (w.size - t.size) = w.data.toList.drop t.size := List.take_of_length_le (by rw [List.length_drop]; exact Nat.le_refl _)
    rw [this, List.take_append_drop]
  · rintro ⟨u, rfl⟩
    refine ⟨by rw [ByteArray.size_append]; omega, ba_inj ?_⟩
    rw [Lib.toList_data, ByteArray.data_extract, Array.toList_extract, List.extract_eq_take_drop, ByteArray.data_append, Array.toList_append, List.drop_zero, Nat.sub_zero, List.take_append_of_le_length (by exact Nat.le_refl _), List.take_of_length_le (by exact Nat.le_refl _), Lib.toList_data]
theorem pre_mid : ∀ t u v : List UInt8, Op.bytesLess u t = false → Op.bytesLess v u = false → (∃ r, v = t ++ r) → ∃ r, u = t ++ r
  | [], u, _, _, _, _ => ⟨u, rfl⟩
  | a :: t, [], v, h, _, _ => by simp [Op.bytesLess] at h
  | a :: t, b :: u, v, h1, h2, h3 => by
    obtain ⟨r, rfl⟩ := h3
    rw [List.cons_append] at h2
    simp only [Op.bytesLess, Bool.or_eq_false_iff, Bool.and_eq_false_iff, decide_eq_false_iff_not, beq_eq_false_iff_ne] at h1 h2
    have e : b = a := by
      have a1 : ¬ b.toNat < a.toNat := fun q => h1.1 (UInt8.lt_iff_toNat_lt.2 q)
      have a2 : ¬ a.toNat < b.toNat := fun q => h2.1 (UInt8.lt_iff_toNat_lt.2 q)
      exact UInt8.toNat_inj.1 (by omega)
    subst e
    have b1 : Op.bytesLess u t = false := h1.2.resolve_left (by simp)
    have b2 : Op.bytesLess (t ++ r) u = false := h2.2.resolve_left (by simp)
    obtain ⟨r', q⟩ := pre_mid t u (t ++ r) b1 b2 ⟨r, rfl⟩
    exact ⟨r', by rw [q]; rfl⟩
theorem beg_at {lx : Lexicon} (hx : okLex lx) {t : ByteArray} {pl : Int} (h0 : 0 ≤ pl) (hlo : ∀ k : Nat, (k : Int) < pl → cmpS (at_ lx.Entries k).Word t < 0) (hhi : ∀ k : Nat, pl ≤ (k : Int) → k < lx.Entries.length → ¬ cmpS (at_ lx.Entries k).Word t < 0) : begB lx t = true ↔ pl < (lx.Entries.length : Int) ∧ preB (at_ lx.Entries pl.toNat).Word t = true := by
  constructor
  · intro h
    obtain ⟨e, he, hp⟩ := begB_iff.1 h
    obtain ⟨j, hj, q⟩ := List.getElem_of_mem he
    rw [← at_eq hj] at q
    subst q
    obtain ⟨u, hu⟩ := preB_app.1 hp
    have hnl : ¬ cmpS (at_ lx.Entries j).Word t < 0 := fun q => by
      rw [cmpS_neg] at q
      unfold sless at q
      rw [hu, toList_app] at q
      have : ∀ a b : List UInt8, Op.bytesLess (a ++ b) a = false := fun a b => by
        induction a with
        | nil => cases b <;> simp [Op.bytesLess]
        | cons x a ih =>
          have h : ¬ x < x := fun q => by have := UInt8.lt_iff_toNat_lt.1 q; omega
          simp [Op.bytesLess, ih, h]
      rw [this] at q; cases q
    have hpj : pl ≤ (j : Int) := by
      refine Classical.byContradiction fun hno => hnl (hlo j (by omega))
    have hpl : pl.toNat < lx.Entries.length := by omega
    refine ⟨by omega, ?_⟩
    by_cases e : pl.toNat = j
    · rw [e]; exact hp
    · have hs := pw_get hx.2.2 (show pl.toNat < j by omega) hj
      have a1 := hhi pl.toNat (by omega) hpl
      have b1 : Op.bytesLess (at_ lx.Entries pl.toNat).Word.toList t.toList = false := by
        rw [cmpS_neg] at a1
        have a2 : sless (at_ lx.Entries pl.toNat).Word t = false := by simpa using a1
        exact a2
      have b2 : Op.bytesLess (at_ lx.Entries j).Word.toList (at_ lx.Entries pl.toNat).Word.toList = false := by
        have q := sl_asym (cmpS_neg.1 hs)
        exact q
      obtain ⟨r, hr⟩ := pre_mid _ _ _ b1 b2 ⟨u.toList, by rw [hu, toList_app]⟩
      refine preB_app.2 ⟨⟨r.toArray⟩, ba_inj ?_⟩
      rw [toList_app, hr, Lib.toList_data ⟨r.toArray⟩]
  · rintro ⟨h1, h2⟩
    exact begB_iff.2 ⟨_, at_mem (by omega), h2⟩

-- stringslite.HasPrefix
theorem slHasPre_ok (s : ByteArray) (pre : ByteArray) (hz : s.size ≤ 1000000 ∧ pre.size ≤ 1000000) : Con Tryz.prog 89 [Sv s, Sv pre] true (Bv (preB s pre)) := by
  refine fn_ok (fn := Tryz.f89) (nt := 18) Tryz.func89 rfl rfl rfl rfl (by simp [taggedL, tagged]) fun B hB => ?_
  refine aR [] [0, 1] [] [Sv s, Sv pre] [] [] hB trivial ?_
  refine aw_seq ?_
  by_cases h1 : (pre.size : Int) ≤ (s.size : Int)
  ·refine aw_r [(4, .dec true)] [4] [] [Bv (decide ((s.extract 0 (pre.size : Int).toNat) = pre))] [] [(pre.size : Int) ≤ (s.size : Int), (0 : Int) ≤ 0 ∧ (0 : Int) ≤ (pre.size : Int) ∧ (pre.size : Int) ≤ (s.size : Int)] hB ⟨h1, ⟨(by omega), (by omega), (by omega)⟩, trivial⟩ ?_
   refine ae_then ?_
   refine aw_ret ?_
   refine ae_ret hB (Bv (decide ((s.extract 0 (pre.size : Int).toNat) = pre))) (by kernel_rfl) (.inl (by refine congrArg Bv ?_; unfold preB; first | exact decide_eq_decide.2 ⟨fun q => ⟨by omega, q⟩, fun q => q.2⟩ | (symm; exact decide_eq_false (fun q => by have := q.1; omega)) | (symm; exact decide_eq_true (by simp_all; omega)) | (symm; exact decide_eq_false (by simp_all)) | (symm; exact decide_eq_false (by omega)) | (simp [*]; done) | (simp_all; done))) rfl (fun _ => trivial)
  refine aw_r [(4, .dec false)] [4] [] [Bv false] [] [¬ ((pre.size : Int) ≤ (s.size : Int))] hB ⟨h1, trivial⟩ ?_
  refine ae_then ?_
  refine aw_ret ?_
  refine ae_ret hB (Bv false) (by kernel_rfl) (.inl (by refine congrArg Bv ?_; unfold preB; first | exact decide_eq_decide.2 ⟨fun q => ⟨by omega, q⟩, fun q => q.2⟩ | (symm; exact decide_eq_false (fun q => by have := q.1; omega)) | (symm; exact decide_eq_true (by simp_all; omega)) | (symm; exact decide_eq_false (by simp_all)) | (symm; exact decide_eq_false (by omega)) | (simp [*]; done) | (simp_all; done))) rfl (fun _ => trivial)



-- strings.HasPrefix
theorem hasPre_ok (s : ByteArray) (prefix_ : ByteArray) (hz : s.size ≤ 1000000 ∧ prefix_.size ≤ 1000000) : Con Tryz.prog 71 [Sv s, Sv prefix_] true (Bv (preB s prefix_)) := by
  refine fn_ok (fn := Tryz.f71) (nt := 8) Tryz.func71 rfl rfl rfl rfl (by simp [taggedL, tagged]) fun B hB => ?_
  refine aR [] [0, 1] [] [Sv s, Sv prefix_] [] [] hB trivial ?_
  refine aR [(2, .call [(true, .any), (true, .any)] true (Bv (preB s prefix_)))] [4] [] [Bv (preB s prefix_)] [] [Con Tryz.prog 89 [Sv s, Sv prefix_] true (Bv (preB s prefix_)) ∧ True] hB ⟨⟨(slHasPre_ok s prefix_ (by omega)), trivial⟩, trivial⟩ ?_
  refine aw_ret ?_
  refine ae_ret hB (Bv (preB s prefix_)) (by kernel_rfl) (.inl rfl) rfl (fun _ => trivial)



-- impl.begins
theorem begins_ok (lx : Lexicon) (text : ByteArray) (hx : okLex lx) (ht : text.size ≤ 1000) : Con Tryz.prog 49 [.agg [slEntry false lx.Entries], Sv text] true (Bv (begB lx text)) := by
  have hc := hx.1
  refine fn_ok (fn := Tryz.f49) (nt := 28) Tryz.func49 rfl rfl rfl rfl (by simp [taggedL, tagged, tagEntry]) fun B hB => ?_
  refine aw_lens (x := .agg [slEntry false lx.Entries]) 0 rfl (fun len_lx => ?_)
  simp [LenOK, LenL, cEntry, fEntry, slEntry] at len_lx
  refine aR [(0, .new 2)] [1, 2] [2] [Sv text, .ref 2 0] [some (.box [slEntry false lx.Entries])] [] hB trivial ?_
  refine aw_seq ?_
  obtain ⟨pl_1, found_1, hx1_0, hx1_1, hx1_2, hx1_3, hx1_4, hc1⟩ := placeOf_ok lx text hx
  have hb0 := hx1_0
  have hba := beg_at hx hb0.1 hx1_3 hx1_4
  refine aw_r [(2, .call [(true, .any), (true, .any)] true (.tup [I pl_1, Bv found_1]))] [1, 2, 5] [2] [Sv text, .ref 2 0, I pl_1] [some (.box [slEntry false lx.Entries])] [Con Tryz.prog 38 [.agg [slEntry false lx.Entries], Sv text] true (.tup [I pl_1, Bv found_1]) ∧ True] hB ⟨⟨hc1, trivial⟩, trivial⟩ ?_
  refine ae_then ?_
  refine aw_seq ?_
  by_cases h1 : pl_1 < (lx.Entries.length : Int)
  ·have hen := hx.2.1 _ (at_mem (show pl_1.toNat < lx.Entries.length by omega))
   have hwz := (okWord_iff.1 hen.1).1
   refine aw_r [(4, .dec true), (13, .call [(true, .any), (true, .any)] true (Bv (preB ((at_ lx.Entries pl_1.toNat).Word) text)))] [4] [] [Bv (preB ((at_ lx.Entries pl_1.toNat).Word) text)] [] [pl_1 < (lx.Entries.length : Int), (0 : Int) ≤ pl_1 ∧ pl_1 < (lx.Entries.length : Int), Con Tryz.prog 71 [Sv ((at_ lx.Entries pl_1.toNat).Word), Sv text] true (Bv (preB ((at_ lx.Entries pl_1.toNat).Word) text)) ∧ True] hB ⟨h1, ⟨(by omega), (by omega)⟩, ⟨(hasPre_ok ((at_ lx.Entries pl_1.toNat).Word) text (by omega)), trivial⟩, trivial⟩ ?_
   refine ae_then ?_
   refine aw_ret ?_
   refine ae_ret hB (Bv (preB ((at_ lx.Entries pl_1.toNat).Word) text)) (by kernel_rfl) (.inl (by refine congrArg Bv ?_; first | exact hnb.symm | exact hnb | (rw [Bool.eq_iff_iff, hba]; exact ⟨fun q => ⟨by omega, q⟩, fun q => q.2⟩) | (rw [Bool.eq_iff_iff, hba]; simp [*]))) rfl (fun _ => trivial)
  have hnb : begB lx text = false := Bool.eq_false_iff.2 fun q => by have := (hba.1 q).1; omega
  refine aw_r [(4, .dec false)] [4] [] [Bv false] [] [¬ (pl_1 < (lx.Entries.length : Int))] hB ⟨h1, trivial⟩ ?_
  refine ae_then ?_
  refine aw_ret ?_
  refine ae_ret hB (Bv false) (by kernel_rfl) (.inl (by refine congrArg Bv ?_; first | exact hnb.symm | exact hnb | (rw [Bool.eq_iff_iff, hba]; exact ⟨fun q => ⟨by omega, q⟩, fun q => q.2⟩) | (rw [Bool.eq_iff_iff, hba]; simp [*]))) rfl (fun _ => trivial)



-- bits.Len

-- cmp.isNaN[int]
theorem isNaNJ_ok (x : Int) : Con Tryz.prog 78 [I x] true (Bv false) := by
  refine fn_ok (fn := Tryz.f78) (nt := 6) Tryz.func78 rfl rfl rfl rfl (by simp [taggedL, tagged]) fun B hB => ?_
  refine aR [] [0] [] [I x] [] [] hB trivial ?_
  refine aR [(2, .dec false)] [2] [] [Bv false] [] [¬ (x ≠ x)] hB ⟨(fun hq => hq rfl), trivial⟩ ?_
  refine aw_ret ?_
  refine ae_ret hB (Bv false) (by kernel_rfl) (.inl rfl) rfl (fun _ => trivial)



-- cmp.Compare[int]
theorem CompareJ_ok (x : Int) (y : Int) : Con Tryz.prog 63 [I x, I y] true (I (cmpI x y)) := by
  refine fn_ok (fn := Tryz.f63) (nt := 20) Tryz.func63 rfl rfl rfl rfl (by simp [taggedL, tagged]) fun B hB => ?_
  refine aR [] [0, 1] [] [I x, I y] [] [] hB trivial ?_
  refine aR [(1, .call [(true, .any)] true (Bv false))] [0, 1, 5] [] [I x, I y, Bv false] [] [Con Tryz.prog 78 [I x] true (Bv false) ∧ True] hB ⟨⟨(isNaNJ_ok x), trivial⟩, trivial⟩ ?_
  refine aR [(1, .call [(true, .any)] true (Bv false))] [0, 1, 5, 6] [] [I x, I y, Bv false, Bv false] [] [Con Tryz.prog 78 [I y] true (Bv false) ∧ True] hB ⟨⟨(isNaNJ_ok y), trivial⟩, trivial⟩ ?_
  refine aw_seq ?_
  refine aR [] [0, 1, 6, 11] [] [I x, I y, Bv false, Bv false] [] [] hB trivial ?_
  refine aw_false rfl ?_
  refine aw_skip ?_
  refine ae_then ?_
  refine aw_seq ?_
  refine aR [] [0, 1, 13] [] [I x, I y, Bv false] [] [] hB trivial ?_
  refine aw_false rfl ?_
  refine aw_skip ?_
  refine ae_then ?_
  refine aw_seq ?_
  refine aw_seq ?_
  by_cases h1 : x < y
  ·refine aw_r [(2, .dec true)] [0, 1, 16] [] [I x, I y, Bv true] [] [x < y] hB ⟨h1, trivial⟩ ?_
   refine ae_then ?_
   refine aw_true rfl ?_
   refine aR [] [4] [] [I (-1)] [] [] hB trivial ?_
   refine aw_ret ?_
   refine ae_ret_then ?_
   refine ae_ret hB (I (-1)) (by kernel_rfl) (.inl (by refine congrArg I ?_; unfold cmpI; first | (rw [if_pos (by omega)]; done) | (rw [if_neg (by omega), if_pos (by omega)]; done) | (rw [if_neg (by omega), if_neg (by omega)]; done))) rfl (fun _ => trivial)
  refine aw_r [(2, .dec false)] [0, 1, 16] [] [I x, I y, Bv false] [] [¬ (x < y)] hB ⟨h1, trivial⟩ ?_
  refine ae_then ?_
  refine aw_false rfl ?_
  refine aw_skip ?_
  refine ae_then ?_
  refine aw_seq ?_
  refine aw_seq ?_
  by_cases h2 : y < x
  ·refine aw_r [(2, .dec true)] [19] [] [Bv true] [] [y < x] hB ⟨h2, trivial⟩ ?_
   refine ae_then ?_
   refine aw_true rfl ?_
   refine aR [] [4] [] [I 1] [] [] hB trivial ?_
   refine aw_ret ?_
   refine ae_ret_then ?_
   refine ae_ret hB (I 1) (by kernel_rfl) (.inl (by refine congrArg I ?_; unfold cmpI; first | (rw [if_pos (by omega)]; done) | (rw [if_neg (by omega), if_pos (by omega)]; done) | (rw [if_neg (by omega), if_neg (by omega)]; done))) rfl (fun _ => trivial)
  refine aw_r [(2, .dec false)] [19] [] [Bv false] [] [¬ (y < x)] hB ⟨h2, trivial⟩ ?_
  refine ae_then ?_
  refine aw_false rfl ?_
  refine aw_skip ?_
  refine ae_then ?_
  refine aR [] [4] [] [I 0] [] [] hB trivial ?_
  refine aw_ret ?_
  refine ae_ret hB (I 0) (by kernel_rfl) (.inl (by refine congrArg I ?_; unfold cmpI; first | (rw [if_pos (by omega)]; done) | (rw [if_neg (by omega), if_pos (by omega)]; done) | (rw [if_neg (by omega), if_neg (by omega)]; done))) rfl (fun _ => trivial)



-- impl.compareReadings

theorem swo_of {α : Type} {c : α → α → Int} (h : CmpW c) : Go.Sort.SWO (ltOf c) := ⟨fun x => decide_eq_false (by have := h.refl x; omega), fun x y z h1 h2 => decide_eq_true (h.trans x y z (Int.le_of_lt (of_decide_eq_true (p := c x y < 0) h1)) (of_decide_eq_true (p := c y z < 0) h2)), fun x y z h1 h2 => decide_eq_false fun h3 => by
  have q1 := of_decide_eq_false h1
  have q2 := of_decide_eq_false h2
  have a1 := h.anti y x
  have a2 := h.anti z y
  have a3 := h.anti x z
  have b1 := h.anti x y
  have b2 := h.anti y z
  have := h.le (x := z) (y := y) (z := x) (by omega) (by omega)
  omega⟩
theorem srt_iso {α : Type} [Inhabited α] {c : α → α → Int} (h : CmpW c) (ht : ∀ x y, c x y = 0 → x = y) (xs : List α) : srtF c xs = isoL c xs xs.length := by
  have p1 := srt_perm (swo_of h) xs
  have p2 := isoL_perm c xs xs.length (Nat.le_refl _)
  rw [List.take_of_length_le (Nat.le_refl _)] at p2
  have o1 := srt_pw (swo_of h) xs
  have o2 : (isoL c xs xs.length).Pairwise fun x y => ¬ c y x < 0 := (isoL_ord (c := c) h (B := fun _ _ => True) (xs := xs) (List.pairwise_of_forall fun _ _ => trivial) xs.length (Nat.le_refl _)).imp fun {x y} q => by
    have a1 := h.anti x y
    have a2 := h.anti y x
    rcases q with q | q
    · omega
    · have := q.1; omega
  refine List.Perm.eq_of_pairwise (le := fun x y => ¬ c y x < 0) (fun a b _ _ q1 q2 => ht a b ?_) o1 o2 (p1.trans p2.symm)
  have a1 := h.anti a b
  have a2 := h.anti b a
  omega


-- impl.firstReadings
theorem tl_inj {a b : ByteArray} (q : a.toList = b.toList) : a = b := by
  rw [Lib.toList_data, Lib.toList_data] at q
  cases a; cases b
  simp only [ByteArray.mk.injEq]
  exact Array.toList_inj.1 q
theorem sfNI (x : Int) (w : World) : Calls Tryz.prog 77 #[.int .i64 x] w fun e w' => e = .returned (.bool false) ∧ w' = w := by
  go_enter Tryz.func77, Tryz.ntmps77
  go_wp2
  go_ret
  exact ⟨by simp, rfl⟩
theorem sfCI (x y : Int) (w : World) : Calls Tryz.prog 62 #[.int .i64 x, .int .i64 y] w fun e w' => e = .returned (.int .i64 (cmpI x y)) ∧ w' = w := by
  go_enter Tryz.func62, Tryz.ntmps62
  go_wp2_with (go_at_call 77; refine (sfNI _ _).mono ?_; rintro e w' ⟨rfl, hw⟩; rw [hw])
  all_goals (go_ret; refine ⟨?_, rfl⟩; congr 2; unfold cmpI; (repeat' split) <;> first | rfl | (exfalso; omega))

theorem sfNJ (x : Int) (w : World) : Calls Tryz.prog 78 #[.int .i64 x] w fun e w' => e = .returned (.bool false) ∧ w' = w := by
  go_enter Tryz.func78, Tryz.ntmps78
  go_wp2
  go_ret
  exact ⟨by simp, rfl⟩
theorem sfCJ (x y : Int) (w : World) : Calls Tryz.prog 63 #[.int .i64 x, .int .i64 y] w fun e w' => e = .returned (.int .i64 (cmpI x y)) ∧ w' = w := by
  go_enter Tryz.func63, Tryz.ntmps63
  go_wp2_with (go_at_call 78; refine (sfNJ _ _).mono ?_; rintro e w' ⟨rfl, hw⟩; rw [hw])
  all_goals (go_ret; refine ⟨?_, rfl⟩; congr 2; unfold cmpI; (repeat' split) <;> first | rfl | (exfalso; omega))

theorem sfNS (x : ByteArray) (w : World) : Calls Tryz.prog 76 #[.string x] w fun e w' => e = .returned (.bool false) ∧ w' = w := by
  go_enter Tryz.func76, Tryz.ntmps76
  go_wp2
  go_ret
  exact ⟨by simp, rfl⟩
theorem sfCS (x y : ByteArray) (w : World) : Calls Tryz.prog 60 #[.string x, .string y] w fun e w' => e = .returned (.int .i64 (cmpS x y)) ∧ w' = w := by
  go_enter Tryz.func60, Tryz.ntmps60
  go_wp2_with (go_at_call 76; refine (sfNS _ _).mono ?_; rintro e w' ⟨rfl, hw⟩; rw [hw])
  all_goals (go_ret; refine ⟨?_, rfl⟩; congr 2; unfold cmpS sless; (repeat' split) <;> first | rfl | (exfalso; simp_all; done) | (exfalso; rename_i h1 h2 h3; exact h3.2 (tl_inj (by simpa using h1))))

theorem sfOr (b n c : Nat) (xs : List Int) (w : World) (hn : n = xs.length) (hc : n ≤ 9223372036854775807) (h : ∀ j, j < xs.length → w.cell? ⟨b, j, none⟩ = some (.int .i64 (at_ xs j))) : Calls Tryz.prog 61 #[.slice (some ⟨b, 0, none⟩) n c] w fun e w' => e = .returned (.int .i64 (orL xs)) ∧ w' = w := by
  go_enter Tryz.func61, Tryz.ntmps61
  go_wp2
  go_loop [8] (fun i => ∃ k : Nat, k ≤ n ∧ i = .int .i64 k ∧ ∀ j, j < k → at_ xs j = 0) (fun i => n - (intOf i).toNat)
  case atStart => exact ⟨0, Nat.zero_le _, rfl, fun j hj => absurd hj (Nat.not_lt_zero _)⟩
  case round =>
    obtain ⟨k, hk, rfl, hz⟩ := hrel
    by_cases hlt : k < n
    · have ck := h k (by omega)
      have S : Hid (at_ xs k = 0 → ∀ j, j < k + 1 → at_ xs j = 0) := fun q j hj => by
        by_cases e : j = k
        · rw [e]; exact q
        · exact hz j (by omega)
      have T : Hid (at_ xs k ≠ 0 → orL xs = at_ xs k) := fun q => orL_at (by omega) hz q
      generalize at_ xs k = v at ck S T
      clear h hz
      by_cases hv : v = 0
      · have S2 : Hid (∀ j, j < k + 1 → at_ xs j = 0) := S.out hv
        clear S T
        subst hv
        go_wp2
        exact ⟨⟨k + 1, by omega, rfl, S2.out⟩, by simp [intOf]; omega⟩
      · have T2 : Hid (orL xs = v) := T.out hv
        clear S T
        go_wp2
        go_ret
        exact ⟨by rw [T2.out]; rfl, rfl⟩
    · have : k = n := by omega
      subst this
      have T : Hid (orL xs = 0) := orL_none (fun j hj => hz j (by omega))
      clear h hz
      go_wp2
      all_goals (go_ret; exact ⟨by rw [T.out]; rfl, rfl⟩)

def sfeRdg (x : Reading) : List Value := [.string x.Text, .int .i64 x.Cost]
theorem srRcmp (x y : Reading) (w : World) : Calls Tryz.prog 73 (#[.agg (sfeRdg x).toArray, .agg (sfeRdg y).toArray] ++ #[]) w fun e w' => e = .returned (.int .i64 (cmpR x y)) ∧ ∃ q os', w' = Go.Sort.grow (w.drewN q) os' := by
  show Calls Tryz.prog 73 #[.agg #[.string x.Text, .int .i64 x.Cost], .agg #[.string y.Text, .int .i64 y.Cost]] w _
  go_enter Tryz.func73, Tryz.ntmps73
  go_wp2
  refine wp_region_split_lit 17 (by kernel_rfl) (by kernel_rfl) (by kernel_rfl) ?_
  repeat (quiet_step (first | (go_at_call 62; exact Calls.quiet_of_same (sfCI _ _ _)) | (go_at_call 63; exact Calls.quiet_of_same (sfCJ _ _ _)) | (go_at_call 60; exact Calls.quiet_of_same (sfCS _ _ _))))
  refine wpQuiet_nil ?_
  intro _ hw'
  obtain ⟨nq, hw''⟩ := hw'
  subst hw''
  simp only [List.drop_succ_cons, List.drop_zero]
  go_wp2_with fail
  refine (sfOr _ _ _ [cmpI x.Cost y.Cost, cmpI (x.Text.size : Int) (y.Text.size : Int), cmpS x.Text y.Text] _ rfl (by simp) (fun j hj => ?_)).mono ?_
  · have hj2 : j = 0 ∨ j = 1 ∨ j = 2 := by
      simp at hj; omega
    have e : ∀ (a b c : Obj), (((w.heap.push a).push b).push c)[w.heap.size + 1 + 1]? = some c := fun a b c => by rw [Array.getElem?_push, if_pos (by simp)]
    unfold World.cell?
    rcases hj2 with rfl | rfl | rfl <;> (erw [e]; rfl)
  rintro e w' ⟨rfl, rfl⟩
  go_wp2
  go_ret
  refine ⟨rfl, nq, #[.cells #[Value.string x.Text, Value.int IntKind.i64 x.Cost] 88 (0, 0), .cells #[Value.string y.Text, Value.int IntKind.i64 y.Cost] 88 (0, 0), .cells #[Value.int IntKind.i64 (cmpI x.Cost y.Cost), Value.int IntKind.i64 (cmpI (x.Text.size : Int) (y.Text.size : Int)), Value.int IntKind.i64 (cmpS x.Text y.Text)] 3 (0, 0)], ?_⟩
  have e : ∀ (a b c : Obj), ((w.heap.push a).push b).push c = w.heap ++ #[a, b, c] := fun a b c => Array.toList_inj.1 (by simp)
  unfold Go.Sort.grow
  show World.mk (((w.heap.push _).push _).push _) w.tape (w.drawn + nq) w.os w.output = World.mk (w.heap ++ #[_, _, _]) w.tape (w.drawn + nq) w.os w.output
  rw [e]

theorem srRsort_ok (data : List Reading) (hl : data.length ≤ 4000000) : ∃ (data' : List Reading), (data' = isoL cmpR data data.length) ∧ CallOK Tryz.prog 72 [.arr 8621, .fn 73 []] (lookO [(8621, tAReading data)]) true (.tup []) (lookO [(8621, tAReading data')]) := by
  refine ⟨srtF cmpR data, srt_iso cmpR_w cmpR_tot data, ?_⟩
  exact sortf_callOK (enc := sfeRdg) (kc := 2) (by decide) (fun _ => rfl) (fun x v hv => by simp only [sfeRdg, List.mem_cons, List.not_mem_nil, or_false] at hv; rcases hv with rfl | rfl <;> rfl) (cf := cmpR) (swo_of cmpR_w)
    (fun blk off cap d w h1 h2 h3 => AnyQ.slices_SortFunc_eq Tryz.laysSfRdg 2 (fun w => run_isAgg (by kernel_rfl) w) (fun w => run_sizeOf (by kernel_rfl) w) sfeRdg (fun _ => rfl) (fun x v hv => by simp only [sfeRdg, List.mem_cons, List.not_mem_nil, or_false] at hv; rcases hv with rfl | rfl <;> rfl) cmpR (swo_of cmpR_w) 73 #[] blk off cap d w (enters_of Tryz.func73 (by kernel_rfl) rfl) (fun m os dk hdk x y => srRcmp x y _) h1 h2 h3)
    (fun p cap fv w => AnyF.slices_SortFunc_none Tryz.laysSfRdg p cap fv w) 8621 data (by omega)

theorem firstR_ok (list : List Reading) (k : Int) (hl : list.length ≤ 4000000) (hk : 0 ≤ k ∧ k ≤ 4000000) : ∃ (list' : List Reading) (out : List Reading), (out = frL k.toNat list) ∧ CallOK Tryz.prog 50 [.arr 8621, I k] (lookO [(8621, tAReading list)]) false (.arr 8622) (lookO [(8621, tAReading list'), (8622, tAReading out)]) := by
  have hh : ∃ r : (List Reading) × (List Reading), ((r.2 = frL k.toNat list) ∧ (True)) ∧ CallOK Tryz.prog 50 [.arr 8621, I k] (lookO [(8621, tAReading list)]) false (.arr 8622) (lookO [(8621, tAReading r.1), (8622, tAReading r.2)]) := by
    refine fn_okX (Φ := fun r : (List Reading) × (List Reading) => (r.2 = frL k.toNat list) ∧ (True)) [(8621, tAReading list)] (fun r => [(8621, tAReading r.1), (8622, tAReading r.2)]) (fn := Tryz.f50) (nt := 38) Tryz.func50 rfl rfl (args := [.arr 8621, I k]) rfl (allcons (.inr trivial) (allcons (.inl ⟨rfl, trivial⟩) allnil)) (res := fun r => .arr 8622) ?_
    refine xR [] [0, 1] [8621] [.arr 8621, I k] [some (tAReading list)] [] trivial ?_
    refine x_seq ?_
    obtain ⟨data'_1, hx1_0, hc1⟩ := srRsort_ok list (by omega)
    have hys := hx1_0
    have hyl : data'_1.length = list.length := by rw [hys, isoL_len]
    refine x_r [(1, .lend [(8621, tAReading list, tAReading data'_1)] [] [(true, .any), (true, .any)] true (.tup []))] [0, 1] [8621] [.arr 8621, I k] [some (tAReading data'_1)] [CallOK Tryz.prog 72 [.arr 8621, .fn 73 []] (lookO [(8621, tAReading list)]) true (.tup []) (lookO [(8621, tAReading data'_1)]) ∧ (((tAReading list : Ob) = tAReading list ∨ obLe noOb true (tAReading list) (tAReading list)) ∧ taggedO false (tAReading list)) ∧ True] ⟨⟨hc1, ⟨.inl rfl, fun _ _ => tagcReading false _⟩, trivial⟩, trivial⟩ ?_
    refine xe_then ?_
    refine xR [(0, .new 11)] [0, 1, 5] [11, 8621] [.arr 8621, I k, .mapr 11] [some (.set ([] : List ByteArray)), some (tAReading data'_1)] [] trivial ?_
    refine xR [] [0, 1, 5, 6] [11, 8621] [.arr 8621, I k, .mapr 11, nilA] [some (.set ([] : List ByteArray)), some (tAReading data'_1)] [] trivial ?_
    refine x_seq ?_
    refine xR [] [1, 5, 6, 12, 13, 14] [11, 8621] [I k, .mapr 11, nilA, .arr 8621, I (data'_1.length : Int), I 0] [some (.set ([] : List ByteArray)), some (tAReading data'_1)] [] trivial ?_
    refine x_block ?_
    refine x_nil 6 706 2 (fun _ => []) (by kernel_rfl) ?_
    refine x_weak [] (T := [(1, I k), (5, .mapr 11), (6, .arr 706), (12, .arr 8621), (13, I (data'_1.length : Int)), (14, I 0)]) (O := [(11, .set ([] : List ByteArray)), (706, tAReading ([] : List Reading)), (8621, tAReading data'_1)]) rfl (⟨.inl rfl, .inl rfl, .inl rfl, .inl rfl, .inl rfl, .inl rfl, trivial⟩) (⟨.inl rfl, .inr ⟨rfl, (by first | rfl | (simp; done) | (simp; omega) | omega), fun i_ hi_ => absurd hi_ (Nat.not_lt_zero _)⟩, .inl rfl, trivial⟩) ?_
    refine x_loop (X := (List Reading) × Int × (List ByteArray)) (fun x => mkS [(1, I k), (5, .mapr 11), (6, .arr 706), (12, .arr 8621), (13, I (data'_1.length : Int)), (14, I x.2.1)] [(11, .set x.2.2), (706, tAReading x.1), (8621, tAReading data'_1)]) (fun x => (0 ≤ x.2.1 ∧ x.2.1 ≤ (data'_1.length : Int)) ∧ (x.1 = frI k.toNat data'_1 x.2.1.toNat) ∧ (x.2.2 = x.1.map Reading.Text) ∧ True) (fun x => ((data'_1.length : Int) - x.2.1).toNat) (([] : List Reading), 0, ([] : List ByteArray)) rfl (show (0 ≤ (0 : Int) ∧ (0 : Int) ≤ (data'_1.length : Int)) ∧ (([] : List Reading) = frI k.toNat data'_1 (0 : Int).toNat) ∧ (([] : List ByteArray) = ([] : List Reading).map Reading.Text) ∧ True from ⟨(by omega), (by rfl), (by rfl), trivial⟩) (fun x hI => ?_)
    obtain ⟨out, t14, ks⟩ := x
    obtain ⟨hi0, hou, hks, _⟩ : (0 ≤ t14 ∧ t14 ≤ (data'_1.length : Int)) ∧ (out = frI k.toNat data'_1 t14.toNat) ∧ (ks = out.map Reading.Text) ∧ True := hI
    show XW _ _ _ _ (mkS [(1, I k), (5, .mapr 11), (6, .arr 706), (12, .arr 8621), (13, I (data'_1.length : Int)), (14, I t14)] [(11, .set ks), (706, tAReading out), (8621, tAReading data'_1)]) _ _
    refine x_seq ?_
    by_cases h1 : t14 < (data'_1.length : Int)
    ·have hi : t14.toNat < data'_1.length := by omega
     have hii : (t14 + 1).toNat = t14.toNat + 1 := by omega
     have hfl := frI_len k.toNat data'_1 t14.toNat
     rw [← hou] at hfl
     refine x_r [(0, .dec true)] [1, 5, 6, 12, 13, 14, 15] [11, 706, 8621] [I k, .mapr 11, .arr 706, .arr 8621, I (data'_1.length : Int), I t14, Bv true] [some (.set ks), some (tAReading out), some (tAReading data'_1)] [t14 < (data'_1.length : Int)] ⟨h1, trivial⟩ ?_
     refine xe_then ?_
     refine x_seq ?_
     refine x_true rfl ?_
     refine x_skip ?_
     refine xe_then ?_
     refine x_seq ?_
     refine x_block ?_
     refine xR [(2, .new 8)] [1, 5, 6, 8, 12, 13, 14] [8, 11, 706, 8621] [I k, .mapr 11, .arr 706, .ref 8 0, .arr 8621, I (data'_1.length : Int), I t14] [some (bxReading (at_ data'_1 t14.toNat)), some (.set ks), some (tAReading out), some (tAReading data'_1)] [(0 : Int) ≤ t14 ∧ t14 < (data'_1.length : Int), t14.toNat < data'_1.length] ⟨⟨(by omega), (by omega)⟩, (by omega), trivial⟩ ?_
     refine x_seq ?_
     by_cases h2 : (out.length : Int) < k
     ·by_cases h3 : ((at_ data'_1 t14.toNat).Text) ∈ ks
      ·refine x_r [(3, .dec true), (8, .dec true)] [1, 5, 6, 8, 12, 13, 14, 28] [8, 11, 706, 8621] [I k, .mapr 11, .arr 706, .ref 8 0, .arr 8621, I (data'_1.length : Int), I t14, Bv false] [some (bxReading (at_ data'_1 t14.toNat)), some (.set ks), some (tAReading out), some (tAReading data'_1)] [(out.length : Int) < k, ((at_ data'_1 t14.toNat).Text) ∈ ks] ⟨h2, h3, trivial⟩ ?_
       refine xe_then ?_
       refine x_false rfl ?_
       refine x_skip ?_
       refine xe_block 1 ?_
       refine xe_then ?_
       refine x_r [] [1, 5, 6, 12, 13, 14] [11, 706, 8621] [I k, .mapr 11, .arr 706, .arr 8621, I (data'_1.length : Int), I (t14 + 1)] [some (.set ks), some (tAReading out), some (tAReading data'_1)] [inR .i64 (t14 + 1)] ⟨(inR_i64 (by omega) (by omega)), trivial⟩ ?_
       exact xe_again (out, (t14 + 1), ks) rfl (show (0 ≤ (t14 + 1) ∧ (t14 + 1) ≤ (data'_1.length : Int)) ∧ (out = frI k.toNat data'_1 (t14 + 1).toNat) ∧ (ks = out.map Reading.Text) ∧ True from ⟨(by omega), (by rw [hii]; first | exact fr_y hou hks (by omega) (by assumption) | exact fr_n1 hou (by omega) | exact fr_n2 hou hks (by assumption)), (by first | exact hks | (rw [hks, List.map_append]; rfl)), trivial⟩) (by first | (show (((data'_1.length : Int) - (t14 + 1)).toNat : Nat) < ((data'_1.length : Int) - t14).toNat; omega) | (dsimp only; omega))
      refine x_r [(3, .dec true), (8, .dec false)] [1, 5, 6, 8, 12, 13, 14, 28] [8, 11, 706, 8621] [I k, .mapr 11, .arr 706, .ref 8 0, .arr 8621, I (data'_1.length : Int), I t14, Bv true] [some (bxReading (at_ data'_1 t14.toNat)), some (.set ks), some (tAReading out), some (tAReading data'_1)] [(out.length : Int) < k, ¬ (((at_ data'_1 t14.toNat).Text) ∈ ks)] ⟨h2, h3, trivial⟩ ?_
      refine xe_then ?_
      refine x_true rfl ?_
      refine xR [] [1, 5, 6, 8, 12, 13, 14] [8, 11, 706, 8621] [I k, .mapr 11, .arr 706, .ref 8 0, .arr 8621, I (data'_1.length : Int), I t14] [some (bxReading (at_ data'_1 t14.toNat)), some (.set (ks ++ [(at_ data'_1 t14.toNat).Text])), some (tAReading out), some (tAReading data'_1)] [¬ (((at_ data'_1 t14.toNat).Text) ∈ ks)] ⟨h3, trivial⟩ ?_
      refine x_r [(2, .new 34), (3, .new 35)] [1, 5, 6, 12, 13, 14] [11, 35, 8621] [I k, .mapr 11, .arr 35, .arr 8621, I (data'_1.length : Int), I t14] [some (.set (ks ++ [(at_ data'_1 t14.toNat).Text])), some (.arr 2 (out.length + 1) (catF out.length (fReading out) (litF [Sv ((at_ data'_1 t14.toNat).Text), I ((at_ data'_1 t14.toNat).Cost)] 2))), some (tAReading data'_1)] [(out.length + 1) * 24 ≤ 140737488355328] ⟨(by omega), trivial⟩ ?_
      refine xe_block 1 ?_
      refine xe_then ?_
      refine x_r [] [1, 5, 6, 12, 13, 14] [11, 35, 8621] [I k, .mapr 11, .arr 35, .arr 8621, I (data'_1.length : Int), I (t14 + 1)] [some (.set (ks ++ [(at_ data'_1 t14.toNat).Text])), some (.arr 2 (out.length + 1) (catF out.length (fReading out) (litF [Sv ((at_ data'_1 t14.toNat).Text), I ((at_ data'_1 t14.toNat).Cost)] 2))), some (tAReading data'_1)] [inR .i64 (t14 + 1)] ⟨(inR_i64 (by omega) (by omega)), trivial⟩ ?_
      refine xe_weak [(706, 35)] (T := [(1, I k), (5, .mapr 11), (6, .arr 706), (12, .arr 8621), (13, I (data'_1.length : Int)), (14, I (t14 + 1))]) (O := [(11, .set (ks ++ [(at_ data'_1 t14.toNat).Text])), (706, tAReading (out ++ [(at_ data'_1 t14.toNat)])), (8621, tAReading data'_1)]) rfl (⟨.inl rfl, .inl rfl, .inl rfl, .inl rfl, .inl rfl, .inl rfl, trivial⟩) (⟨.inl rfl, .inr ⟨rfl, (by first | rfl | (simp; done) | (simp; omega) | omega), fun i_ hi_ => .inl (cat_snoc (enc := cReading) (xs := out) rfl i_ hi_)⟩, .inl rfl, trivial⟩) (xe_again ((out ++ [(at_ data'_1 t14.toNat)]), (t14 + 1), (ks ++ [(at_ data'_1 t14.toNat).Text])) rfl (show (0 ≤ (t14 + 1) ∧ (t14 + 1) ≤ (data'_1.length : Int)) ∧ ((out ++ [(at_ data'_1 t14.toNat)]) = frI k.toNat data'_1 (t14 + 1).toNat) ∧ ((ks ++ [(at_ data'_1 t14.toNat).Text]) = (out ++ [(at_ data'_1 t14.toNat)]).map Reading.Text) ∧ True from ⟨(by omega), (by rw [hii]; first | exact fr_y hou hks (by omega) (by assumption) | exact fr_n1 hou (by omega) | exact fr_n2 hou hks (by assumption)), (by first | exact hks | (rw [hks, List.map_append]; rfl)), trivial⟩) (by first | (show (((data'_1.length : Int) - (t14 + 1)).toNat : Nat) < ((data'_1.length : Int) - t14).toNat; omega) | (dsimp only; omega)))
     refine x_r [(3, .dec false)] [1, 5, 6, 8, 12, 13, 14, 28] [8, 11, 706, 8621] [I k, .mapr 11, .arr 706, .ref 8 0, .arr 8621, I (data'_1.length : Int), I t14, Bv false] [some (bxReading (at_ data'_1 t14.toNat)), some (.set ks), some (tAReading out), some (tAReading data'_1)] [¬ ((out.length : Int) < k)] ⟨h2, trivial⟩ ?_
     refine xe_then ?_
     refine x_false rfl ?_
     refine x_skip ?_
     refine xe_block 1 ?_
     refine xe_then ?_
     refine x_r [] [1, 5, 6, 12, 13, 14] [11, 706, 8621] [I k, .mapr 11, .arr 706, .arr 8621, I (data'_1.length : Int), I (t14 + 1)] [some (.set ks), some (tAReading out), some (tAReading data'_1)] [inR .i64 (t14 + 1)] ⟨(inR_i64 (by omega) (by omega)), trivial⟩ ?_
     exact xe_again (out, (t14 + 1), ks) rfl (show (0 ≤ (t14 + 1) ∧ (t14 + 1) ≤ (data'_1.length : Int)) ∧ (out = frI k.toNat data'_1 (t14 + 1).toNat) ∧ (ks = out.map Reading.Text) ∧ True from ⟨(by omega), (by rw [hii]; first | exact fr_y hou hks (by omega) (by assumption) | exact fr_n1 hou (by omega) | exact fr_n2 hou hks (by assumption)), (by first | exact hks | (rw [hks, List.map_append]; rfl)), trivial⟩) (by first | (show (((data'_1.length : Int) - (t14 + 1)).toNat : Nat) < ((data'_1.length : Int) - t14).toNat; omega) | (dsimp only; omega))
    have hfin : out = frL k.toNat list := by rw [hou, show t14.toNat = data'_1.length from by omega, hys, isoL_len]; rfl
    refine x_r [(0, .dec false)] [1, 5, 6, 12, 13, 14, 15] [11, 706, 8621] [I k, .mapr 11, .arr 706, .arr 8621, I (data'_1.length : Int), I t14, Bv false] [some (.set ks), some (tAReading out), some (tAReading data'_1)] [¬ (t14 < (data'_1.length : Int))] ⟨h1, trivial⟩ ?_
    refine xe_then ?_
    refine x_seq ?_
    refine x_false rfl ?_
    refine x_exit ?_
    refine xe_exit_then ?_
    refine xe_loop_exit ?_
    refine xe_exit_same ?_
    refine xe_then ?_
    refine xR [] [4] [706, 8621] [.arr 706] [some (tAReading out), some (tAReading data'_1)] [] trivial ?_
    refine x_ret ?_
    refine xe_weak [(8622, 706)] (T := [(4, .arr 8622)]) (O := [(8621, tAReading data'_1), (8622, tAReading out)]) rfl (⟨.inl rfl, trivial⟩) (⟨.inl rfl, .inl rfl, trivial⟩) ?_
    refine xe_end (data'_1, out) (show (out = frL k.toNat list) ∧ (True) from ⟨(by exact hfin), trivial⟩) (⟨.inl rfl, .inl rfl, trivial⟩) (.arr 8622) (by kernel_rfl) (.inl rfl) (fun h => by cases h) (fun h => by cases h)
  obtain ⟨⟨list', out⟩, ⟨hh0, _⟩, hc⟩ := hh
  exact ⟨list', out, hh0, hc⟩



def bmC (p : ByteArray → Bool) (l : Lattice) (T : List (List Reading)) (n : Nat) : Nat → List Reading
  | 0 => []
  | i + 1 => if (at_ l.Edges i).To = (n : Int) then bmC p l T n i ++ exr p (at_ l.Edges i) (at_ T (at_ l.Edges i).From.toNat) (at_ T (at_ l.Edges i).From.toNat).length else bmC p l T n i
def bmT (p : ByteArray → Bool) (l : Lattice) (w : Nat) (T0 : List (List Reading)) : Nat → List (List Reading)
  | 0 => T0
  | k + 1 => (bmT p l w T0 k).set (k + 1) (frL w (bmC p l (bmT p l w T0 k) (k + 1) l.Edges.length))
def bm0 (l : Lattice) (lx : Lexicon) : List (List Reading) := if 0 < lx.Entries.length then tb0 l else List.replicate l.Nodes.toNat []
def beamT (l : Lattice) (lx : Lexicon) (w : Nat) : List (List Reading) := bmT (begB lx) l w (bm0 l lx) (l.Nodes.toNat - 1)
theorem bm0_ok {l : Lattice} (hl : okLat l) (lx : Lexicon) : okT l 1 (bm0 l lx) ∧ ∀ j, j < l.Nodes.toNat → ∀ x ∈ at_ (bm0 l lx) j, pth l j x := by
  unfold bm0
  split
  · exact ⟨okT_0 hl, fun j hj x hx => by obtain ⟨a, b⟩ := (tb0_mem hl hj x).1 hx; exact (pth_iff hl hj x).2 (.inl ⟨a, b⟩)⟩
  · refine ⟨⟨List.length_replicate, fun j hj => by rw [at_rep hj]; exact ⟨Nat.zero_le _, fun x hx => (by cases hx)⟩⟩, fun j hj x hx => by rw [at_rep hj] at hx; cases hx⟩
theorem bmC_mem {p : ByteArray → Bool} {l : Lattice} (hl : okLat l) {T : List (List Reading)} {n : Nat} {x : Reading} : ∀ i, i ≤ l.Edges.length → x ∈ bmC p l T n i → ∃ e ∈ l.Edges, e.To = (n : Int) ∧ ∃ r ∈ at_ T e.From.toNat, x = rdr e r
  | 0, _, h => by cases h
  | i + 1, hi, h => by
    unfold bmC at h
    split at h
    · rename_i q
      rcases List.mem_append.1 h with z | z
      · exact bmC_mem hl i (by omega) z
      · unfold exr at z
        obtain ⟨r, hr, rfl⟩ := List.mem_map.1 (List.mem_filter.1 z).1
        exact ⟨_, at_mem (by omega), q, r, List.mem_of_mem_take hr, rfl⟩
    · exact bmC_mem hl i (by omega) h
theorem bmC_len {p : ByteArray → Bool} {l : Lattice} {T : List (List Reading)} {n B : Nat} (hB : ∀ j, (at_ T j).length ≤ B) : ∀ i, (bmC p l T n i).length ≤ B * i
  | 0 => Nat.zero_le _
  | i + 1 => by
    have ih := bmC_len (p := p) (l := l) (n := n) hB i
    unfold bmC
    split
    · rw [List.length_append]
      have a := (exr_len p (at_ l.Edges i) (at_ T (at_ l.Edges i).From.toNat) (at_ T (at_ l.Edges i).From.toNat).length).2
      have b := hB (at_ l.Edges i).From.toNat
      rw [Nat.mul_succ]; omega
    · rw [Nat.mul_succ]; omega
theorem at_over {α : Type} [Inhabited α] {xs : List α} {j : Nat} (h : xs.length ≤ j) : at_ xs j = default := by simp [at_, h]
theorem bmT_ok {l : Lattice} (hl : okLat l) (lx : Lexicon) {w : Nat} (hw : 1 ≤ w) {p : ByteArray → Bool} : ∀ k, k < l.Nodes.toNat → okT l w (bmT p l w (bm0 l lx) k) ∧ ∀ j, j < l.Nodes.toNat → ∀ x ∈ at_ (bmT p l w (bm0 l lx) k) j, pth l j x
  | 0, _ => ⟨okT_mono (bm0_ok hl lx).1 hw, (bm0_ok hl lx).2⟩
  | k + 1, hk => by
    have ih := bmT_ok hl lx hw (p := p) k (by omega)
    have hp : ∀ j, j < l.Nodes.toNat → ∀ x ∈ at_ (bmT p l w (bm0 l lx) (k + 1)) j, pth l j x := fun j hj x hx => by
      replace hx : x ∈ at_ ((bmT p l w (bm0 l lx) k).set (k + 1) _) j := hx
      by_cases e : j = k + 1
      · subst e
        rw [at_set_same (by rw [ih.1.1]; exact hj)] at hx
        obtain ⟨e, he, a, r, hr, rfl⟩ := bmC_mem hl l.Edges.length (Nat.le_refl _) (frL_mem hx)
        have b := (ed_ok hl he).1
        exact (pth_iff hl hj _).2 (.inr ⟨e, he, a, r, ih.2 _ (by omega) r hr, rfl⟩)
      · rw [at_set_oth e] at hx
        exact ih.2 j hj x hx
    refine ⟨⟨by show ((bmT p l w (bm0 l lx) k).set _ _).length = _; rw [List.length_set]; exact ih.1.1, fun j hj => ⟨?_, fun x hx => ?_⟩⟩, hp⟩
    · show (at_ ((bmT p l w (bm0 l lx) k).set (k + 1) _) j).length ≤ w
      by_cases e : j = k + 1
      · subst e; rw [at_set_same (by rw [ih.1.1]; exact hj)]; exact (frL_len _ _).1
      · rw [at_set_oth e]; exact (ih.1.2 j hj).1
    · have := pth_bd hl _ _ (Nat.le_refl _) hj x (hp j hj x hx)
      exact ⟨this.1, this.2.1, by omega⟩
theorem row_le {l : Lattice} {B : Nat} {T : List (List Reading)} (h : okT l B T) (j : Nat) : (at_ T j).length ≤ B := by
  by_cases hj : j < l.Nodes.toNat
  · exact (h.2 j hj).1
  · rw [at_over (by rw [h.1]; omega)]; exact Nat.zero_le _
theorem bmC_y {p : ByteArray → Bool} {l : Lattice} {T : List (List Reading)} {n i : Nat} (h : (at_ l.Edges i).To = (n : Int)) : bmC p l T n i ++ exr p (at_ l.Edges i) (at_ T (at_ l.Edges i).From.toNat) (at_ T (at_ l.Edges i).From.toNat).length = bmC p l T n (i + 1) := by
  show _ = (if _ then _ else _)
  rw [if_pos h]
theorem bmC_n {p : ByteArray → Bool} {l : Lattice} {T : List (List Reading)} {n i : Nat} (h : ¬ (at_ l.Edges i).To = (n : Int)) : bmC p l T n i = bmC p l T n (i + 1) := by
  show _ = (if _ then _ else _)
  rw [if_neg h]
theorem exr_y {p : ByteArray → Bool} {e : Edge} {src : List Reading} {j : Nat} (h : j < src.length) (hp : p ((at_ src j).Text ++ e.Label) = true) : exr p e src j ++ [rdr e (at_ src j)] = exr p e src (j + 1) := by rw [exr_next h, if_pos hp]
theorem exr_n {p : ByteArray → Bool} {e : Edge} {src : List Reading} {j : Nat} (h : j < src.length) (hp : p ((at_ src j).Text ++ e.Label) = false) : exr p e src j = exr p e src (j + 1) := by rw [exr_next h, if_neg (by rw [hp]; decide), List.append_nil]
def bwI2 (lx : Lexicon) (rs : List Reading) : Nat → List Found
  | 0 => []
  | i + 1 => if (lx.Entries.any fun e => decide (e.Word = (at_ rs i).Text)) = true then bwI2 lx rs i ++ [⟨(at_ rs i).Text, (at_ rs i).Cost, entC lx (at_ rs i).Text⟩] else bwI2 lx rs i
theorem bw2_len (lx : Lexicon) (rs : List Reading) : ∀ i, (bwI2 lx rs i).length ≤ i
  | 0 => Nat.le_refl _
  | i + 1 => by
    have := bw2_len lx rs i
    unfold bwI2
    split
    · rw [List.length_append]; simp; omega
    · omega
theorem bw2_mem {lx : Lexicon} {rs : List Reading} {f : Found} : ∀ i, i ≤ rs.length → f ∈ bwI2 lx rs i → ∃ r ∈ rs, (lx.Entries.any fun e => decide (e.Word = r.Text)) = true ∧ f = ⟨r.Text, r.Cost, entC lx r.Text⟩
  | 0, _, h => by cases h
  | i + 1, hi, h => by
    unfold bwI2 at h
    split at h
    · rename_i q
      rcases List.mem_append.1 h with z | z
      · exact bw2_mem i (by omega) z
      · rw [List.mem_singleton] at z
        exact ⟨_, at_mem (by omega), q, z⟩
    · exact bw2_mem i (by omega) h
def beamF (l : Lattice) (lx : Lexicon) (w : Nat) : List Found := bwI2 lx (at_ (beamT l lx w) (l.Nodes - 1).toNat) (at_ (beamT l lx w) (l.Nodes - 1).toNat).length
theorem any_ent {lx : Lexicon} {w : ByteArray} : (lx.Entries.any fun e => decide (e.Word = w)) = true ↔ ∃ j, j < lx.Entries.length ∧ (at_ lx.Entries j).Word = w := by
  rw [List.any_eq_true]
  constructor
  · rintro ⟨e, he, h⟩
    obtain ⟨j, hj, q⟩ := List.getElem_of_mem he
    exact ⟨j, hj, by rw [at_eq hj, q]; exact of_decide_eq_true h⟩
  · rintro ⟨j, hj, h⟩
    exact ⟨_, at_mem hj, decide_eq_true h⟩
theorem beamF_ok {l : Lattice} (hl : okLat l) {lx : Lexicon} (hx : okLex lx) {w : Nat} (hw : 1 ≤ w) {f : Found} (h : f ∈ beamF l lx w) : okFd l lx f ∧ f.Own = entC lx f.Word := by
  have hN := hl.1
  obtain ⟨r, hr, a, rfl⟩ := bw2_mem _ (Nat.le_refl _) h
  have hp := (bmT_ok hl lx hw (p := begB lx) (l.Nodes.toNat - 1) (by omega)).2 (l.Nodes - 1).toNat (by omega) r hr
  obtain ⟨j, hj, e⟩ := any_ent.1 a
  have hc := ent_hit hx hj e
  have hb := pth_bd hl _ _ (Nat.le_refl _) (by omega) _ hp
  have he := ent_bd hx r.Text
  have ht := tcF_min hl (w := r.Text) (c := r.Cost) hp
  refine ⟨⟨⟨_, at_mem hj, e, hc.symm⟩, ?_, ht, ⟨hb.2.1, ?_⟩, he⟩, rfl⟩
  · show tcF l r.Text < _; omega
  · show r.Cost ≤ _; omega
def bmW (l : Lattice) (lx : Lexicon) (w : Nat) : Found := mnF (beamF l lx w) ((beamF l lx w).length - 1)
def sumMin (l : Lattice) (lx : Lexicon) (s : Int) : Prop := (∃ f ∈ rdA l lx, f.Path + f.Own = s) ∧ ∀ f ∈ rdA l lx, s ≤ f.Path + f.Own
theorem sumMin_uniq {l : Lattice} {lx : Lexicon} {s t : Int} (h : sumMin l lx s) (g : sumMin l lx t) : s = t := by
  obtain ⟨f, h1, h2⟩ := h.1
  obtain ⟨q, g1, g2⟩ := g.1
  have := h.2 q g1
  have := g.2 f h1
  omega
theorem okFd_rd {l : Lattice} (hl : okLat l) {lx : Lexicon} (hx : okLex lx) {f : Found} (h : okFd l lx f) : ∃ g ∈ rdA l lx, g.Path + g.Own ≤ f.Path + f.Own := by
  obtain ⟨e, he, h1, h2⟩ := h.1
  refine ⟨⟨e.Word, tcF l e.Word, e.Cost⟩, (rdA_mem hl hx).2 ⟨e, he, by rw [h1]; exact h.2.1, rfl⟩, ?_⟩
  have := h.2.2.1
  show tcF l e.Word + e.Cost ≤ _
  rw [h1, h2]; omega
def blOK (l : Lattice) (lx : Lexicon) (w : Nat) (v c : Int) : Prop := (c = 0 ∧ 0 < (beamF l lx w).length ∧ ∃ s, sumMin l lx s ∧ v = (bmW l lx w).Path + (bmW l lx w).Own - s ∧ 0 ≤ v ∧ v ≤ 100000000) ∨ (c = 3 ∧ (beamF l lx w).length = 0 ∧ v = 0)
theorem bl_uniq {l : Lattice} {lx : Lexicon} {w : Nat} {v c v' c' : Int} (h : blOK l lx w v c) (g : blOK l lx w v' c') : v = v' ∧ c = c' := by
  rcases h with ⟨h1, h2, s, h3, h4, _⟩ | ⟨h1, h2, h3⟩ <;> rcases g with ⟨g1, g2, t, g3, g4, _⟩ | ⟨g1, g2, g3⟩
  · have := sumMin_uniq h3 g3
    omega
  · omega
  · omega
  · omega


theorem beq_ne {i k : Nat} (h : i ≠ k) : Nat.beq i k = false := Bool.eq_false_iff.2 fun e => h (Nat.eq_of_beq_eq_true e)
theorem at_set_eq {α : Type} [Inhabited α] {xs : List α} {k : Nat} {c : α} (h : k < xs.length) : at_ (xs.set k c) k = c := by simp [at_, h]
theorem at_set_ne {α : Type} [Inhabited α] {xs : List α} {k i : Nat} {c : α} (h : i ≠ k) : at_ (xs.set k c) i = at_ xs i := by
  have : ¬ k = i := fun e => h e.symm
  simp [at_, this]
theorem le_row {ob : Nat → Option Ob} {F N sz p n : Nat} {m : Nat → Nat} {g : Nat → Nat → List AV} {fr : Bool} {f : Nat → List AV} (h : ob F = some (.fam N sz m g)) (hp : p < N) (hn : m p = n)
    (hf : ∀ i, i < n → g p i = f i ∨ (AV.idsL (f i) = [] ∧ leL (fun _ => none) false (g p i) (f i))) : le ob true (.row F p) (.sl fr sz n f) := by
  simp only [le, h]
  exact ⟨fun _ => trivial, hp, trivial, hn, hf⟩


def oLReadingc (F : Nat) (x : List Reading) (i : Nat) : List AV := [.row F i]
def oLReading (F : Nat) (xs : List (List Reading)) (i : Nat) : List AV := oLReadingc F (at_ xs i) i
def mLReading (xs : List (List Reading)) (p : Nat) : Nat := (at_ xs p).length
def gLReading (xs : List (List Reading)) (p : Nat) : Nat → List AV := fReading (at_ xs p)
abbrev tOLReading (F : Nat) (xs : List (List Reading)) : Ob := .oar [F] 1 xs.length (oLReading F xs)
abbrev tFLReading (xs : List (List Reading)) : Ob := .fam xs.length 2 (mLReading xs) (gLReading xs)
theorem oleLReading {ob : Nat → Option Ob} {F : Nat} (fr : Bool) (xs : List (List Reading)) (h : ob F = some (.fam xs.length 2 (mLReading xs) (gLReading xs))) : ∀ i, i < xs.length → AV.idsL (fLReading fr xs i) = [] ∧ leL ob true (oLReading F xs i) (fLReading fr xs i) :=
  fun i hi => And.intro rfl (And.intro (le_row h hi rfl (fun q _ => .inl rfl)) rfl)
theorem fnilLReading (n : Nat) {g : Nat → Nat → List AV} : n = (List.replicate n ([] : List Reading)).length ∧ 2 = 2 ∧ ∀ p, p < (List.replicate n ([] : List Reading)).length → (fun _ : Nat => (0 : Nat)) p = mLReading (List.replicate n ([] : List Reading)) p ∧ ∀ i, i < mLReading (List.replicate n ([] : List Reading)) p → g p i = gLReading (List.replicate n ([] : List Reading)) p i ∨ (AV.idsL (gLReading (List.replicate n ([] : List Reading)) p i) = [] ∧ leL (fun _ => none) false (g p i) (gLReading (List.replicate n ([] : List Reading)) p i)) := by
  refine ⟨by simp, rfl, fun p hp => ?_⟩
  have e : mLReading (List.replicate n ([] : List Reading)) p = 0 := by simp only [List.length_replicate] at hp; simp [mLReading, at_, hp]
  exact ⟨e.symm, fun i hi => by rw [e] at hi; exact absurd hi (Nat.not_lt_zero _)⟩
theorem fputLReading {xs : List (List Reading)} {P m1 : Nat} {ys : List Reading} {f1 : Nat → List AV} (hP : P < xs.length) (hm : m1 = ys.length) (hf : ∀ i, i < m1 → f1 i = fReading ys i) : xs.length = (xs.set P ys).length ∧ 2 = 2 ∧ ∀ p, p < (xs.set P ys).length → famUp P m1 (mLReading xs) p = mLReading (xs.set P ys) p ∧ ∀ i, i < mLReading (xs.set P ys) p → famUpF P f1 (gLReading xs) p i = gLReading (xs.set P ys) p i ∨ (AV.idsL (gLReading (xs.set P ys) p i) = [] ∧ leL (fun _ => none) false (famUpF P f1 (gLReading xs) p i) (gLReading (xs.set P ys) p i)) := by
  refine ⟨by simp, rfl, fun p hp => ?_⟩
  by_cases h : p = P
  · subst h
    have e : at_ (xs.set p ys) p = ys := at_set_eq hP
    refine ⟨?_, fun i hi => .inl ?_⟩
    · simp only [famUp, Nat.beq_refl, cond_true, mLReading, e]; exact hm
    · simp only [mLReading, e] at hi; simp only [famUpF, Nat.beq_refl, cond_true, gLReading, e]; exact hf i (by omega)
  · have e : at_ (xs.set P ys) p = at_ xs p := at_set_ne h
    have b := beq_ne h
    refine ⟨?_, fun i hi => .inl ?_⟩
    · simp only [famUp, b, cond_false, mLReading, e]
    · simp only [famUpF, b, cond_false, gLReading, e]

-- impl.beam
theorem beam_ok (l : Lattice) (lx : Lexicon) (width : Int) (hl : okLat l) (hx : okLex lx) (hw : 1 ≤ width ∧ width ≤ 30) : ∃ (v : List (List Reading)), (v = beamT l lx width.toNat) ∧ Con Tryz.prog 27 [agLattice l, .agg [slEntry false lx.Entries], I width] true (slLReading true v) := by
  have hn20 := hl.1
  have hc := hl.2.1
  have hlc := hx.1
  have hh : ∃ r : (List (List Reading)), ((r = beamT l lx width.toNat) ∧ (True)) ∧ CallOK Tryz.prog 27 [agLattice l, .agg [slEntry false lx.Entries], I width] (lookO []) true (slLReading true r) (lookO []) := by
    refine fn_okX (Φ := fun r : (List (List Reading)) => (r = beamT l lx width.toNat) ∧ (True)) [] (fun r => []) (fn := Tryz.f27) (nt := 80) Tryz.func27 rfl rfl (args := [agLattice l, .agg [slEntry false lx.Entries], I width]) rfl (allcons (.inl ⟨rfl, by simp [tagged, taggedL, tagEdge]⟩) (allcons (.inl ⟨rfl, by simp [tagged, taggedL, tagEntry]⟩) (allcons (.inl ⟨rfl, trivial⟩) allnil))) (res := fun r => slLReading true r) ?_
    refine xR [(0, .new 3), (1, .new 4)] [2, 3, 4] [3, 4] [I width, .ref 3 0, .ref 4 0] [some (bxLattice l), some (.box [slEntry false lx.Entries])] [] trivial ?_
    refine xR [(2, .new 17)] [2, 3, 4, 7] [3, 4, 17] [I width, .ref 3 0, .ref 4 0, .arr 17] [some (bxLattice l), some (.box [slEntry false lx.Entries]), some (.arr 1 l.Nodes.toNat (fun _ => [nilA]))] [(0 : Int) ≤ l.Nodes ∧ (l.Nodes : Int) ≤ l.Nodes ∧ (24 : Int) * l.Nodes ≤ 281474976710656 ∧ l.Nodes ≤ 9223372036854775807] ⟨⟨(by first | omega | (simp only [List.length_replicate, List.length_set]; omega)), (by first | omega | (simp only [List.length_replicate, List.length_set]; omega)), (by first | omega | (simp only [List.length_replicate, List.length_set]; omega)), (by first | omega | (simp only [List.length_replicate, List.length_set]; omega))⟩, trivial⟩ ?_
    refine x_seq ?_
    refine x_seq ?_
    refine x_famN 17 8661 2 rfl (fun q _ => ⟨_, rfl, rfl⟩) (by kernel_rfl) ?_
    refine x_weak [] (T := [(2, I width), (3, .ref 3 0), (4, .ref 4 0), (7, .arr 17)]) (O := [(3, bxLattice l), (4, .box [slEntry false lx.Entries]), (17, tOLReading 8661 (List.replicate l.Nodes.toNat ([] : List Reading))), (8661, tFLReading (List.replicate l.Nodes.toNat ([] : List Reading)))]) rfl (⟨.inl rfl, .inl rfl, .inl rfl, .inl rfl, trivial⟩) (⟨.inl rfl, .inl rfl, .inr ⟨rfl, rfl, (by simp), fun i hi => .inl rfl⟩, .inr (fnilLReading l.Nodes.toNat), trivial⟩) ?_
    by_cases h1 : 0 < (lx.Entries.length : Int)
    ·refine x_r [(3, .dec true)] [2, 3, 4, 7, 21] [3, 4, 17, 8661] [I width, .ref 3 0, .ref 4 0, .arr 17, Bv true] [some (bxLattice l), some (.box [slEntry false lx.Entries]), some (tOLReading 8661 (List.replicate l.Nodes.toNat ([] : List Reading))), some (tFLReading (List.replicate l.Nodes.toNat ([] : List Reading)))] [0 < (lx.Entries.length : Int)] ⟨h1, trivial⟩ ?_
     refine xe_then ?_
     refine x_true rfl ?_
     refine x_r [(2, .new 24)] [2, 3, 4, 7] [3, 4, 17, 24, 8661] [I width, .ref 3 0, .ref 4 0, .arr 17] [some (bxLattice l), some (.box [slEntry false lx.Entries]), some (.oar [8661, 24] 1 ((List.replicate l.Nodes.toNat ([] : List Reading)).length) (fun q => bif Nat.beq q 0 then [.arr 24] else (oLReading 8661 (List.replicate l.Nodes.toNat ([] : List Reading))) q)), some (.arr 2 1 (litF [Sv (⟨#[]⟩ : ByteArray), I 0] 2)), some (tFLReading (List.replicate l.Nodes.toNat ([] : List Reading)))] [(0 : Int) ≤ 0 ∧ 0 < (((List.replicate l.Nodes.toNat ([] : List Reading)).length) : Int), 0 < (List.replicate l.Nodes.toNat ([] : List Reading)).length] ⟨⟨(by first | omega | (simp only [List.length_replicate, List.length_set]; omega)), (by first | omega | (simp only [List.length_replicate, List.length_set]; omega))⟩, (by first | omega | (simp only [List.length_replicate, List.length_set]; omega)), trivial⟩ ?_
     refine xe_then ?_
     refine x_seq ?_
     refine x_seq ?_
     refine x_putrow 17 24 8661 0 rfl rfl rfl ((by first | omega | (simp only [List.length_replicate, List.length_set]; omega))) (by first | exact Nat.le_refl _ | omega) (fun q _ => ⟨fun e => by subst e; simp only [Nat.beq_refl, cond_true], fun e => by simp only [beq_ne e, cond_false]; rfl⟩) (by kernel_rfl) ?_
     refine x_weak [] (T := [(2, I width), (3, .ref 3 0), (4, .ref 4 0), (7, .arr 17)]) (O := [(3, bxLattice l), (4, .box [slEntry false lx.Entries]), (17, tOLReading 8661 ((List.replicate l.Nodes.toNat ([] : List Reading)).set 0 ([(Reading.mk (⟨#[]⟩ : ByteArray) 0)]))), (8661, tFLReading ((List.replicate l.Nodes.toNat ([] : List Reading)).set 0 ([(Reading.mk (⟨#[]⟩ : ByteArray) 0)])))]) rfl (⟨.inl rfl, .inl rfl, .inl rfl, .inl rfl, trivial⟩) (⟨.inl rfl, .inl rfl, .inr ⟨rfl, rfl, (by simp), fun i hi => .inl rfl⟩, .inr (fputLReading ((by first | omega | (simp only [List.length_replicate, List.length_set]; omega))) (by first | rfl | (simp; done) | (simp; omega)) (fun i_ h_ => (show ∀ i_ : Nat, i_ < ([(Reading.mk (⟨#[]⟩ : ByteArray) 0)] : List Reading).length → (litF [Sv (⟨#[]⟩ : ByteArray), I 0] 2) i_ = (fReading ([(Reading.mk (⟨#[]⟩ : ByteArray) 0)])) i_ from fun i_ hi_ => (match i_, hi_ with | 0, _ => rfl | (i + 1), h => absurd h (by simp))) i_ (by first | exact h_ | (simpa using h_)))), trivial⟩) ?_
     refine x_r [] [2, 3, 4, 7, 8] [3, 4, 17, 8661] [I width, .ref 3 0, .ref 4 0, .arr 17, I 1] [some (bxLattice l), some (.box [slEntry false lx.Entries]), some (tOLReading 8661 ((List.replicate l.Nodes.toNat ([] : List Reading)).set 0 ([(Reading.mk (⟨#[]⟩ : ByteArray) 0)]))), some (tFLReading ((List.replicate l.Nodes.toNat ([] : List Reading)).set 0 ([(Reading.mk (⟨#[]⟩ : ByteArray) 0)])))] [] trivial ?_
     refine xe_then ?_
     refine x_block ?_
     refine x_loop (X := Int × (List (List Reading))) (fun x => mkS [(2, I width), (3, .ref 3 0), (4, .ref 4 0), (7, .arr 17), (8, I x.1)] [(3, bxLattice l), (4, .box [slEntry false lx.Entries]), (17, tOLReading 8661 x.2), (8661, tFLReading x.2)]) (fun x => (1 ≤ x.1 ∧ x.1 ≤ l.Nodes) ∧ (x.2 = bmT (begB lx) l width.toNat (bm0 l lx) (x.1 - 1).toNat) ∧ True) (fun x => (l.Nodes - x.1).toNat) (1, ((List.replicate l.Nodes.toNat ([] : List Reading)).set 0 ([(Reading.mk (⟨#[]⟩ : ByteArray) 0)]))) rfl (show (1 ≤ (1 : Int) ∧ (1 : Int) ≤ l.Nodes) ∧ (((List.replicate l.Nodes.toNat ([] : List Reading)).set 0 ([(Reading.mk (⟨#[]⟩ : ByteArray) 0)])) = bmT (begB lx) l width.toNat (bm0 l lx) ((1 : Int) - 1).toNat) ∧ True from ⟨(by omega), (by first | exact (if_pos (by omega)).symm | exact (if_neg (by omega)).symm), trivial⟩) (fun x hI => ?_)
     obtain ⟨node, tb⟩ := x
     obtain ⟨hn0, htb, _⟩ : (1 ≤ node ∧ node ≤ l.Nodes) ∧ (tb = bmT (begB lx) l width.toNat (bm0 l lx) (node - 1).toNat) ∧ True := hI
     show XW _ _ _ _ (mkS [(2, I width), (3, .ref 3 0), (4, .ref 4 0), (7, .arr 17), (8, I node)] [(3, bxLattice l), (4, .box [slEntry false lx.Entries]), (17, tOLReading 8661 tb), (8661, tFLReading tb)]) _ _
     refine x_seq ?_
     refine x_seq ?_
     by_cases h2 : node < l.Nodes
     ·have hn : node.toNat < l.Nodes.toNat := by omega
      have hnn : (node + 1).toNat = node.toNat + 1 := by omega
      have hnm : (node - 1).toNat + 1 = node.toNat := by omega
      have hok := (bmT_ok hl lx (w := width.toNat) (by omega) (p := begB lx) (node - 1).toNat (by omega)).1
      rw [← htb] at hok
      have htl := hok.1
      have hrw := row_le hok
      refine x_r [(3, .dec true)] [2, 3, 4, 7, 8, 29] [3, 4, 17, 8661] [I width, .ref 3 0, .ref 4 0, .arr 17, I node, Bv true] [some (bxLattice l), some (.box [slEntry false lx.Entries]), some (tOLReading 8661 tb), some (tFLReading tb)] [node < l.Nodes] ⟨h2, trivial⟩ ?_
      refine xe_then ?_
      refine x_true rfl ?_
      refine x_skip ?_
      refine xe_then ?_
      refine x_seq ?_
      refine x_block ?_
      refine xR [] [2, 3, 4, 7, 8, 9] [3, 4, 17, 8661] [I width, .ref 3 0, .ref 4 0, .arr 17, I node, nilA] [some (bxLattice l), some (.box [slEntry false lx.Entries]), some (tOLReading 8661 tb), some (tFLReading tb)] [] trivial ?_
      refine x_seq ?_
      refine xR [] [2, 3, 4, 7, 8, 9, 33, 34, 35] [3, 4, 17, 8661] [I width, .ref 3 0, .ref 4 0, .arr 17, I node, nilA, slEdge false l.Edges, I (l.Edges.length : Int), I 0] [some (bxLattice l), some (.box [slEntry false lx.Entries]), some (tOLReading 8661 tb), some (tFLReading tb)] [] trivial ?_
      refine x_block ?_
      refine x_nil 9 709 2 (fun _ => []) (by kernel_rfl) ?_
      refine x_weak [] (T := [(2, I width), (3, .ref 3 0), (4, .ref 4 0), (7, .arr 17), (8, I node), (9, .arr 709), (33, slEdge false l.Edges), (34, I (l.Edges.length : Int)), (35, I 0)]) (O := [(3, bxLattice l), (4, .box [slEntry false lx.Entries]), (17, tOLReading 8661 tb), (709, tAReading ([] : List Reading)), (8661, tFLReading tb)]) rfl (⟨.inl rfl, .inl rfl, .inl rfl, .inl rfl, .inl rfl, .inl rfl, .inl rfl, .inl rfl, .inl rfl, trivial⟩) (⟨.inl rfl, .inl rfl, .inl rfl, .inr ⟨rfl, (by first | rfl | (simp; done) | (simp; omega) | omega), fun i_ hi_ => absurd hi_ (Nat.not_lt_zero _)⟩, .inl rfl, trivial⟩) ?_
      refine x_loop (X := (List Reading) × Int) (fun x => mkS [(2, I width), (3, .ref 3 0), (4, .ref 4 0), (7, .arr 17), (8, I node), (9, .arr 709), (33, slEdge false l.Edges), (34, I (l.Edges.length : Int)), (35, I x.2)] [(3, bxLattice l), (4, .box [slEntry false lx.Entries]), (17, tOLReading 8661 tb), (709, tAReading x.1), (8661, tFLReading tb)]) (fun x => (0 ≤ x.2 ∧ x.2 ≤ (l.Edges.length : Int)) ∧ (x.1 = bmC (begB lx) l tb node.toNat x.2.toNat) ∧ True) (fun x => ((l.Edges.length : Int) - x.2).toNat) (([] : List Reading), 0) rfl (show (0 ≤ (0 : Int) ∧ (0 : Int) ≤ (l.Edges.length : Int)) ∧ (([] : List Reading) = bmC (begB lx) l tb node.toNat (0 : Int).toNat) ∧ True from ⟨(by omega), (by rfl), trivial⟩) (fun x hI => ?_)
      obtain ⟨lst2, t35⟩ := x
      obtain ⟨hi0, hls, _⟩ : (0 ≤ t35 ∧ t35 ≤ (l.Edges.length : Int)) ∧ (lst2 = bmC (begB lx) l tb node.toNat t35.toNat) ∧ True := hI
      show XW _ _ _ _ (mkS [(2, I width), (3, .ref 3 0), (4, .ref 4 0), (7, .arr 17), (8, I node), (9, .arr 709), (33, slEdge false l.Edges), (34, I (l.Edges.length : Int)), (35, I t35)] [(3, bxLattice l), (4, .box [slEntry false lx.Entries]), (17, tOLReading 8661 tb), (709, tAReading lst2), (8661, tFLReading tb)]) _ _
      refine x_seq ?_
      by_cases h3 : t35 < (l.Edges.length : Int)
      ·have hi : t35.toNat < l.Edges.length := by omega
       have hed := hl.2.2.1 _ hi
       have he1 := hed.1
       have he2 := hed.2.1
       have he3 := lab_size hed.2.2
       have hii : (t35 + 1).toNat = t35.toNat + 1 := by omega
       have hcl := bmC_len (p := begB lx) (l := l) (T := tb) (n := node.toNat) hrw t35.toNat
       have hw30 : width.toNat * t35.toNat ≤ 30 * 200 := Nat.mul_le_mul (by omega) (by omega)
       rw [← hls] at hcl
       refine x_r [(0, .dec true)] [2, 3, 4, 7, 8, 9, 33, 34, 35, 36] [3, 4, 17, 709, 8661] [I width, .ref 3 0, .ref 4 0, .arr 17, I node, .arr 709, slEdge false l.Edges, I (l.Edges.length : Int), I t35, Bv true] [some (bxLattice l), some (.box [slEntry false lx.Entries]), some (tOLReading 8661 tb), some (tAReading lst2), some (tFLReading tb)] [t35 < (l.Edges.length : Int)] ⟨h3, trivial⟩ ?_
       refine xe_then ?_
       refine x_seq ?_
       refine x_true rfl ?_
       refine x_skip ?_
       refine xe_then ?_
       refine x_seq ?_
       refine x_block ?_
       refine xR [(2, .new 11)] [2, 3, 4, 7, 8, 9, 11, 33, 34, 35] [3, 4, 11, 17, 709, 8661] [I width, .ref 3 0, .ref 4 0, .arr 17, I node, .arr 709, .ref 11 0, slEdge false l.Edges, I (l.Edges.length : Int), I t35] [some (bxLattice l), some (.box [slEntry false lx.Entries]), some (bxEdge (at_ l.Edges t35.toNat)), some (tOLReading 8661 tb), some (tAReading lst2), some (tFLReading tb)] [(0 : Int) ≤ t35 ∧ t35 < (l.Edges.length : Int)] ⟨⟨(by first | omega | (simp only [List.length_replicate, List.length_set]; omega)), (by first | omega | (simp only [List.length_replicate, List.length_set]; omega))⟩, trivial⟩ ?_
       refine x_seq ?_
       refine x_seq ?_
       by_cases h4 : ((at_ l.Edges t35.toNat).To) = node
       ·have hff : (at_ l.Edges t35.toNat).To = ((node.toNat : Nat) : Int) := by omega
        have hfl : (at_ l.Edges t35.toNat).From.toNat < l.Nodes.toNat := by omega
        have hrf := (hok.2 _ hfl).1
        refine x_r [(3, .dec false)] [2, 3, 4, 7, 8, 9, 11, 33, 34, 35, 42] [3, 4, 11, 17, 709, 8661] [I width, .ref 3 0, .ref 4 0, .arr 17, I node, .arr 709, .ref 11 0, slEdge false l.Edges, I (l.Edges.length : Int), I t35, Bv false] [some (bxLattice l), some (.box [slEntry false lx.Entries]), some (bxEdge (at_ l.Edges t35.toNat)), some (tOLReading 8661 tb), some (tAReading lst2), some (tFLReading tb)] [¬ (((at_ l.Edges t35.toNat).To) ≠ node)] ⟨(fun hq => hq h4), trivial⟩ ?_
        refine xe_then ?_
        refine x_false rfl ?_
        refine x_skip ?_
        refine xe_then ?_
        refine xR [] [2, 3, 4, 7, 8, 9, 11, 33, 34, 35, 47, 48, 49] [3, 4, 11, 17, 709, 8661] [I width, .ref 3 0, .ref 4 0, .arr 17, I node, .arr 709, .ref 11 0, slEdge false l.Edges, I (l.Edges.length : Int), I t35, .row 8661 (((at_ l.Edges t35.toNat).From).toNat), I (((at_ tb (((at_ l.Edges t35.toNat).From).toNat)).length) : Int), I 0] [some (bxLattice l), some (.box [slEntry false lx.Entries]), some (bxEdge (at_ l.Edges t35.toNat)), some (tOLReading 8661 tb), some (tAReading lst2), some (tFLReading tb)] [(0 : Int) ≤ ((at_ l.Edges t35.toNat).From) ∧ ((at_ l.Edges t35.toNat).From) < (tb.length : Int), ((at_ l.Edges t35.toNat).From).toNat < tb.length, (((at_ l.Edges t35.toNat).From).toNat) < tb.length] ⟨⟨(by first | omega | (simp only [List.length_replicate, List.length_set]; omega)), (by first | omega | (simp only [List.length_replicate, List.length_set]; omega))⟩, (by first | omega | (simp only [List.length_replicate, List.length_set]; omega)), (by first | omega | (simp only [List.length_replicate, List.length_set]; omega)), trivial⟩ ?_
        refine x_block ?_
        refine x_loop (X := (List Reading) × Int) (fun x => mkS [(2, I width), (3, .ref 3 0), (4, .ref 4 0), (7, .arr 17), (8, I node), (9, .arr 709), (11, .ref 11 0), (33, slEdge false l.Edges), (34, I (l.Edges.length : Int)), (35, I t35), (47, .row 8661 (((at_ l.Edges t35.toNat).From).toNat)), (48, I (((at_ tb (((at_ l.Edges t35.toNat).From).toNat)).length) : Int)), (49, I x.2)] [(3, bxLattice l), (4, .box [slEntry false lx.Entries]), (11, bxEdge (at_ l.Edges t35.toNat)), (17, tOLReading 8661 tb), (709, tAReading x.1), (8661, tFLReading tb)]) (fun x => (0 ≤ x.2 ∧ x.2 ≤ ((at_ tb (at_ l.Edges t35.toNat).From.toNat).length : Int)) ∧ (x.1 = lst2 ++ exr (begB lx) (at_ l.Edges t35.toNat) (at_ tb (at_ l.Edges t35.toNat).From.toNat) x.2.toNat) ∧ True) (fun x => (((at_ tb (at_ l.Edges t35.toNat).From.toNat).length : Int) - x.2).toNat) (lst2, 0) rfl (show (0 ≤ (0 : Int) ∧ (0 : Int) ≤ ((at_ tb (at_ l.Edges t35.toNat).From.toNat).length : Int)) ∧ (lst2 = lst2 ++ exr (begB lx) (at_ l.Edges t35.toNat) (at_ tb (at_ l.Edges t35.toNat).From.toNat) (0 : Int).toNat) ∧ True from ⟨(by omega), (by (show lst2 = lst2 ++ []; rw [List.append_nil])), trivial⟩) (fun x hI => ?_)
        obtain ⟨lst3, t49⟩ := x
        obtain ⟨hj0, hls3, _⟩ : (0 ≤ t49 ∧ t49 ≤ ((at_ tb (at_ l.Edges t35.toNat).From.toNat).length : Int)) ∧ (lst3 = lst2 ++ exr (begB lx) (at_ l.Edges t35.toNat) (at_ tb (at_ l.Edges t35.toNat).From.toNat) t49.toNat) ∧ True := hI
        show XW _ _ _ _ (mkS [(2, I width), (3, .ref 3 0), (4, .ref 4 0), (7, .arr 17), (8, I node), (9, .arr 709), (11, .ref 11 0), (33, slEdge false l.Edges), (34, I (l.Edges.length : Int)), (35, I t35), (47, .row 8661 (((at_ l.Edges t35.toNat).From).toNat)), (48, I (((at_ tb (((at_ l.Edges t35.toNat).From).toNat)).length) : Int)), (49, I t49)] [(3, bxLattice l), (4, .box [slEntry false lx.Entries]), (11, bxEdge (at_ l.Edges t35.toNat)), (17, tOLReading 8661 tb), (709, tAReading lst3), (8661, tFLReading tb)]) _ _
        refine x_seq ?_
        by_cases h5 : t49 < (((at_ tb (((at_ l.Edges t35.toNat).From).toNat)).length) : Int)
        ·have hjl : t49.toNat < (at_ tb (at_ l.Edges t35.toNat).From.toNat).length := by omega
         have hrd := (hok.2 _ hfl).2 _ (at_mem hjl)
         have hrd1 := hrd.1
         have hrd2 := hrd.2
         have hjj : (t49 + 1).toNat = t49.toNat + 1 := by omega
         have hel := exr_len (begB lx) (at_ l.Edges t35.toNat) (at_ tb (at_ l.Edges t35.toNat).From.toNat) t49.toNat
         have hl3 : lst3.length ≤ lst2.length + t49.toNat := by rw [hls3, List.length_append]; omega
         refine x_r [(0, .dec true)] [2, 3, 4, 7, 8, 9, 11, 33, 34, 35, 47, 48, 49, 50] [3, 4, 11, 17, 709, 8661] [I width, .ref 3 0, .ref 4 0, .arr 17, I node, .arr 709, .ref 11 0, slEdge false l.Edges, I (l.Edges.length : Int), I t35, .row 8661 (((at_ l.Edges t35.toNat).From).toNat), I (((at_ tb (((at_ l.Edges t35.toNat).From).toNat)).length) : Int), I t49, Bv true] [some (bxLattice l), some (.box [slEntry false lx.Entries]), some (bxEdge (at_ l.Edges t35.toNat)), some (tOLReading 8661 tb), some (tAReading lst3), some (tFLReading tb)] [t49 < (((at_ tb (((at_ l.Edges t35.toNat).From).toNat)).length) : Int)] ⟨h5, trivial⟩ ?_
         refine xe_then ?_
         refine x_seq ?_
         refine x_true rfl ?_
         refine x_skip ?_
         refine xe_then ?_
         refine x_seq ?_
         refine x_block ?_
         refine xR [(2, .new 13)] [2, 3, 4, 7, 8, 9, 11, 13, 33, 34, 35, 47, 48, 49] [3, 4, 11, 13, 17, 709, 8661] [I width, .ref 3 0, .ref 4 0, .arr 17, I node, .arr 709, .ref 11 0, .ref 13 0, slEdge false l.Edges, I (l.Edges.length : Int), I t35, .row 8661 (((at_ l.Edges t35.toNat).From).toNat), I (((at_ tb (((at_ l.Edges t35.toNat).From).toNat)).length) : Int), I t49] [some (bxLattice l), some (.box [slEntry false lx.Entries]), some (bxEdge (at_ l.Edges t35.toNat)), some (bxReading (at_ (at_ tb (((at_ l.Edges t35.toNat).From).toNat)) t49.toNat)), some (tOLReading 8661 tb), some (tAReading lst3), some (tFLReading tb)] [(((at_ l.Edges t35.toNat).From).toNat) < tb.length ∧ (0 : Int) ≤ t49 ∧ t49 < (((at_ tb (((at_ l.Edges t35.toNat).From).toNat)).length) : Int), (((at_ l.Edges t35.toNat).From).toNat) < tb.length ∧ t49.toNat < (at_ tb (((at_ l.Edges t35.toNat).From).toNat)).length] ⟨⟨(by first | omega | (simp only [List.length_replicate, List.length_set]; omega)), (by first | omega | (simp only [List.length_replicate, List.length_set]; omega)), (by first | omega | (simp only [List.length_replicate, List.length_set]; omega))⟩, ⟨(by first | omega | (simp only [List.length_replicate, List.length_set]; omega)), (by first | omega | (simp only [List.length_replicate, List.length_set]; omega))⟩, trivial⟩ ?_
         refine xR [] [2, 3, 4, 7, 8, 9, 11, 13, 14, 33, 34, 35, 47, 48, 49] [3, 4, 11, 13, 17, 709, 8661] [I width, .ref 3 0, .ref 4 0, .arr 17, I node, .arr 709, .ref 11 0, .ref 13 0, Sv (((at_ (at_ tb (((at_ l.Edges t35.toNat).From).toNat)) t49.toNat).Text) ++ ((at_ l.Edges t35.toNat).Label)), slEdge false l.Edges, I (l.Edges.length : Int), I t35, .row 8661 (((at_ l.Edges t35.toNat).From).toNat), I (((at_ tb (((at_ l.Edges t35.toNat).From).toNat)).length) : Int), I t49] [some (bxLattice l), some (.box [slEntry false lx.Entries]), some (bxEdge (at_ l.Edges t35.toNat)), some (bxReading (at_ (at_ tb (((at_ l.Edges t35.toNat).From).toNat)) t49.toNat)), some (tOLReading 8661 tb), some (tAReading lst3), some (tFLReading tb)] [((at_ (at_ tb (((at_ l.Edges t35.toNat).From).toNat)) t49.toNat).Text).size + ((at_ l.Edges t35.toNat).Label).size ≤ 9223372036854775807] ⟨(by first | omega | (simp only [List.length_replicate, List.length_set]; omega)), trivial⟩ ?_
         refine x_seq ?_
         rcases Bool.eq_false_or_eq_true (begB lx (((at_ (at_ tb (((at_ l.Edges t35.toNat).From).toNat)) t49.toNat).Text) ++ ((at_ l.Edges t35.toNat).Label))) with h6 | h6
         ·have hbg := h6
          refine x_r [(2, .call [(true, .any), (true, .any)] true (Bv true))] [2, 3, 4, 7, 8, 9, 11, 13, 14, 33, 34, 35, 47, 48, 49, 60] [3, 4, 11, 13, 17, 709, 8661] [I width, .ref 3 0, .ref 4 0, .arr 17, I node, .arr 709, .ref 11 0, .ref 13 0, Sv (((at_ (at_ tb (((at_ l.Edges t35.toNat).From).toNat)) t49.toNat).Text) ++ ((at_ l.Edges t35.toNat).Label)), slEdge false l.Edges, I (l.Edges.length : Int), I t35, .row 8661 (((at_ l.Edges t35.toNat).From).toNat), I (((at_ tb (((at_ l.Edges t35.toNat).From).toNat)).length) : Int), I t49, Bv true] [some (bxLattice l), some (.box [slEntry false lx.Entries]), some (bxEdge (at_ l.Edges t35.toNat)), some (bxReading (at_ (at_ tb (((at_ l.Edges t35.toNat).From).toNat)) t49.toNat)), some (tOLReading 8661 tb), some (tAReading lst3), some (tFLReading tb)] [Con Tryz.prog 49 [.agg [slEntry false lx.Entries], Sv (((at_ (at_ tb (((at_ l.Edges t35.toNat).From).toNat)) t49.toNat).Text) ++ ((at_ l.Edges t35.toNat).Label))] true (Bv true) ∧ True] ⟨⟨(con_bool h6 (begins_ok lx (((at_ (at_ tb (((at_ l.Edges t35.toNat).From).toNat)) t49.toNat).Text) ++ ((at_ l.Edges t35.toNat).Label)) hx (by rw [ByteArray.size_append]; omega))), trivial⟩, trivial⟩ ?_
          refine xe_then ?_
          refine x_true rfl ?_
          refine x_r [(8, .new 69), (9, .new 70)] [2, 3, 4, 7, 8, 9, 11, 33, 34, 35, 47, 48, 49] [3, 4, 11, 17, 70, 8661] [I width, .ref 3 0, .ref 4 0, .arr 17, I node, .arr 70, .ref 11 0, slEdge false l.Edges, I (l.Edges.length : Int), I t35, .row 8661 (((at_ l.Edges t35.toNat).From).toNat), I (((at_ tb (((at_ l.Edges t35.toNat).From).toNat)).length) : Int), I t49] [some (bxLattice l), some (.box [slEntry false lx.Entries]), some (bxEdge (at_ l.Edges t35.toNat)), some (tOLReading 8661 tb), some (.arr 2 (lst3.length + 1) (catF lst3.length (fReading lst3) (litF [Sv (((at_ (at_ tb (((at_ l.Edges t35.toNat).From).toNat)) t49.toNat).Text) ++ ((at_ l.Edges t35.toNat).Label)), I (((at_ (at_ tb (((at_ l.Edges t35.toNat).From).toNat)) t49.toNat).Cost) + ((at_ l.Edges t35.toNat).Cost))] 2))), some (tFLReading tb)] [inR .i64 (((at_ (at_ tb (((at_ l.Edges t35.toNat).From).toNat)) t49.toNat).Cost) + ((at_ l.Edges t35.toNat).Cost)), (lst3.length + 1) * 24 ≤ 140737488355328] ⟨(inR_i64 (by first | omega | (simp only [List.length_replicate, List.length_set]; omega)) (by first | omega | (simp only [List.length_replicate, List.length_set]; omega))), (by first | omega | (simp only [List.length_replicate, List.length_set]; omega)), trivial⟩ ?_
          refine xe_block 5 ?_
          refine xe_then ?_
          refine x_r [] [2, 3, 4, 7, 8, 9, 11, 33, 34, 35, 47, 48, 49] [3, 4, 11, 17, 70, 8661] [I width, .ref 3 0, .ref 4 0, .arr 17, I node, .arr 70, .ref 11 0, slEdge false l.Edges, I (l.Edges.length : Int), I t35, .row 8661 (((at_ l.Edges t35.toNat).From).toNat), I (((at_ tb (((at_ l.Edges t35.toNat).From).toNat)).length) : Int), I (t49 + 1)] [some (bxLattice l), some (.box [slEntry false lx.Entries]), some (bxEdge (at_ l.Edges t35.toNat)), some (tOLReading 8661 tb), some (.arr 2 (lst3.length + 1) (catF lst3.length (fReading lst3) (litF [Sv (((at_ (at_ tb (((at_ l.Edges t35.toNat).From).toNat)) t49.toNat).Text) ++ ((at_ l.Edges t35.toNat).Label)), I (((at_ (at_ tb (((at_ l.Edges t35.toNat).From).toNat)) t49.toNat).Cost) + ((at_ l.Edges t35.toNat).Cost))] 2))), some (tFLReading tb)] [inR .i64 (t49 + 1)] ⟨(inR_i64 (by first | omega | (simp only [List.length_replicate, List.length_set]; omega)) (by first | omega | (simp only [List.length_replicate, List.length_set]; omega))), trivial⟩ ?_
          refine xe_weak [(709, 70)] (T := [(2, I width), (3, .ref 3 0), (4, .ref 4 0), (7, .arr 17), (8, I node), (9, .arr 709), (11, .ref 11 0), (33, slEdge false l.Edges), (34, I (l.Edges.length : Int)), (35, I t35), (47, .row 8661 (((at_ l.Edges t35.toNat).From).toNat)), (48, I (((at_ tb (((at_ l.Edges t35.toNat).From).toNat)).length) : Int)), (49, I (t49 + 1))]) (O := [(3, bxLattice l), (4, .box [slEntry false lx.Entries]), (11, bxEdge (at_ l.Edges t35.toNat)), (17, tOLReading 8661 tb), (709, tAReading (lst3 ++ [(Reading.mk (((at_ (at_ tb (((at_ l.Edges t35.toNat).From).toNat)) t49.toNat).Text) ++ ((at_ l.Edges t35.toNat).Label)) (((at_ (at_ tb (((at_ l.Edges t35.toNat).From).toNat)) t49.toNat).Cost) + ((at_ l.Edges t35.toNat).Cost)))])), (8661, tFLReading tb)]) rfl (⟨.inl rfl, .inl rfl, .inl rfl, .inl rfl, .inl rfl, .inl rfl, .inl rfl, .inl rfl, .inl rfl, .inl rfl, .inl rfl, .inl rfl, .inl rfl, trivial⟩) (⟨.inl rfl, .inl rfl, .inl rfl, .inl rfl, .inr ⟨rfl, (by first | rfl | (simp; done) | (simp; omega) | omega), fun i_ hi_ => .inl (cat_snoc (enc := cReading) (xs := lst3) rfl i_ hi_)⟩, .inl rfl, trivial⟩) (xe_again ((lst3 ++ [(Reading.mk (((at_ (at_ tb (((at_ l.Edges t35.toNat).From).toNat)) t49.toNat).Text) ++ ((at_ l.Edges t35.toNat).Label)) (((at_ (at_ tb (((at_ l.Edges t35.toNat).From).toNat)) t49.toNat).Cost) + ((at_ l.Edges t35.toNat).Cost)))]), (t49 + 1)) rfl (show (0 ≤ (t49 + 1) ∧ (t49 + 1) ≤ ((at_ tb (at_ l.Edges t35.toNat).From.toNat).length : Int)) ∧ ((lst3 ++ [(Reading.mk (((at_ (at_ tb (((at_ l.Edges t35.toNat).From).toNat)) t49.toNat).Text) ++ ((at_ l.Edges t35.toNat).Label)) (((at_ (at_ tb (((at_ l.Edges t35.toNat).From).toNat)) t49.toNat).Cost) + ((at_ l.Edges t35.toNat).Cost)))]) = lst2 ++ exr (begB lx) (at_ l.Edges t35.toNat) (at_ tb (at_ l.Edges t35.toNat).From.toNat) (t49 + 1).toNat) ∧ True from ⟨(by omega), (by first | (rw [hjj, ← exr_y hjl hbg, ← List.append_assoc, ← hls3]; rfl) | (rw [hjj, ← exr_n hjl (by simpa using hbg)]; exact hls3)), trivial⟩) (by first | (show ((((at_ tb (at_ l.Edges t35.toNat).From.toNat).length : Int) - (t49 + 1)).toNat : Nat) < (((at_ tb (at_ l.Edges t35.toNat).From.toNat).length : Int) - t49).toNat; omega) | (dsimp only; omega)))
         have hbg := h6
         refine x_r [(2, .call [(true, .any), (true, .any)] true (Bv false))] [2, 3, 4, 7, 8, 9, 11, 13, 14, 33, 34, 35, 47, 48, 49, 60] [3, 4, 11, 13, 17, 709, 8661] [I width, .ref 3 0, .ref 4 0, .arr 17, I node, .arr 709, .ref 11 0, .ref 13 0, Sv (((at_ (at_ tb (((at_ l.Edges t35.toNat).From).toNat)) t49.toNat).Text) ++ ((at_ l.Edges t35.toNat).Label)), slEdge false l.Edges, I (l.Edges.length : Int), I t35, .row 8661 (((at_ l.Edges t35.toNat).From).toNat), I (((at_ tb (((at_ l.Edges t35.toNat).From).toNat)).length) : Int), I t49, Bv false] [some (bxLattice l), some (.box [slEntry false lx.Entries]), some (bxEdge (at_ l.Edges t35.toNat)), some (bxReading (at_ (at_ tb (((at_ l.Edges t35.toNat).From).toNat)) t49.toNat)), some (tOLReading 8661 tb), some (tAReading lst3), some (tFLReading tb)] [Con Tryz.prog 49 [.agg [slEntry false lx.Entries], Sv (((at_ (at_ tb (((at_ l.Edges t35.toNat).From).toNat)) t49.toNat).Text) ++ ((at_ l.Edges t35.toNat).Label))] true (Bv false) ∧ True] ⟨⟨(con_bool h6 (begins_ok lx (((at_ (at_ tb (((at_ l.Edges t35.toNat).From).toNat)) t49.toNat).Text) ++ ((at_ l.Edges t35.toNat).Label)) hx (by rw [ByteArray.size_append]; omega))), trivial⟩, trivial⟩ ?_
         refine xe_then ?_
         refine x_false rfl ?_
         refine x_skip ?_
         refine xe_block 5 ?_
         refine xe_then ?_
         refine x_r [] [2, 3, 4, 7, 8, 9, 11, 33, 34, 35, 47, 48, 49] [3, 4, 11, 17, 709, 8661] [I width, .ref 3 0, .ref 4 0, .arr 17, I node, .arr 709, .ref 11 0, slEdge false l.Edges, I (l.Edges.length : Int), I t35, .row 8661 (((at_ l.Edges t35.toNat).From).toNat), I (((at_ tb (((at_ l.Edges t35.toNat).From).toNat)).length) : Int), I (t49 + 1)] [some (bxLattice l), some (.box [slEntry false lx.Entries]), some (bxEdge (at_ l.Edges t35.toNat)), some (tOLReading 8661 tb), some (tAReading lst3), some (tFLReading tb)] [inR .i64 (t49 + 1)] ⟨(inR_i64 (by first | omega | (simp only [List.length_replicate, List.length_set]; omega)) (by first | omega | (simp only [List.length_replicate, List.length_set]; omega))), trivial⟩ ?_
         exact xe_again (lst3, (t49 + 1)) rfl (show (0 ≤ (t49 + 1) ∧ (t49 + 1) ≤ ((at_ tb (at_ l.Edges t35.toNat).From.toNat).length : Int)) ∧ (lst3 = lst2 ++ exr (begB lx) (at_ l.Edges t35.toNat) (at_ tb (at_ l.Edges t35.toNat).From.toNat) (t49 + 1).toNat) ∧ True from ⟨(by omega), (by first | (rw [hjj, ← exr_y hjl hbg, ← List.append_assoc, ← hls3]; rfl) | (rw [hjj, ← exr_n hjl (by simpa using hbg)]; exact hls3)), trivial⟩) (by first | (show ((((at_ tb (at_ l.Edges t35.toNat).From.toNat).length : Int) - (t49 + 1)).toNat : Nat) < (((at_ tb (at_ l.Edges t35.toNat).From.toNat).length : Int) - t49).toNat; omega) | (dsimp only; omega))
        have hje : t49.toNat = (at_ tb (at_ l.Edges t35.toNat).From.toNat).length := by omega
        rw [hje] at hls3
        refine x_r [(0, .dec false)] [2, 3, 4, 7, 8, 9, 11, 33, 34, 35, 47, 48, 49, 50] [3, 4, 11, 17, 709, 8661] [I width, .ref 3 0, .ref 4 0, .arr 17, I node, .arr 709, .ref 11 0, slEdge false l.Edges, I (l.Edges.length : Int), I t35, .row 8661 (((at_ l.Edges t35.toNat).From).toNat), I (((at_ tb (((at_ l.Edges t35.toNat).From).toNat)).length) : Int), I t49, Bv false] [some (bxLattice l), some (.box [slEntry false lx.Entries]), some (bxEdge (at_ l.Edges t35.toNat)), some (tOLReading 8661 tb), some (tAReading lst3), some (tFLReading tb)] [¬ (t49 < (((at_ tb (((at_ l.Edges t35.toNat).From).toNat)).length) : Int))] ⟨h5, trivial⟩ ?_
        refine xe_then ?_
        refine x_seq ?_
        refine x_false rfl ?_
        refine x_exit ?_
        refine xe_exit_then ?_
        refine xe_loop_exit ?_
        refine xe_exit_same ?_
        refine xe_block 3 ?_
        refine xe_then ?_
        refine x_r [] [2, 3, 4, 7, 8, 9, 33, 34, 35] [3, 4, 17, 709, 8661] [I width, .ref 3 0, .ref 4 0, .arr 17, I node, .arr 709, slEdge false l.Edges, I (l.Edges.length : Int), I (t35 + 1)] [some (bxLattice l), some (.box [slEntry false lx.Entries]), some (tOLReading 8661 tb), some (tAReading lst3), some (tFLReading tb)] [inR .i64 (t35 + 1)] ⟨(inR_i64 (by first | omega | (simp only [List.length_replicate, List.length_set]; omega)) (by first | omega | (simp only [List.length_replicate, List.length_set]; omega))), trivial⟩ ?_
        exact xe_again (lst3, (t35 + 1)) rfl (show (0 ≤ (t35 + 1) ∧ (t35 + 1) ≤ (l.Edges.length : Int)) ∧ (lst3 = bmC (begB lx) l tb node.toNat (t35 + 1).toNat) ∧ True from ⟨(by omega), (by first | (rw [hii, ← bmC_y hff, ← hls]; exact hls3) | (rw [hii, ← bmC_n hff]; exact hls)), trivial⟩) (by first | (show (((l.Edges.length : Int) - (t35 + 1)).toNat : Nat) < ((l.Edges.length : Int) - t35).toNat; omega) | (dsimp only; omega))
       have hff : ¬ (at_ l.Edges t35.toNat).To = ((node.toNat : Nat) : Int) := by omega
       refine x_r [(3, .dec true)] [2, 3, 4, 7, 8, 9, 11, 33, 34, 35, 42] [3, 4, 11, 17, 709, 8661] [I width, .ref 3 0, .ref 4 0, .arr 17, I node, .arr 709, .ref 11 0, slEdge false l.Edges, I (l.Edges.length : Int), I t35, Bv true] [some (bxLattice l), some (.box [slEntry false lx.Entries]), some (bxEdge (at_ l.Edges t35.toNat)), some (tOLReading 8661 tb), some (tAReading lst2), some (tFLReading tb)] [((at_ l.Edges t35.toNat).To) ≠ node] ⟨h4, trivial⟩ ?_
       refine xe_then ?_
       refine x_true rfl ?_
       refine x_exit ?_
       refine xe_exit_then ?_
       refine xe_exit_same ?_
       refine xe_then ?_
       refine x_r [] [2, 3, 4, 7, 8, 9, 33, 34, 35] [3, 4, 17, 709, 8661] [I width, .ref 3 0, .ref 4 0, .arr 17, I node, .arr 709, slEdge false l.Edges, I (l.Edges.length : Int), I (t35 + 1)] [some (bxLattice l), some (.box [slEntry false lx.Entries]), some (tOLReading 8661 tb), some (tAReading lst2), some (tFLReading tb)] [inR .i64 (t35 + 1)] ⟨(inR_i64 (by first | omega | (simp only [List.length_replicate, List.length_set]; omega)) (by first | omega | (simp only [List.length_replicate, List.length_set]; omega))), trivial⟩ ?_
       exact xe_again (lst2, (t35 + 1)) rfl (show (0 ≤ (t35 + 1) ∧ (t35 + 1) ≤ (l.Edges.length : Int)) ∧ (lst2 = bmC (begB lx) l tb node.toNat (t35 + 1).toNat) ∧ True from ⟨(by omega), (by first | (rw [hii, ← bmC_y hff, ← hls]; exact hls3) | (rw [hii, ← bmC_n hff]; exact hls)), trivial⟩) (by first | (show (((l.Edges.length : Int) - (t35 + 1)).toNat : Nat) < ((l.Edges.length : Int) - t35).toNat; omega) | (dsimp only; omega))
      have hie : t35.toNat = l.Edges.length := by omega
      have hcl := bmC_len (p := begB lx) (l := l) (T := tb) (n := node.toNat) hrw t35.toNat
      have hw30 : width.toNat * t35.toNat ≤ 30 * 200 := Nat.mul_le_mul (by omega) (by omega)
      rw [← hls] at hcl
      refine x_r [(0, .dec false)] [2, 3, 4, 7, 8, 9, 33, 34, 35, 36] [3, 4, 17, 709, 8661] [I width, .ref 3 0, .ref 4 0, .arr 17, I node, .arr 709, slEdge false l.Edges, I (l.Edges.length : Int), I t35, Bv false] [some (bxLattice l), some (.box [slEntry false lx.Entries]), some (tOLReading 8661 tb), some (tAReading lst2), some (tFLReading tb)] [¬ (t35 < (l.Edges.length : Int))] ⟨h3, trivial⟩ ?_
      refine xe_then ?_
      refine x_seq ?_
      refine x_false rfl ?_
      refine x_exit ?_
      refine xe_exit_then ?_
      refine xe_loop_exit ?_
      refine xe_exit_same ?_
      refine xe_then ?_
      refine x_weak [(8621, 709)] (T := [(2, I width), (3, .ref 3 0), (4, .ref 4 0), (7, .arr 17), (8, I node), (9, .arr 8621), (33, slEdge false l.Edges), (34, I (l.Edges.length : Int)), (35, I t35), (36, Bv false)]) (O := [(3, bxLattice l), (4, .box [slEntry false lx.Entries]), (17, tOLReading 8661 tb), (8621, tAReading lst2), (8661, tFLReading tb)]) rfl (⟨.inl rfl, .inl rfl, .inl rfl, .inl rfl, .inl rfl, .inl rfl, .inl rfl, .inl rfl, .inl rfl, .inl rfl, trivial⟩) (⟨.inl rfl, .inl rfl, .inl rfl, .inl rfl, .inl rfl, trivial⟩) ?_
      obtain ⟨list'_1, out_1, hx1_0, hc1⟩ := firstR_ok lst2 width (by omega) (by omega)
      have hout := hx1_0
      refine x_r [(4, .lend [(8621, tAReading lst2, tAReading list'_1)] [(8622, tAReading out_1)] [(true, .any), (true, .any)] false (.arr 8622))] [2, 3, 4, 7, 8] [3, 4, 17, 8622, 8661] [I width, .ref 3 0, .ref 4 0, .arr 17, I node] [some (bxLattice l), some (.box [slEntry false lx.Entries]), some (.oar [8661, 8622] 1 tb.length (fun q => bif Nat.beq q node.toNat then [.arr 8622] else (oLReading 8661 tb) q)), some (tAReading out_1), some (tFLReading tb)] [CallOK Tryz.prog 50 [.arr 8621, I width] (lookO [(8621, tAReading lst2)]) false (.arr 8622) (lookO [(8621, tAReading list'_1), (8622, tAReading out_1)]) ∧ (((tAReading lst2 : Ob) = tAReading lst2 ∨ obLe noOb true (tAReading lst2) (tAReading lst2)) ∧ taggedO false (tAReading lst2)) ∧ True, (0 : Int) ≤ node ∧ node < (tb.length : Int), node.toNat < tb.length] ⟨⟨hc1, ⟨.inl rfl, fun _ _ => tagcReading false _⟩, trivial⟩, ⟨(by first | omega | (simp only [List.length_replicate, List.length_set]; omega)), (by first | omega | (simp only [List.length_replicate, List.length_set]; omega))⟩, (by first | omega | (simp only [List.length_replicate, List.length_set]; omega)), trivial⟩ ?_
      refine xe_block 1 ?_
      refine xe_then ?_
      refine x_putrow 17 8622 8661 node.toNat rfl rfl rfl ((by first | omega | (simp only [List.length_replicate, List.length_set]; omega))) (by first | exact Nat.le_refl _ | omega) (fun q _ => ⟨fun e => by subst e; simp only [Nat.beq_refl, cond_true], fun e => by simp only [beq_ne e, cond_false]; rfl⟩) (by kernel_rfl) ?_
      refine x_weak [] (T := [(2, I width), (3, .ref 3 0), (4, .ref 4 0), (7, .arr 17), (8, I node)]) (O := [(3, bxLattice l), (4, .box [slEntry false lx.Entries]), (17, tOLReading 8661 (tb.set node.toNat out_1)), (8661, tFLReading (tb.set node.toNat out_1))]) rfl (⟨.inl rfl, .inl rfl, .inl rfl, .inl rfl, .inl rfl, trivial⟩) (⟨.inl rfl, .inl rfl, .inr ⟨rfl, rfl, (by simp), fun i hi => .inl rfl⟩, .inr (fputLReading ((by first | omega | (simp only [List.length_replicate, List.length_set]; omega))) (by first | rfl | (simp; done) | (simp; omega)) (fun i _ => rfl)), trivial⟩) ?_
      refine x_r [] [2, 3, 4, 7, 8] [3, 4, 17, 8661] [I width, .ref 3 0, .ref 4 0, .arr 17, I (node + 1)] [some (bxLattice l), some (.box [slEntry false lx.Entries]), some (tOLReading 8661 (tb.set node.toNat out_1)), some (tFLReading (tb.set node.toNat out_1))] [inR .i64 (node + 1)] ⟨(inR_i64 (by first | omega | (simp only [List.length_replicate, List.length_set]; omega)) (by first | omega | (simp only [List.length_replicate, List.length_set]; omega))), trivial⟩ ?_
      exact xe_again ((node + 1), (tb.set node.toNat out_1)) rfl (show (1 ≤ (node + 1) ∧ (node + 1) ≤ l.Nodes) ∧ ((tb.set node.toNat out_1) = bmT (begB lx) l width.toNat (bm0 l lx) ((node + 1) - 1).toNat) ∧ True from ⟨(by omega), (by (rw [show (node + 1 - 1).toNat = (node - 1).toNat + 1 from by omega, hout, hls, hie, htb, ← hnm]; rfl)), trivial⟩) (by first | (show ((l.Nodes - (node + 1)).toNat : Nat) < (l.Nodes - node).toNat; omega) | (dsimp only; omega))
     have hne : (node - 1).toNat = l.Nodes.toNat - 1 := by omega
     refine x_r [(3, .dec false)] [2, 3, 4, 7, 8, 29] [3, 4, 17, 8661] [I width, .ref 3 0, .ref 4 0, .arr 17, I node, Bv false] [some (bxLattice l), some (.box [slEntry false lx.Entries]), some (tOLReading 8661 tb), some (tFLReading tb)] [¬ (node < l.Nodes)] ⟨h2, trivial⟩ ?_
     refine xe_then ?_
     refine x_false rfl ?_
     refine x_exit ?_
     refine xe_exit_then ?_
     refine xe_loop_exit ?_
     refine xe_exit_same ?_
     refine xe_then ?_
     refine x_seq ?_
     refine x_weak [] (T := [(2, I width), (3, .ref 3 0), (4, .ref 4 0), (7, .arr 17), (8, I node), (29, Bv false)]) (O := [(3, bxLattice l), (4, .box [slEntry false lx.Entries]), (17, tALReading true tb)]) rfl (⟨.inl rfl, .inl rfl, .inl rfl, .inl rfl, .inl rfl, .inl rfl, trivial⟩) (⟨.inl rfl, .inl rfl, .inr ⟨rfl, rfl, oleLReading true _ rfl⟩, trivial⟩) ?_
     refine x_r [] [6] [17] [.arr 17] [some (tALReading true tb)] [] trivial ?_
     refine xe_then ?_
     refine x_ret ?_
     refine xe_end tb (show (tb = beamT l lx width.toNat) ∧ (True) from ⟨(by (rw [htb, hne]; rfl)), trivial⟩) (trivial) (.arr 17) (by kernel_rfl) (.inr ⟨(fun _ => rfl), rfl, rfl, fun i _ => .inl rfl⟩) (fun _ => rfl) (fun _ => (tagLReading true _))
    refine x_r [(3, .dec false)] [2, 3, 4, 7, 21] [3, 4, 17, 8661] [I width, .ref 3 0, .ref 4 0, .arr 17, Bv false] [some (bxLattice l), some (.box [slEntry false lx.Entries]), some (tOLReading 8661 (List.replicate l.Nodes.toNat ([] : List Reading))), some (tFLReading (List.replicate l.Nodes.toNat ([] : List Reading)))] [¬ (0 < (lx.Entries.length : Int))] ⟨h1, trivial⟩ ?_
    refine xe_then ?_
    refine x_false rfl ?_
    refine x_skip ?_
    refine xe_then ?_
    refine x_seq ?_
    refine xR [] [2, 3, 4, 7, 8] [3, 4, 17, 8661] [I width, .ref 3 0, .ref 4 0, .arr 17, I 1] [some (bxLattice l), some (.box [slEntry false lx.Entries]), some (tOLReading 8661 (List.replicate l.Nodes.toNat ([] : List Reading))), some (tFLReading (List.replicate l.Nodes.toNat ([] : List Reading)))] [] trivial ?_
    refine x_block ?_
    refine x_loop (X := Int × (List (List Reading))) (fun x => mkS [(2, I width), (3, .ref 3 0), (4, .ref 4 0), (7, .arr 17), (8, I x.1)] [(3, bxLattice l), (4, .box [slEntry false lx.Entries]), (17, tOLReading 8661 x.2), (8661, tFLReading x.2)]) (fun x => (1 ≤ x.1 ∧ x.1 ≤ l.Nodes) ∧ (x.2 = bmT (begB lx) l width.toNat (bm0 l lx) (x.1 - 1).toNat) ∧ True) (fun x => (l.Nodes - x.1).toNat) (1, (List.replicate l.Nodes.toNat ([] : List Reading))) rfl (show (1 ≤ (1 : Int) ∧ (1 : Int) ≤ l.Nodes) ∧ ((List.replicate l.Nodes.toNat ([] : List Reading)) = bmT (begB lx) l width.toNat (bm0 l lx) ((1 : Int) - 1).toNat) ∧ True from ⟨(by omega), (by first | exact (if_pos (by omega)).symm | exact (if_neg (by omega)).symm), trivial⟩) (fun x hI => ?_)
    obtain ⟨node, tb⟩ := x
    obtain ⟨hn0, htb, _⟩ : (1 ≤ node ∧ node ≤ l.Nodes) ∧ (tb = bmT (begB lx) l width.toNat (bm0 l lx) (node - 1).toNat) ∧ True := hI
    show XW _ _ _ _ (mkS [(2, I width), (3, .ref 3 0), (4, .ref 4 0), (7, .arr 17), (8, I node)] [(3, bxLattice l), (4, .box [slEntry false lx.Entries]), (17, tOLReading 8661 tb), (8661, tFLReading tb)]) _ _
    refine x_seq ?_
    refine x_seq ?_
    by_cases h7 : node < l.Nodes
    ·have hn : node.toNat < l.Nodes.toNat := by omega
     have hnn : (node + 1).toNat = node.toNat + 1 := by omega
     have hnm : (node - 1).toNat + 1 = node.toNat := by omega
     have hok := (bmT_ok hl lx (w := width.toNat) (by omega) (p := begB lx) (node - 1).toNat (by omega)).1
     rw [← htb] at hok
     have htl := hok.1
     have hrw := row_le hok
     refine x_r [(3, .dec true)] [2, 3, 4, 7, 8, 29] [3, 4, 17, 8661] [I width, .ref 3 0, .ref 4 0, .arr 17, I node, Bv true] [some (bxLattice l), some (.box [slEntry false lx.Entries]), some (tOLReading 8661 tb), some (tFLReading tb)] [node < l.Nodes] ⟨h7, trivial⟩ ?_
     refine xe_then ?_
     refine x_true rfl ?_
     refine x_skip ?_
     refine xe_then ?_
     refine x_seq ?_
     refine x_block ?_
     refine xR [] [2, 3, 4, 7, 8, 9] [3, 4, 17, 8661] [I width, .ref 3 0, .ref 4 0, .arr 17, I node, nilA] [some (bxLattice l), some (.box [slEntry false lx.Entries]), some (tOLReading 8661 tb), some (tFLReading tb)] [] trivial ?_
     refine x_seq ?_
     refine xR [] [2, 3, 4, 7, 8, 9, 33, 34, 35] [3, 4, 17, 8661] [I width, .ref 3 0, .ref 4 0, .arr 17, I node, nilA, slEdge false l.Edges, I (l.Edges.length : Int), I 0] [some (bxLattice l), some (.box [slEntry false lx.Entries]), some (tOLReading 8661 tb), some (tFLReading tb)] [] trivial ?_
     refine x_block ?_
     refine x_nil 9 709 2 (fun _ => []) (by kernel_rfl) ?_
     refine x_weak [] (T := [(2, I width), (3, .ref 3 0), (4, .ref 4 0), (7, .arr 17), (8, I node), (9, .arr 709), (33, slEdge false l.Edges), (34, I (l.Edges.length : Int)), (35, I 0)]) (O := [(3, bxLattice l), (4, .box [slEntry false lx.Entries]), (17, tOLReading 8661 tb), (709, tAReading ([] : List Reading)), (8661, tFLReading tb)]) rfl (⟨.inl rfl, .inl rfl, .inl rfl, .inl rfl, .inl rfl, .inl rfl, .inl rfl, .inl rfl, .inl rfl, trivial⟩) (⟨.inl rfl, .inl rfl, .inl rfl, .inr ⟨rfl, (by first | rfl | (simp; done) | (simp; omega) | omega), fun i_ hi_ => absurd hi_ (Nat.not_lt_zero _)⟩, .inl rfl, trivial⟩) ?_
     refine x_loop (X := (List Reading) × Int) (fun x => mkS [(2, I width), (3, .ref 3 0), (4, .ref 4 0), (7, .arr 17), (8, I node), (9, .arr 709), (33, slEdge false l.Edges), (34, I (l.Edges.length : Int)), (35, I x.2)] [(3, bxLattice l), (4, .box [slEntry false lx.Entries]), (17, tOLReading 8661 tb), (709, tAReading x.1), (8661, tFLReading tb)]) (fun x => (0 ≤ x.2 ∧ x.2 ≤ (l.Edges.length : Int)) ∧ (x.1 = bmC (begB lx) l tb node.toNat x.2.toNat) ∧ True) (fun x => ((l.Edges.length : Int) - x.2).toNat) (([] : List Reading), 0) rfl (show (0 ≤ (0 : Int) ∧ (0 : Int) ≤ (l.Edges.length : Int)) ∧ (([] : List Reading) = bmC (begB lx) l tb node.toNat (0 : Int).toNat) ∧ True from ⟨(by omega), (by rfl), trivial⟩) (fun x hI => ?_)
     obtain ⟨lst2, t35⟩ := x
     obtain ⟨hi0, hls, _⟩ : (0 ≤ t35 ∧ t35 ≤ (l.Edges.length : Int)) ∧ (lst2 = bmC (begB lx) l tb node.toNat t35.toNat) ∧ True := hI
     show XW _ _ _ _ (mkS [(2, I width), (3, .ref 3 0), (4, .ref 4 0), (7, .arr 17), (8, I node), (9, .arr 709), (33, slEdge false l.Edges), (34, I (l.Edges.length : Int)), (35, I t35)] [(3, bxLattice l), (4, .box [slEntry false lx.Entries]), (17, tOLReading 8661 tb), (709, tAReading lst2), (8661, tFLReading tb)]) _ _
     refine x_seq ?_
     by_cases h8 : t35 < (l.Edges.length : Int)
     ·have hi : t35.toNat < l.Edges.length := by omega
      have hed := hl.2.2.1 _ hi
      have he1 := hed.1
      have he2 := hed.2.1
      have he3 := lab_size hed.2.2
      have hii : (t35 + 1).toNat = t35.toNat + 1 := by omega
      have hcl := bmC_len (p := begB lx) (l := l) (T := tb) (n := node.toNat) hrw t35.toNat
      have hw30 : width.toNat * t35.toNat ≤ 30 * 200 := Nat.mul_le_mul (by omega) (by omega)
      rw [← hls] at hcl
      refine x_r [(0, .dec true)] [2, 3, 4, 7, 8, 9, 33, 34, 35, 36] [3, 4, 17, 709, 8661] [I width, .ref 3 0, .ref 4 0, .arr 17, I node, .arr 709, slEdge false l.Edges, I (l.Edges.length : Int), I t35, Bv true] [some (bxLattice l), some (.box [slEntry false lx.Entries]), some (tOLReading 8661 tb), some (tAReading lst2), some (tFLReading tb)] [t35 < (l.Edges.length : Int)] ⟨h8, trivial⟩ ?_
      refine xe_then ?_
      refine x_seq ?_
      refine x_true rfl ?_
      refine x_skip ?_
      refine xe_then ?_
      refine x_seq ?_
      refine x_block ?_
      refine xR [(2, .new 11)] [2, 3, 4, 7, 8, 9, 11, 33, 34, 35] [3, 4, 11, 17, 709, 8661] [I width, .ref 3 0, .ref 4 0, .arr 17, I node, .arr 709, .ref 11 0, slEdge false l.Edges, I (l.Edges.length : Int), I t35] [some (bxLattice l), some (.box [slEntry false lx.Entries]), some (bxEdge (at_ l.Edges t35.toNat)), some (tOLReading 8661 tb), some (tAReading lst2), some (tFLReading tb)] [(0 : Int) ≤ t35 ∧ t35 < (l.Edges.length : Int)] ⟨⟨(by first | omega | (simp only [List.length_replicate, List.length_set]; omega)), (by first | omega | (simp only [List.length_replicate, List.length_set]; omega))⟩, trivial⟩ ?_
      refine x_seq ?_
      refine x_seq ?_
      by_cases h9 : ((at_ l.Edges t35.toNat).To) = node
      ·have hff : (at_ l.Edges t35.toNat).To = ((node.toNat : Nat) : Int) := by omega
       have hfl : (at_ l.Edges t35.toNat).From.toNat < l.Nodes.toNat := by omega
       have hrf := (hok.2 _ hfl).1
       refine x_r [(3, .dec false)] [2, 3, 4, 7, 8, 9, 11, 33, 34, 35, 42] [3, 4, 11, 17, 709, 8661] [I width, .ref 3 0, .ref 4 0, .arr 17, I node, .arr 709, .ref 11 0, slEdge false l.Edges, I (l.Edges.length : Int), I t35, Bv false] [some (bxLattice l), some (.box [slEntry false lx.Entries]), some (bxEdge (at_ l.Edges t35.toNat)), some (tOLReading 8661 tb), some (tAReading lst2), some (tFLReading tb)] [¬ (((at_ l.Edges t35.toNat).To) ≠ node)] ⟨(fun hq => hq h9), trivial⟩ ?_
       refine xe_then ?_
       refine x_false rfl ?_
       refine x_skip ?_
       refine xe_then ?_
       refine xR [] [2, 3, 4, 7, 8, 9, 11, 33, 34, 35, 47, 48, 49] [3, 4, 11, 17, 709, 8661] [I width, .ref 3 0, .ref 4 0, .arr 17, I node, .arr 709, .ref 11 0, slEdge false l.Edges, I (l.Edges.length : Int), I t35, .row 8661 (((at_ l.Edges t35.toNat).From).toNat), I (((at_ tb (((at_ l.Edges t35.toNat).From).toNat)).length) : Int), I 0] [some (bxLattice l), some (.box [slEntry false lx.Entries]), some (bxEdge (at_ l.Edges t35.toNat)), some (tOLReading 8661 tb), some (tAReading lst2), some (tFLReading tb)] [(0 : Int) ≤ ((at_ l.Edges t35.toNat).From) ∧ ((at_ l.Edges t35.toNat).From) < (tb.length : Int), ((at_ l.Edges t35.toNat).From).toNat < tb.length, (((at_ l.Edges t35.toNat).From).toNat) < tb.length] ⟨⟨(by first | omega | (simp only [List.length_replicate, List.length_set]; omega)), (by first | omega | (simp only [List.length_replicate, List.length_set]; omega))⟩, (by first | omega | (simp only [List.length_replicate, List.length_set]; omega)), (by first | omega | (simp only [List.length_replicate, List.length_set]; omega)), trivial⟩ ?_
       refine x_block ?_
       refine x_loop (X := (List Reading) × Int) (fun x => mkS [(2, I width), (3, .ref 3 0), (4, .ref 4 0), (7, .arr 17), (8, I node), (9, .arr 709), (11, .ref 11 0), (33, slEdge false l.Edges), (34, I (l.Edges.length : Int)), (35, I t35), (47, .row 8661 (((at_ l.Edges t35.toNat).From).toNat)), (48, I (((at_ tb (((at_ l.Edges t35.toNat).From).toNat)).length) : Int)), (49, I x.2)] [(3, bxLattice l), (4, .box [slEntry false lx.Entries]), (11, bxEdge (at_ l.Edges t35.toNat)), (17, tOLReading 8661 tb), (709, tAReading x.1), (8661, tFLReading tb)]) (fun x => (0 ≤ x.2 ∧ x.2 ≤ ((at_ tb (at_ l.Edges t35.toNat).From.toNat).length : Int)) ∧ (x.1 = lst2 ++ exr (begB lx) (at_ l.Edges t35.toNat) (at_ tb (at_ l.Edges t35.toNat).From.toNat) x.2.toNat) ∧ True) (fun x => (((at_ tb (at_ l.Edges t35.toNat).From.toNat).length : Int) - x.2).toNat) (lst2, 0) rfl (show (0 ≤ (0 : Int) ∧ (0 : Int) ≤ ((at_ tb (at_ l.Edges t35.toNat).From.toNat).length : Int)) ∧ (lst2 = lst2 ++ exr (begB lx) (at_ l.Edges t35.toNat) (at_ tb (at_ l.Edges t35.toNat).From.toNat) (0 : Int).toNat) ∧ True from ⟨(by omega), (by (show lst2 = lst2 ++ []; rw [List.append_nil])), trivial⟩) (fun x hI => ?_)
       obtain ⟨lst3, t49⟩ := x
       obtain ⟨hj0, hls3, _⟩ : (0 ≤ t49 ∧ t49 ≤ ((at_ tb (at_ l.Edges t35.toNat).From.toNat).length : Int)) ∧ (lst3 = lst2 ++ exr (begB lx) (at_ l.Edges t35.toNat) (at_ tb (at_ l.Edges t35.toNat).From.toNat) t49.toNat) ∧ True := hI
       show XW _ _ _ _ (mkS [(2, I width), (3, .ref 3 0), (4, .ref 4 0), (7, .arr 17), (8, I node), (9, .arr 709), (11, .ref 11 0), (33, slEdge false l.Edges), (34, I (l.Edges.length : Int)), (35, I t35), (47, .row 8661 (((at_ l.Edges t35.toNat).From).toNat)), (48, I (((at_ tb (((at_ l.Edges t35.toNat).From).toNat)).length) : Int)), (49, I t49)] [(3, bxLattice l), (4, .box [slEntry false lx.Entries]), (11, bxEdge (at_ l.Edges t35.toNat)), (17, tOLReading 8661 tb), (709, tAReading lst3), (8661, tFLReading tb)]) _ _
       refine x_seq ?_
       by_cases h10 : t49 < (((at_ tb (((at_ l.Edges t35.toNat).From).toNat)).length) : Int)
       ·have hjl : t49.toNat < (at_ tb (at_ l.Edges t35.toNat).From.toNat).length := by omega
        have hrd := (hok.2 _ hfl).2 _ (at_mem hjl)
        have hrd1 := hrd.1
        have hrd2 := hrd.2
        have hjj : (t49 + 1).toNat = t49.toNat + 1 := by omega
        have hel := exr_len (begB lx) (at_ l.Edges t35.toNat) (at_ tb (at_ l.Edges t35.toNat).From.toNat) t49.toNat
        have hl3 : lst3.length ≤ lst2.length + t49.toNat := by rw [hls3, List.length_append]; omega
        refine x_r [(0, .dec true)] [2, 3, 4, 7, 8, 9, 11, 33, 34, 35, 47, 48, 49, 50] [3, 4, 11, 17, 709, 8661] [I width, .ref 3 0, .ref 4 0, .arr 17, I node, .arr 709, .ref 11 0, slEdge false l.Edges, I (l.Edges.length : Int), I t35, .row 8661 (((at_ l.Edges t35.toNat).From).toNat), I (((at_ tb (((at_ l.Edges t35.toNat).From).toNat)).length) : Int), I t49, Bv true] [some (bxLattice l), some (.box [slEntry false lx.Entries]), some (bxEdge (at_ l.Edges t35.toNat)), some (tOLReading 8661 tb), some (tAReading lst3), some (tFLReading tb)] [t49 < (((at_ tb (((at_ l.Edges t35.toNat).From).toNat)).length) : Int)] ⟨h10, trivial⟩ ?_
        refine xe_then ?_
        refine x_seq ?_
        refine x_true rfl ?_
        refine x_skip ?_
        refine xe_then ?_
        refine x_seq ?_
        refine x_block ?_
        refine xR [(2, .new 13)] [2, 3, 4, 7, 8, 9, 11, 13, 33, 34, 35, 47, 48, 49] [3, 4, 11, 13, 17, 709, 8661] [I width, .ref 3 0, .ref 4 0, .arr 17, I node, .arr 709, .ref 11 0, .ref 13 0, slEdge false l.Edges, I (l.Edges.length : Int), I t35, .row 8661 (((at_ l.Edges t35.toNat).From).toNat), I (((at_ tb (((at_ l.Edges t35.toNat).From).toNat)).length) : Int), I t49] [some (bxLattice l), some (.box [slEntry false lx.Entries]), some (bxEdge (at_ l.Edges t35.toNat)), some (bxReading (at_ (at_ tb (((at_ l.Edges t35.toNat).From).toNat)) t49.toNat)), some (tOLReading 8661 tb), some (tAReading lst3), some (tFLReading tb)] [(((at_ l.Edges t35.toNat).From).toNat) < tb.length ∧ (0 : Int) ≤ t49 ∧ t49 < (((at_ tb (((at_ l.Edges t35.toNat).From).toNat)).length) : Int), (((at_ l.Edges t35.toNat).From).toNat) < tb.length ∧ t49.toNat < (at_ tb (((at_ l.Edges t35.toNat).From).toNat)).length] ⟨⟨(by first | omega | (simp only [List.length_replicate, List.length_set]; omega)), (by first | omega | (simp only [List.length_replicate, List.length_set]; omega)), (by first | omega | (simp only [List.length_replicate, List.length_set]; omega))⟩, ⟨(by first | omega | (simp only [List.length_replicate, List.length_set]; omega)), (by first | omega | (simp only [List.length_replicate, List.length_set]; omega))⟩, trivial⟩ ?_
        refine xR [] [2, 3, 4, 7, 8, 9, 11, 13, 14, 33, 34, 35, 47, 48, 49] [3, 4, 11, 13, 17, 709, 8661] [I width, .ref 3 0, .ref 4 0, .arr 17, I node, .arr 709, .ref 11 0, .ref 13 0, Sv (((at_ (at_ tb (((at_ l.Edges t35.toNat).From).toNat)) t49.toNat).Text) ++ ((at_ l.Edges t35.toNat).Label)), slEdge false l.Edges, I (l.Edges.length : Int), I t35, .row 8661 (((at_ l.Edges t35.toNat).From).toNat), I (((at_ tb (((at_ l.Edges t35.toNat).From).toNat)).length) : Int), I t49] [some (bxLattice l), some (.box [slEntry false lx.Entries]), some (bxEdge (at_ l.Edges t35.toNat)), some (bxReading (at_ (at_ tb (((at_ l.Edges t35.toNat).From).toNat)) t49.toNat)), some (tOLReading 8661 tb), some (tAReading lst3), some (tFLReading tb)] [((at_ (at_ tb (((at_ l.Edges t35.toNat).From).toNat)) t49.toNat).Text).size + ((at_ l.Edges t35.toNat).Label).size ≤ 9223372036854775807] ⟨(by first | omega | (simp only [List.length_replicate, List.length_set]; omega)), trivial⟩ ?_
        refine x_seq ?_
        rcases Bool.eq_false_or_eq_true (begB lx (((at_ (at_ tb (((at_ l.Edges t35.toNat).From).toNat)) t49.toNat).Text) ++ ((at_ l.Edges t35.toNat).Label))) with h11 | h11
        ·have hbg := h11
         refine x_r [(2, .call [(true, .any), (true, .any)] true (Bv true))] [2, 3, 4, 7, 8, 9, 11, 13, 14, 33, 34, 35, 47, 48, 49, 60] [3, 4, 11, 13, 17, 709, 8661] [I width, .ref 3 0, .ref 4 0, .arr 17, I node, .arr 709, .ref 11 0, .ref 13 0, Sv (((at_ (at_ tb (((at_ l.Edges t35.toNat).From).toNat)) t49.toNat).Text) ++ ((at_ l.Edges t35.toNat).Label)), slEdge false l.Edges, I (l.Edges.length : Int), I t35, .row 8661 (((at_ l.Edges t35.toNat).From).toNat), I (((at_ tb (((at_ l.Edges t35.toNat).From).toNat)).length) : Int), I t49, Bv true] [some (bxLattice l), some (.box [slEntry false lx.Entries]), some (bxEdge (at_ l.Edges t35.toNat)), some (bxReading (at_ (at_ tb (((at_ l.Edges t35.toNat).From).toNat)) t49.toNat)), some (tOLReading 8661 tb), some (tAReading lst3), some (tFLReading tb)] [Con Tryz.prog 49 [.agg [slEntry false lx.Entries], Sv (((at_ (at_ tb (((at_ l.Edges t35.toNat).From).toNat)) t49.toNat).Text) ++ ((at_ l.Edges t35.toNat).Label))] true (Bv true) ∧ True] ⟨⟨(con_bool h11 (begins_ok lx (((at_ (at_ tb (((at_ l.Edges t35.toNat).From).toNat)) t49.toNat).Text) ++ ((at_ l.Edges t35.toNat).Label)) hx (by rw [ByteArray.size_append]; omega))), trivial⟩, trivial⟩ ?_
         refine xe_then ?_
         refine x_true rfl ?_
         refine x_r [(8, .new 69), (9, .new 70)] [2, 3, 4, 7, 8, 9, 11, 33, 34, 35, 47, 48, 49] [3, 4, 11, 17, 70, 8661] [I width, .ref 3 0, .ref 4 0, .arr 17, I node, .arr 70, .ref 11 0, slEdge false l.Edges, I (l.Edges.length : Int), I t35, .row 8661 (((at_ l.Edges t35.toNat).From).toNat), I (((at_ tb (((at_ l.Edges t35.toNat).From).toNat)).length) : Int), I t49] [some (bxLattice l), some (.box [slEntry false lx.Entries]), some (bxEdge (at_ l.Edges t35.toNat)), some (tOLReading 8661 tb), some (.arr 2 (lst3.length + 1) (catF lst3.length (fReading lst3) (litF [Sv (((at_ (at_ tb (((at_ l.Edges t35.toNat).From).toNat)) t49.toNat).Text) ++ ((at_ l.Edges t35.toNat).Label)), I (((at_ (at_ tb (((at_ l.Edges t35.toNat).From).toNat)) t49.toNat).Cost) + ((at_ l.Edges t35.toNat).Cost))] 2))), some (tFLReading tb)] [inR .i64 (((at_ (at_ tb (((at_ l.Edges t35.toNat).From).toNat)) t49.toNat).Cost) + ((at_ l.Edges t35.toNat).Cost)), (lst3.length + 1) * 24 ≤ 140737488355328] ⟨(inR_i64 (by first | omega | (simp only [List.length_replicate, List.length_set]; omega)) (by first | omega | (simp only [List.length_replicate, List.length_set]; omega))), (by first | omega | (simp only [List.length_replicate, List.length_set]; omega)), trivial⟩ ?_
         refine xe_block 5 ?_
         refine xe_then ?_
         refine x_r [] [2, 3, 4, 7, 8, 9, 11, 33, 34, 35, 47, 48, 49] [3, 4, 11, 17, 70, 8661] [I width, .ref 3 0, .ref 4 0, .arr 17, I node, .arr 70, .ref 11 0, slEdge false l.Edges, I (l.Edges.length : Int), I t35, .row 8661 (((at_ l.Edges t35.toNat).From).toNat), I (((at_ tb (((at_ l.Edges t35.toNat).From).toNat)).length) : Int), I (t49 + 1)] [some (bxLattice l), some (.box [slEntry false lx.Entries]), some (bxEdge (at_ l.Edges t35.toNat)), some (tOLReading 8661 tb), some (.arr 2 (lst3.length + 1) (catF lst3.length (fReading lst3) (litF [Sv (((at_ (at_ tb (((at_ l.Edges t35.toNat).From).toNat)) t49.toNat).Text) ++ ((at_ l.Edges t35.toNat).Label)), I (((at_ (at_ tb (((at_ l.Edges t35.toNat).From).toNat)) t49.toNat).Cost) + ((at_ l.Edges t35.toNat).Cost))] 2))), some (tFLReading tb)] [inR .i64 (t49 + 1)] ⟨(inR_i64 (by first | omega | (simp only [List.length_replicate, List.length_set]; omega)) (by first | omega | (simp only [List.length_replicate, List.length_set]; omega))), trivial⟩ ?_
         refine xe_weak [(709, 70)] (T := [(2, I width), (3, .ref 3 0), (4, .ref 4 0), (7, .arr 17), (8, I node), (9, .arr 709), (11, .ref 11 0), (33, slEdge false l.Edges), (34, I (l.Edges.length : Int)), (35, I t35), (47, .row 8661 (((at_ l.Edges t35.toNat).From).toNat)), (48, I (((at_ tb (((at_ l.Edges t35.toNat).From).toNat)).length) : Int)), (49, I (t49 + 1))]) (O := [(3, bxLattice l), (4, .box [slEntry false lx.Entries]), (11, bxEdge (at_ l.Edges t35.toNat)), (17, tOLReading 8661 tb), (709, tAReading (lst3 ++ [(Reading.mk (((at_ (at_ tb (((at_ l.Edges t35.toNat).From).toNat)) t49.toNat).Text) ++ ((at_ l.Edges t35.toNat).Label)) (((at_ (at_ tb (((at_ l.Edges t35.toNat).From).toNat)) t49.toNat).Cost) + ((at_ l.Edges t35.toNat).Cost)))])), (8661, tFLReading tb)]) rfl (⟨.inl rfl, .inl rfl, .inl rfl, .inl rfl, .inl rfl, .inl rfl, .inl rfl, .inl rfl, .inl rfl, .inl rfl, .inl rfl, .inl rfl, .inl rfl, trivial⟩) (⟨.inl rfl, .inl rfl, .inl rfl, .inl rfl, .inr ⟨rfl, (by first | rfl | (simp; done) | (simp; omega) | omega), fun i_ hi_ => .inl (cat_snoc (enc := cReading) (xs := lst3) rfl i_ hi_)⟩, .inl rfl, trivial⟩) (xe_again ((lst3 ++ [(Reading.mk (((at_ (at_ tb (((at_ l.Edges t35.toNat).From).toNat)) t49.toNat).Text) ++ ((at_ l.Edges t35.toNat).Label)) (((at_ (at_ tb (((at_ l.Edges t35.toNat).From).toNat)) t49.toNat).Cost) + ((at_ l.Edges t35.toNat).Cost)))]), (t49 + 1)) rfl (show (0 ≤ (t49 + 1) ∧ (t49 + 1) ≤ ((at_ tb (at_ l.Edges t35.toNat).From.toNat).length : Int)) ∧ ((lst3 ++ [(Reading.mk (((at_ (at_ tb (((at_ l.Edges t35.toNat).From).toNat)) t49.toNat).Text) ++ ((at_ l.Edges t35.toNat).Label)) (((at_ (at_ tb (((at_ l.Edges t35.toNat).From).toNat)) t49.toNat).Cost) + ((at_ l.Edges t35.toNat).Cost)))]) = lst2 ++ exr (begB lx) (at_ l.Edges t35.toNat) (at_ tb (at_ l.Edges t35.toNat).From.toNat) (t49 + 1).toNat) ∧ True from ⟨(by omega), (by first | (rw [hjj, ← exr_y hjl hbg, ← List.append_assoc, ← hls3]; rfl) | (rw [hjj, ← exr_n hjl (by simpa using hbg)]; exact hls3)), trivial⟩) (by first | (show ((((at_ tb (at_ l.Edges t35.toNat).From.toNat).length : Int) - (t49 + 1)).toNat : Nat) < (((at_ tb (at_ l.Edges t35.toNat).From.toNat).length : Int) - t49).toNat; omega) | (dsimp only; omega)))
        have hbg := h11
        refine x_r [(2, .call [(true, .any), (true, .any)] true (Bv false))] [2, 3, 4, 7, 8, 9, 11, 13, 14, 33, 34, 35, 47, 48, 49, 60] [3, 4, 11, 13, 17, 709, 8661] [I width, .ref 3 0, .ref 4 0, .arr 17, I node, .arr 709, .ref 11 0, .ref 13 0, Sv (((at_ (at_ tb (((at_ l.Edges t35.toNat).From).toNat)) t49.toNat).Text) ++ ((at_ l.Edges t35.toNat).Label)), slEdge false l.Edges, I (l.Edges.length : Int), I t35, .row 8661 (((at_ l.Edges t35.toNat).From).toNat), I (((at_ tb (((at_ l.Edges t35.toNat).From).toNat)).length) : Int), I t49, Bv false] [some (bxLattice l), some (.box [slEntry false lx.Entries]), some (bxEdge (at_ l.Edges t35.toNat)), some (bxReading (at_ (at_ tb (((at_ l.Edges t35.toNat).From).toNat)) t49.toNat)), some (tOLReading 8661 tb), some (tAReading lst3), some (tFLReading tb)] [Con Tryz.prog 49 [.agg [slEntry false lx.Entries], Sv (((at_ (at_ tb (((at_ l.Edges t35.toNat).From).toNat)) t49.toNat).Text) ++ ((at_ l.Edges t35.toNat).Label))] true (Bv false) ∧ True] ⟨⟨(con_bool h11 (begins_ok lx (((at_ (at_ tb (((at_ l.Edges t35.toNat).From).toNat)) t49.toNat).Text) ++ ((at_ l.Edges t35.toNat).Label)) hx (by rw [ByteArray.size_append]; omega))), trivial⟩, trivial⟩ ?_
        refine xe_then ?_
        refine x_false rfl ?_
        refine x_skip ?_
        refine xe_block 5 ?_
        refine xe_then ?_
        refine x_r [] [2, 3, 4, 7, 8, 9, 11, 33, 34, 35, 47, 48, 49] [3, 4, 11, 17, 709, 8661] [I width, .ref 3 0, .ref 4 0, .arr 17, I node, .arr 709, .ref 11 0, slEdge false l.Edges, I (l.Edges.length : Int), I t35, .row 8661 (((at_ l.Edges t35.toNat).From).toNat), I (((at_ tb (((at_ l.Edges t35.toNat).From).toNat)).length) : Int), I (t49 + 1)] [some (bxLattice l), some (.box [slEntry false lx.Entries]), some (bxEdge (at_ l.Edges t35.toNat)), some (tOLReading 8661 tb), some (tAReading lst3), some (tFLReading tb)] [inR .i64 (t49 + 1)] ⟨(inR_i64 (by first | omega | (simp only [List.length_replicate, List.length_set]; omega)) (by first | omega | (simp only [List.length_replicate, List.length_set]; omega))), trivial⟩ ?_
        exact xe_again (lst3, (t49 + 1)) rfl (show (0 ≤ (t49 + 1) ∧ (t49 + 1) ≤ ((at_ tb (at_ l.Edges t35.toNat).From.toNat).length : Int)) ∧ (lst3 = lst2 ++ exr (begB lx) (at_ l.Edges t35.toNat) (at_ tb (at_ l.Edges t35.toNat).From.toNat) (t49 + 1).toNat) ∧ True from ⟨(by omega), (by first | (rw [hjj, ← exr_y hjl hbg, ← List.append_assoc, ← hls3]; rfl) | (rw [hjj, ← exr_n hjl (by simpa using hbg)]; exact hls3)), trivial⟩) (by first | (show ((((at_ tb (at_ l.Edges t35.toNat).From.toNat).length : Int) - (t49 + 1)).toNat : Nat) < (((at_ tb (at_ l.Edges t35.toNat).From.toNat).length : Int) - t49).toNat; omega) | (dsimp only; omega))
       have hje : t49.toNat = (at_ tb (at_ l.Edges t35.toNat).From.toNat).length := by omega
       rw [hje] at hls3
       refine x_r [(0, .dec false)] [2, 3, 4, 7, 8, 9, 11, 33, 34, 35, 47, 48, 49, 50] [3, 4, 11, 17, 709, 8661] [I width, .ref 3 0, .ref 4 0, .arr 17, I node, .arr 709, .ref 11 0, slEdge false l.Edges, I (l.Edges.length : Int), I t35, .row 8661 (((at_ l.Edges t35.toNat).From).toNat), I (((at_ tb (((at_ l.Edges t35.toNat).From).toNat)).length) : Int), I t49, Bv false] [some (bxLattice l), some (.box [slEntry false lx.Entries]), some (bxEdge (at_ l.Edges t35.toNat)), some (tOLReading 8661 tb), some (tAReading lst3), some (tFLReading tb)] [¬ (t49 < (((at_ tb (((at_ l.Edges t35.toNat).From).toNat)).length) : Int))] ⟨h10, trivial⟩ ?_
       refine xe_then ?_
       refine x_seq ?_
       refine x_false rfl ?_
       refine x_exit ?_
       refine xe_exit_then ?_
       refine xe_loop_exit ?_
       refine xe_exit_same ?_
       refine xe_block 3 ?_
       refine xe_then ?_
       refine x_r [] [2, 3, 4, 7, 8, 9, 33, 34, 35] [3, 4, 17, 709, 8661] [I width, .ref 3 0, .ref 4 0, .arr 17, I node, .arr 709, slEdge false l.Edges, I (l.Edges.length : Int), I (t35 + 1)] [some (bxLattice l), some (.box [slEntry false lx.Entries]), some (tOLReading 8661 tb), some (tAReading lst3), some (tFLReading tb)] [inR .i64 (t35 + 1)] ⟨(inR_i64 (by first | omega | (simp only [List.length_replicate, List.length_set]; omega)) (by first | omega | (simp only [List.length_replicate, List.length_set]; omega))), trivial⟩ ?_
       exact xe_again (lst3, (t35 + 1)) rfl (show (0 ≤ (t35 + 1) ∧ (t35 + 1) ≤ (l.Edges.length : Int)) ∧ (lst3 = bmC (begB lx) l tb node.toNat (t35 + 1).toNat) ∧ True from ⟨(by omega), (by first | (rw [hii, ← bmC_y hff, ← hls]; exact hls3) | (rw [hii, ← bmC_n hff]; exact hls)), trivial⟩) (by first | (show (((l.Edges.length : Int) - (t35 + 1)).toNat : Nat) < ((l.Edges.length : Int) - t35).toNat; omega) | (dsimp only; omega))
      have hff : ¬ (at_ l.Edges t35.toNat).To = ((node.toNat : Nat) : Int) := by omega
      refine x_r [(3, .dec true)] [2, 3, 4, 7, 8, 9, 11, 33, 34, 35, 42] [3, 4, 11, 17, 709, 8661] [I width, .ref 3 0, .ref 4 0, .arr 17, I node, .arr 709, .ref 11 0, slEdge false l.Edges, I (l.Edges.length : Int), I t35, Bv true] [some (bxLattice l), some (.box [slEntry false lx.Entries]), some (bxEdge (at_ l.Edges t35.toNat)), some (tOLReading 8661 tb), some (tAReading lst2), some (tFLReading tb)] [((at_ l.Edges t35.toNat).To) ≠ node] ⟨h9, trivial⟩ ?_
      refine xe_then ?_
      refine x_true rfl ?_
      refine x_exit ?_
      refine xe_exit_then ?_
      refine xe_exit_same ?_
      refine xe_then ?_
      refine x_r [] [2, 3, 4, 7, 8, 9, 33, 34, 35] [3, 4, 17, 709, 8661] [I width, .ref 3 0, .ref 4 0, .arr 17, I node, .arr 709, slEdge false l.Edges, I (l.Edges.length : Int), I (t35 + 1)] [some (bxLattice l), some (.box [slEntry false lx.Entries]), some (tOLReading 8661 tb), some (tAReading lst2), some (tFLReading tb)] [inR .i64 (t35 + 1)] ⟨(inR_i64 (by first | omega | (simp only [List.length_replicate, List.length_set]; omega)) (by first | omega | (simp only [List.length_replicate, List.length_set]; omega))), trivial⟩ ?_
      exact xe_again (lst2, (t35 + 1)) rfl (show (0 ≤ (t35 + 1) ∧ (t35 + 1) ≤ (l.Edges.length : Int)) ∧ (lst2 = bmC (begB lx) l tb node.toNat (t35 + 1).toNat) ∧ True from ⟨(by omega), (by first | (rw [hii, ← bmC_y hff, ← hls]; exact hls3) | (rw [hii, ← bmC_n hff]; exact hls)), trivial⟩) (by first | (show (((l.Edges.length : Int) - (t35 + 1)).toNat : Nat) < ((l.Edges.length : Int) - t35).toNat; omega) | (dsimp only; omega))
     have hie : t35.toNat = l.Edges.length := by omega
     have hcl := bmC_len (p := begB lx) (l := l) (T := tb) (n := node.toNat) hrw t35.toNat
     have hw30 : width.toNat * t35.toNat ≤ 30 * 200 := Nat.mul_le_mul (by omega) (by omega)
     rw [← hls] at hcl
     refine x_r [(0, .dec false)] [2, 3, 4, 7, 8, 9, 33, 34, 35, 36] [3, 4, 17, 709, 8661] [I width, .ref 3 0, .ref 4 0, .arr 17, I node, .arr 709, slEdge false l.Edges, I (l.Edges.length : Int), I t35, Bv false] [some (bxLattice l), some (.box [slEntry false lx.Entries]), some (tOLReading 8661 tb), some (tAReading lst2), some (tFLReading tb)] [¬ (t35 < (l.Edges.length : Int))] ⟨h8, trivial⟩ ?_
     refine xe_then ?_
     refine x_seq ?_
     refine x_false rfl ?_
     refine x_exit ?_
     refine xe_exit_then ?_
     refine xe_loop_exit ?_
     refine xe_exit_same ?_
     refine xe_then ?_
     refine x_weak [(8621, 709)] (T := [(2, I width), (3, .ref 3 0), (4, .ref 4 0), (7, .arr 17), (8, I node), (9, .arr 8621), (33, slEdge false l.Edges), (34, I (l.Edges.length : Int)), (35, I t35), (36, Bv false)]) (O := [(3, bxLattice l), (4, .box [slEntry false lx.Entries]), (17, tOLReading 8661 tb), (8621, tAReading lst2), (8661, tFLReading tb)]) rfl (⟨.inl rfl, .inl rfl, .inl rfl, .inl rfl, .inl rfl, .inl rfl, .inl rfl, .inl rfl, .inl rfl, .inl rfl, trivial⟩) (⟨.inl rfl, .inl rfl, .inl rfl, .inl rfl, .inl rfl, trivial⟩) ?_
     obtain ⟨list'_2, out_2, hx2_0, hc2⟩ := firstR_ok lst2 width (by omega) (by omega)
     have hout := hx2_0
     refine x_r [(4, .lend [(8621, tAReading lst2, tAReading list'_2)] [(8622, tAReading out_2)] [(true, .any), (true, .any)] false (.arr 8622))] [2, 3, 4, 7, 8] [3, 4, 17, 8622, 8661] [I width, .ref 3 0, .ref 4 0, .arr 17, I node] [some (bxLattice l), some (.box [slEntry false lx.Entries]), some (.oar [8661, 8622] 1 tb.length (fun q => bif Nat.beq q node.toNat then [.arr 8622] else (oLReading 8661 tb) q)), some (tAReading out_2), some (tFLReading tb)] [CallOK Tryz.prog 50 [.arr 8621, I width] (lookO [(8621, tAReading lst2)]) false (.arr 8622) (lookO [(8621, tAReading list'_2), (8622, tAReading out_2)]) ∧ (((tAReading lst2 : Ob) = tAReading lst2 ∨ obLe noOb true (tAReading lst2) (tAReading lst2)) ∧ taggedO false (tAReading lst2)) ∧ True, (0 : Int) ≤ node ∧ node < (tb.length : Int), node.toNat < tb.length] ⟨⟨hc2, ⟨.inl rfl, fun _ _ => tagcReading false _⟩, trivial⟩, ⟨(by first | omega | (simp only [List.length_replicate, List.length_set]; omega)), (by first | omega | (simp only [List.length_replicate, List.length_set]; omega))⟩, (by first | omega | (simp only [List.length_replicate, List.length_set]; omega)), trivial⟩ ?_
     refine xe_block 1 ?_
     refine xe_then ?_
     refine x_putrow 17 8622 8661 node.toNat rfl rfl rfl ((by first | omega | (simp only [List.length_replicate, List.length_set]; omega))) (by first | exact Nat.le_refl _ | omega) (fun q _ => ⟨fun e => by subst e; simp only [Nat.beq_refl, cond_true], fun e => by simp only [beq_ne e, cond_false]; rfl⟩) (by kernel_rfl) ?_
     refine x_weak [] (T := [(2, I width), (3, .ref 3 0), (4, .ref 4 0), (7, .arr 17), (8, I node)]) (O := [(3, bxLattice l), (4, .box [slEntry false lx.Entries]), (17, tOLReading 8661 (tb.set node.toNat out_2)), (8661, tFLReading (tb.set node.toNat out_2))]) rfl (⟨.inl rfl, .inl rfl, .inl rfl, .inl rfl, .inl rfl, trivial⟩) (⟨.inl rfl, .inl rfl, .inr ⟨rfl, rfl, (by simp), fun i hi => .inl rfl⟩, .inr (fputLReading ((by first | omega | (simp only [List.length_replicate, List.length_set]; omega))) (by first | rfl | (simp; done) | (simp; omega)) (fun i _ => rfl)), trivial⟩) ?_
     refine x_r [] [2, 3, 4, 7, 8] [3, 4, 17, 8661] [I width, .ref 3 0, .ref 4 0, .arr 17, I (node + 1)] [some (bxLattice l), some (.box [slEntry false lx.Entries]), some (tOLReading 8661 (tb.set node.toNat out_2)), some (tFLReading (tb.set node.toNat out_2))] [inR .i64 (node + 1)] ⟨(inR_i64 (by first | omega | (simp only [List.length_replicate, List.length_set]; omega)) (by first | omega | (simp only [List.length_replicate, List.length_set]; omega))), trivial⟩ ?_
     exact xe_again ((node + 1), (tb.set node.toNat out_2)) rfl (show (1 ≤ (node + 1) ∧ (node + 1) ≤ l.Nodes) ∧ ((tb.set node.toNat out_2) = bmT (begB lx) l width.toNat (bm0 l lx) ((node + 1) - 1).toNat) ∧ True from ⟨(by omega), (by (rw [show (node + 1 - 1).toNat = (node - 1).toNat + 1 from by omega, hout, hls, hie, htb, ← hnm]; rfl)), trivial⟩) (by first | (show ((l.Nodes - (node + 1)).toNat : Nat) < (l.Nodes - node).toNat; omega) | (dsimp only; omega))
    have hne : (node - 1).toNat = l.Nodes.toNat - 1 := by omega
    refine x_r [(3, .dec false)] [2, 3, 4, 7, 8, 29] [3, 4, 17, 8661] [I width, .ref 3 0, .ref 4 0, .arr 17, I node, Bv false] [some (bxLattice l), some (.box [slEntry false lx.Entries]), some (tOLReading 8661 tb), some (tFLReading tb)] [¬ (node < l.Nodes)] ⟨h7, trivial⟩ ?_
    refine xe_then ?_
    refine x_false rfl ?_
    refine x_exit ?_
    refine xe_exit_then ?_
    refine xe_loop_exit ?_
    refine xe_exit_same ?_
    refine xe_then ?_
    refine x_seq ?_
    refine x_weak [] (T := [(2, I width), (3, .ref 3 0), (4, .ref 4 0), (7, .arr 17), (8, I node), (29, Bv false)]) (O := [(3, bxLattice l), (4, .box [slEntry false lx.Entries]), (17, tALReading true tb)]) rfl (⟨.inl rfl, .inl rfl, .inl rfl, .inl rfl, .inl rfl, .inl rfl, trivial⟩) (⟨.inl rfl, .inl rfl, .inr ⟨rfl, rfl, oleLReading true _ rfl⟩, trivial⟩) ?_
    refine x_r [] [6] [17] [.arr 17] [some (tALReading true tb)] [] trivial ?_
    refine xe_then ?_
    refine x_ret ?_
    refine xe_end tb (show (tb = beamT l lx width.toNat) ∧ (True) from ⟨(by (rw [htb, hne]; rfl)), trivial⟩) (trivial) (.arr 17) (by kernel_rfl) (.inr ⟨(fun _ => rfl), rfl, rfl, fun i _ => .inl rfl⟩) (fun _ => rfl) (fun _ => (tagLReading true _))
  obtain ⟨v, ⟨hh0, _⟩, hc⟩ := hh
  exact ⟨v, hh0, hc⟩



-- impl.compareFound
theorem compareFound_ok (a : Found) (b : Found) : Con Tryz.prog 40 [agFound a, agFound b] true (I (cmpF a b)) := by
  refine fn_ok (fn := Tryz.f40) (nt := 30) Tryz.func40 rfl rfl rfl rfl (by simp [taggedL, tagged]) fun B hB => ?_
  refine aR [(0, .new 2), (1, .new 3)] [2, 3] [2, 3] [.ref 2 0, .ref 3 0] [some (bxFound a), some (bxFound b)] [] hB trivial ?_
  refine aR [(4, .wrap), (9, .wrap), (10, .call [(true, .any), (true, .any)] true (I (cmpI (IntKind.i64.wrap (a.Path + a.Own)) (IntKind.i64.wrap (b.Path + b.Own))))), (17, .call [(true, .any), (true, .any)] true (I (cmpI (a.Word.size : Int) (b.Word.size : Int)))), (22, .call [(true, .any), (true, .any)] true (I (cmpS a.Word b.Word))), (23, .new 28), (24, .call [(false, slI false ([(cmpI (IntKind.i64.wrap (a.Path + a.Own)) (IntKind.i64.wrap (b.Path + b.Own))), (cmpI (a.Word.size : Int) (b.Word.size : Int)), (cmpS a.Word b.Word)]))] true (I (orL ([(cmpI (IntKind.i64.wrap (a.Path + a.Own)) (IntKind.i64.wrap (b.Path + b.Own))), (cmpI (a.Word.size : Int) (b.Word.size : Int)), (cmpS a.Word b.Word)]))))] [4] [] [I (orL ([(cmpI (IntKind.i64.wrap (a.Path + a.Own)) (IntKind.i64.wrap (b.Path + b.Own))), (cmpI (a.Word.size : Int) (b.Word.size : Int)), (cmpS a.Word b.Word)]))] [] [Con Tryz.prog 62 [I (IntKind.i64.wrap (a.Path + a.Own)), I (IntKind.i64.wrap (b.Path + b.Own))] true (I (cmpI (IntKind.i64.wrap (a.Path + a.Own)) (IntKind.i64.wrap (b.Path + b.Own)))) ∧ True, Con Tryz.prog 63 [I (a.Word.size : Int), I (b.Word.size : Int)] true (I (cmpI (a.Word.size : Int) (b.Word.size : Int))) ∧ True, Con Tryz.prog 60 [Sv a.Word, Sv b.Word] true (I (cmpS a.Word b.Word)) ∧ True, Con Tryz.prog 61 [slI false ([(cmpI (IntKind.i64.wrap (a.Path + a.Own)) (IntKind.i64.wrap (b.Path + b.Own))), (cmpI (a.Word.size : Int) (b.Word.size : Int)), (cmpS a.Word b.Word)])] true (I (orL ([(cmpI (IntKind.i64.wrap (a.Path + a.Own)) (IntKind.i64.wrap (b.Path + b.Own))), (cmpI (a.Word.size : Int) (b.Word.size : Int)), (cmpS a.Word b.Word)]))) ∧ ((false = true → true = true) ∧ 1 = 1 ∧ 3 = (([(cmpI (IntKind.i64.wrap (a.Path + a.Own)) (IntKind.i64.wrap (b.Path + b.Own))), (cmpI (a.Word.size : Int) (b.Word.size : Int)), (cmpS a.Word b.Word)]).length) ∧ ∀ i_, i_ < (([(cmpI (IntKind.i64.wrap (a.Path + a.Own)) (IntKind.i64.wrap (b.Path + b.Own))), (cmpI (a.Word.size : Int) (b.Word.size : Int)), (cmpS a.Word b.Word)]).length) → (litF [I (cmpI (IntKind.i64.wrap (a.Path + a.Own)) (IntKind.i64.wrap (b.Path + b.Own))), I (cmpI (a.Word.size : Int) (b.Word.size : Int)), I (cmpS a.Word b.Word)] 1) i_ = (fI ([(cmpI (IntKind.i64.wrap (a.Path + a.Own)) (IntKind.i64.wrap (b.Path + b.Own))), (cmpI (a.Word.size : Int) (b.Word.size : Int)), (cmpS a.Word b.Word)])) i_ ∨ (AV.idsL ((fI ([(cmpI (IntKind.i64.wrap (a.Path + a.Own)) (IntKind.i64.wrap (b.Path + b.Own))), (cmpI (a.Word.size : Int) (b.Word.size : Int)), (cmpS a.Word b.Word)])) i_) = [] ∧ leL (fun _ => none) false ((litF [I (cmpI (IntKind.i64.wrap (a.Path + a.Own)) (IntKind.i64.wrap (b.Path + b.Own))), I (cmpI (a.Word.size : Int) (b.Word.size : Int)), I (cmpS a.Word b.Word)] 1) i_) ((fI ([(cmpI (IntKind.i64.wrap (a.Path + a.Own)) (IntKind.i64.wrap (b.Path + b.Own))), (cmpI (a.Word.size : Int) (b.Word.size : Int)), (cmpS a.Word b.Word)])) i_))) ∧ True] hB ⟨⟨(CompareI_ok (IntKind.i64.wrap (a.Path + a.Own)) (IntKind.i64.wrap (b.Path + b.Own))), trivial⟩, ⟨(CompareJ_ok (a.Word.size : Int) (b.Word.size : Int)), trivial⟩, ⟨(CompareS_ok a.Word b.Word), trivial⟩, ⟨(OrI_ok ([(cmpI (IntKind.i64.wrap (a.Path + a.Own)) (IntKind.i64.wrap (b.Path + b.Own))), (cmpI (a.Word.size : Int) (b.Word.size : Int)), (cmpS a.Word b.Word)])), ⟨(fun h => by cases h), rfl, (by first | rfl | (simp; done) | (simp; omega) | omega), fun i_ hi_ => .inl (match i_, hi_ with | 0, _ => rfl | 1, _ => rfl | 2, _ => rfl | (i + 3), h => absurd h (by simp))⟩, trivial⟩, trivial⟩ ?_
  refine aw_ret ?_
  refine ae_ret hB (I (orL ([(cmpI (IntKind.i64.wrap (a.Path + a.Own)) (IntKind.i64.wrap (b.Path + b.Own))), (cmpI (a.Word.size : Int) (b.Word.size : Int)), (cmpS a.Word b.Word)]))) (by kernel_rfl) (.inl (by rfl)) rfl (fun _ => trivial)



theorem fl_put {out : List Found} {f : Found} {k : Nat} (hs : out.Pairwise fun x y => x.Path + x.Own ≤ y.Path + y.Own) (hk : k ≤ out.length) (hlo : k = 0 ∨ (at_ out (k - 1)).Path + (at_ out (k - 1)).Own ≤ f.Path + f.Own) (hhi : ∀ j : Nat, k ≤ j → j < out.length → f.Path + f.Own ≤ (at_ out j).Path + (at_ out j).Own) : (out.take k ++ [f] ++ out.drop k).Perm (out ++ [f]) ∧ (out.take k ++ [f] ++ out.drop k).Pairwise fun x y => x.Path + x.Own ≤ y.Path + y.Own := by
  have hle : ∀ x ∈ out.take k, x.Path + x.Own ≤ f.Path + f.Own := fun x hx => by
    obtain ⟨i, hi, q⟩ := List.getElem_of_mem hx
    rw [List.length_take] at hi
    rw [List.getElem_take] at q
    rcases hlo with e | e
    · omega
    · by_cases ei : i = k - 1
      · have : at_ out (k - 1) = x := by rw [at_eq (by omega), ← q]; congr 1; exact ei.symm
        rw [this] at e; exact e
      · have p := (List.pairwise_iff_getElem.1 hs) i (k - 1) (by omega) (by omega) (by omega)
        rw [q, ← at_eq (by omega)] at p
        omega
  have hge : ∀ x ∈ out.drop k, f.Path + f.Own ≤ x.Path + x.Own := fun x hx => by
    obtain ⟨i, hi, q⟩ := List.getElem_of_mem hx
    rw [List.length_drop] at hi
    rw [List.getElem_drop] at q
    have := hhi (k + i) (by omega) (by omega)
    rw [at_eq (by omega), q] at this
    exact this
  constructor
  · rw [List.append_assoc]
    refine List.perm_middle.trans ?_
    show (f :: (out.take k ++ out.drop k)).Perm _
    rw [List.take_append_drop]
    exact (List.perm_append_singleton f out).symm
  · rw [List.append_assoc, List.pairwise_append]
    refine ⟨hs.sublist (List.take_sublist _ _), ?_, fun a ha b hb => ?_⟩
    · rw [List.singleton_append, List.pairwise_cons]
      exact ⟨hge, hs.sublist (List.drop_sublist _ _)⟩
    · rw [List.singleton_append, List.mem_cons] at hb
      have := hle a ha
      rcases hb with e | e
      · rw [e]; exact this
      · have := hge b e; omega
theorem mnF_step {xs : List Found} {i : Nat} (h : 1 ≤ i) : mnF xs i = if cmpF (at_ xs i) (mnF xs (i - 1)) < 0 then at_ xs i else mnF xs (i - 1) := by
  obtain ⟨k, rfl⟩ : ∃ k, i = k + 1 := ⟨i - 1, by omega⟩
  rw [Nat.add_sub_cancel]; rfl
theorem bw2_y {lx : Lexicon} (hx : okLex lx) {rs : List Reading} {i : Nat} {pl : Int} (h : pl < (lx.Entries.length : Int) ∧ (at_ lx.Entries pl.toNat).Word = (at_ rs i).Text) (h0 : 0 ≤ pl) : bwI2 lx rs (i + 1) = bwI2 lx rs i ++ [⟨(at_ rs i).Text, (at_ rs i).Cost, (at_ lx.Entries pl.toNat).Cost⟩] := by
  show (if _ then _ else _) = _
  rw [if_pos (any_ent.2 ⟨pl.toNat, by omega, h.2⟩), ent_hit hx (by omega) h.2]
theorem bw2_n {lx : Lexicon} {rs : List Reading} {i : Nat} (h : ∀ j : Nat, j < lx.Entries.length → (at_ lx.Entries j).Word ≠ (at_ rs i).Text) : bwI2 lx rs (i + 1) = bwI2 lx rs i := by
  show (if _ then _ else _) = _
  rw [if_neg fun q => by obtain ⟨j, a, b⟩ := any_ent.1 q; exact h j a b]
theorem bmW_ok {l : Lattice} (hl : okLat l) {lx : Lexicon} (hx : okLex lx) {w : Nat} (hw : 1 ≤ w) (h : 0 < (beamF l lx w).length) : okFd l lx (bmW l lx w) ∧ (bmW l lx w).Own = entC lx (bmW l lx w).Word := beamF_ok hl hx hw (mnF_mem _ (by omega))
theorem bl_of {l : Lattice} (hl : okLat l) {lx : Lexicon} (hx : okLex lx) {w : Nat} (hw : 1 ≤ w) (h : 0 < (beamF l lx w).length) {v : List Found} (hp : v.Perm (rdA l lx)) (hs : v.Pairwise fun x y => ¬ cmpF y x < 0) : 0 < v.length ∧ okFd l lx (at_ v 0) ∧ blOK l lx w ((bmW l lx w).Path + (bmW l lx w).Own - (at_ v 0).Path - (at_ v 0).Own) 0 := by
  have a := bmW_ok hl hx hw h
  obtain ⟨g, hg, hgs⟩ := okFd_rd hl hx a.1
  have h0 : 0 < v.length := List.length_pos_of_mem (hp.mem_iff.2 hg)
  have m := rd_min hl hx hp hs h0
  have b := (rdA_ok hl hx m.1).1
  have c := m.2 g hg
  have a1 := a.1.2.2.2
  have b1 := b.2.2.2
  exact ⟨h0, b, .inl ⟨rfl, h, (at_ v 0).Path + (at_ v 0).Own, ⟨⟨_, m.1, rfl⟩, m.2⟩, by omega, by omega, by omega⟩⟩

end Go.Proofs.YtppknhfdmmnmoaaGreat.Ax
