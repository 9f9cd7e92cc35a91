/- The statement FnFiles: contracts of what it reaches, and its proof. No conditions. -/
import Derived.Test.YtecdjaknbiekkaaGreatDoorAxLFiles3
import Derived.LaidMore
import Derived.Lay
import Derived.Lib.IndexBytes
import Derived.Lib.ItoaNum
import Derived.Lib.ParseIntBCases
import Derived.Lib.SplitLaws
import Derived.OpenShut
import Derived.SevenTiedAt
import Derived.Stop.Joined
import Derived.Test.YtecdjaknbiekkaaGreatDoorAxBd
import Derived.Test.YtecdjaknbiekkaaGreatDoorAxGr
import Derived.Test.YtecdjaknbiekkaaGreatDoorAxS
import Derived.Test.YtecdjaknbiekkaaGreatDoorAxY
namespace Go.Proofs.YtecdjaknbiekkaaGreatDoor.Ax
open Go.RowKit Go.ChangeShapes Go.WideShapes
set_option linter.unusedVariables false
set_option linter.unusedSimpArgs false
theorem l03Same_ok (a : File) (b : File) (hab : a = b) : Con Tryz.prog 48 [.ptr false [slChannel false a.Channels, slRows false a.Strokes, slNote false a.Notes], .ptr false [slChannel false b.Channels, slRows false b.Strokes, slNote false b.Notes]] true (Bv true) := by
  refine fn_ok (fn := Tryz.f48) (nt := 120) Tryz.func48 rfl rfl rfl rfl (by simp [taggedL, tagged, tagChannel, tagNote, tagRows]) fun B hB => ?_
  refine aw_lens (x := .ptr false [slChannel false a.Channels, slRows false a.Strokes, slNote false a.Notes]) 0 rfl (fun len_a => ?_)
  simp [LenOK, LenL, cChannel, cI, cLI, cNote, cRows, fChannel, fI, fLI, fNote, fRows, slChannel, slI, slLI, slNote, slRows] at len_a
  refine aw_lens (x := .ptr false [slChannel false b.Channels, slRows false b.Strokes, slNote false b.Notes]) 1 rfl (fun len_b => ?_)
  simp [LenOK, LenL, cChannel, cI, cLI, cNote, cRows, fChannel, fI, fLI, fNote, fRows, slChannel, slI, slLI, slNote, slRows] at len_b
  refine aR [] [0, 1] [] [.ptr false [slChannel false a.Channels, slRows false a.Strokes, slNote false a.Notes], .ptr false [slChannel false b.Channels, slRows false b.Strokes, slNote false b.Notes]] [] [] hB trivial ?_
  refine aw_seq ?_
  refine aR [(10, .dec false), (22, .dec false), (35, .dec false)] [0, 1, 44] [] [.ptr false [slChannel false a.Channels, slRows false a.Strokes, slNote false a.Notes], .ptr false [slChannel false b.Channels, slRows false b.Strokes, slNote false b.Notes], Bv false] [] [¬ ((a.Channels.length : Int) ≠ (b.Channels.length : Int)), ¬ ((a.Strokes.length : Int) ≠ (b.Strokes.length : Int)), ¬ ((a.Notes.length : Int) ≠ (b.Notes.length : Int))] hB ⟨(fun hq => hq (by rw [hab])), (fun hq => hq (by rw [hab])), (fun hq => hq (by rw [hab])), trivial⟩ ?_
  refine aw_false rfl ?_
  refine aw_skip ?_
  refine ae_then ?_
  refine aw_seq ?_
  refine aR [] [0, 1, 5] [] [.ptr false [slChannel false a.Channels, slRows false a.Strokes, slNote false a.Notes], .ptr false [slChannel false b.Channels, slRows false b.Strokes, slNote false b.Notes], I 0] [] [] hB trivial ?_
  refine aw_block ?_
  refine aw_loop (fun gn gσ => ∃ (i : Int), gn = ((a.Channels.length : Int) - i).toNat ∧ (0 ≤ i ∧ i ≤ (a.Channels.length : Int)) ∧ gσ = mkS [(0, .ptr false [slChannel false a.Channels, slRows false a.Strokes, slNote false a.Notes]), (1, .ptr false [slChannel false b.Channels, slRows false b.Strokes, slNote false b.Notes]), (5, I i)] []) (((a.Channels.length : Int) - 0).toNat) ⟨0, rfl, (by omega), rfl⟩ (fun gn gσ hI => ?_)
  obtain ⟨i, rfl, hi0, rfl⟩ := hI
  refine aw_seq ?_
  refine aw_seq ?_
  by_cases h1 : i < (a.Channels.length : Int)
  ·have hi : i.toNat < a.Channels.length := by omega
   have hi2 : i.toNat < b.Channels.length := by rw [← hab]; exact hi
   refine aw_r [(6, .dec true)] [0, 1, 5, 51] [] [.ptr false [slChannel false a.Channels, slRows false a.Strokes, slNote false a.Notes], .ptr false [slChannel false b.Channels, slRows false b.Strokes, slNote false b.Notes], I i, Bv true] [] [i < (a.Channels.length : Int)] hB ⟨h1, trivial⟩ ?_
   refine ae_then ?_
   refine aw_true rfl ?_
   refine aw_skip ?_
   refine ae_then ?_
   refine aw_seq ?_
   refine aw_block ?_
   refine aR [(14, .dec false)] [0, 1, 5, 68] [] [.ptr false [slChannel false a.Channels, slRows false a.Strokes, slNote false a.Notes], .ptr false [slChannel false b.Channels, slRows false b.Strokes, slNote false b.Notes], I i, Bv false] [] [(0 : Int) ≤ i ∧ i < (a.Channels.length : Int), (0 : Int) ≤ i ∧ i < (b.Channels.length : Int), ¬ (¬ (((at_ a.Channels i.toNat).Name) = ((at_ b.Channels i.toNat).Name) ∧ ((at_ a.Channels i.toNat).Unit) = ((at_ b.Channels i.toNat).Unit) ∧ ((at_ a.Channels i.toNat).Low) = ((at_ b.Channels i.toNat).Low) ∧ ((at_ a.Channels i.toNat).High) = ((at_ b.Channels i.toNat).High) ∧ True))] hB ⟨⟨(by omega), (by omega)⟩, ⟨(by omega), (by omega)⟩, (fun hq => hq (by rw [hab]; refine ⟨rfl, rfl, rfl, ?_⟩; first | exact ⟨rfl, trivial⟩ | trivial)), trivial⟩ ?_
   refine aw_false rfl ?_
   refine aw_skip ?_
   refine ae_block 1 ?_
   refine ae_then ?_
   refine aw_r [] [0, 1, 5] [] [.ptr false [slChannel false a.Channels, slRows false a.Strokes, slNote false a.Notes], .ptr false [slChannel false b.Channels, slRows false b.Strokes, slNote false b.Notes], I (i + 1)] [] [inR .i64 (i + 1)] hB ⟨(inR_i64 (by omega) (by omega)), trivial⟩ ?_
   exact ae_again _ (by omega) ⟨(i + 1), rfl, (by omega), rfl⟩
  refine aw_r [(6, .dec false)] [0, 1, 5, 51] [] [.ptr false [slChannel false a.Channels, slRows false a.Strokes, slNote false a.Notes], .ptr false [slChannel false b.Channels, slRows false b.Strokes, slNote false b.Notes], I i, Bv false] [] [¬ (i < (a.Channels.length : Int))] hB ⟨h1, trivial⟩ ?_
  refine ae_then ?_
  refine aw_false rfl ?_
  refine aw_exit ?_
  refine ae_exit_then ?_
  refine ae_exit_then ?_
  refine ae_exit_same ?_
  refine ae_then ?_
  refine aw_seq ?_
  refine aR [] [0, 1, 6] [] [.ptr false [slChannel false a.Channels, slRows false a.Strokes, slNote false a.Notes], .ptr false [slChannel false b.Channels, slRows false b.Strokes, slNote false b.Notes], I 0] [] [] hB trivial ?_
  refine aw_block ?_
  refine aw_loop (fun gn gσ => ∃ (j : Int), gn = ((a.Strokes.length : Int) - j).toNat ∧ (0 ≤ j ∧ j ≤ (a.Strokes.length : Int)) ∧ gσ = mkS [(0, .ptr false [slChannel false a.Channels, slRows false a.Strokes, slNote false a.Notes]), (1, .ptr false [slChannel false b.Channels, slRows false b.Strokes, slNote false b.Notes]), (6, I j)] []) (((a.Strokes.length : Int) - 0).toNat) ⟨0, rfl, (by omega), rfl⟩ (fun gn gσ hI => ?_)
  obtain ⟨j, rfl, hi0, rfl⟩ := hI
  refine aw_seq ?_
  refine aw_seq ?_
  by_cases h2 : j < (a.Strokes.length : Int)
  ·have hi : j.toNat < a.Strokes.length := by omega
   have hi2 : j.toNat < b.Strokes.length := by rw [← hab]; exact hi
   refine aw_r [(6, .dec true)] [0, 1, 6, 75] [] [.ptr false [slChannel false a.Channels, slRows false a.Strokes, slNote false a.Notes], .ptr false [slChannel false b.Channels, slRows false b.Strokes, slNote false b.Notes], I j, Bv true] [] [j < (a.Strokes.length : Int)] hB ⟨h2, trivial⟩ ?_
   refine ae_then ?_
   refine aw_true rfl ?_
   refine aw_skip ?_
   refine ae_then ?_
   refine aw_seq ?_
   refine aw_block ?_
   refine aR [(16, .call [(true, .any), (true, .any)] true (Bv true))] [0, 1, 6, 95] [] [.ptr false [slChannel false a.Channels, slRows false a.Strokes, slNote false a.Notes], .ptr false [slChannel false b.Channels, slRows false b.Strokes, slNote false b.Notes], I j, Bv false] [] [(0 : Int) ≤ j ∧ j < (a.Strokes.length : Int), (0 : Int) ≤ j ∧ j < (b.Strokes.length : Int), Con Tryz.prog 102 [slLI false ((at_ a.Strokes j.toNat).Values), slLI false ((at_ b.Strokes j.toNat).Values)] true (Bv true) ∧ True] hB ⟨⟨(by omega), (by omega)⟩, ⟨(by omega), (by omega)⟩, ⟨(l03SameRows_ok ((at_ a.Strokes j.toNat).Values) ((at_ b.Strokes j.toNat).Values) (by rw [hab])), trivial⟩, trivial⟩ ?_
   refine aw_false rfl ?_
   refine aw_skip ?_
   refine ae_block 3 ?_
   refine ae_then ?_
   refine aw_r [] [0, 1, 6] [] [.ptr false [slChannel false a.Channels, slRows false a.Strokes, slNote false a.Notes], .ptr false [slChannel false b.Channels, slRows false b.Strokes, slNote false b.Notes], I (j + 1)] [] [inR .i64 (j + 1)] hB ⟨(inR_i64 (by omega) (by omega)), trivial⟩ ?_
   exact ae_again _ (by omega) ⟨(j + 1), rfl, (by omega), rfl⟩
  refine aw_r [(6, .dec false)] [0, 1, 6, 75] [] [.ptr false [slChannel false a.Channels, slRows false a.Strokes, slNote false a.Notes], .ptr false [slChannel false b.Channels, slRows false b.Strokes, slNote false b.Notes], I j, Bv false] [] [¬ (j < (a.Strokes.length : Int))] hB ⟨h2, trivial⟩ ?_
  refine ae_then ?_
  refine aw_false rfl ?_
  refine aw_exit ?_
  refine ae_exit_then ?_
  refine ae_exit_then ?_
  refine ae_exit_same ?_
  refine ae_then ?_
  refine aw_seq ?_
  refine aR [] [0, 1, 7] [] [.ptr false [slChannel false a.Channels, slRows false a.Strokes, slNote false a.Notes], .ptr false [slChannel false b.Channels, slRows false b.Strokes, slNote false b.Notes], I 0] [] [] hB trivial ?_
  refine aw_block ?_
  refine aw_loop (fun gn gσ => ∃ (n : Int), gn = ((a.Notes.length : Int) - n).toNat ∧ (0 ≤ n ∧ n ≤ (a.Notes.length : Int)) ∧ gσ = mkS [(0, .ptr false [slChannel false a.Channels, slRows false a.Strokes, slNote false a.Notes]), (1, .ptr false [slChannel false b.Channels, slRows false b.Strokes, slNote false b.Notes]), (7, I n)] []) (((a.Notes.length : Int) - 0).toNat) ⟨0, rfl, (by omega), rfl⟩ (fun gn gσ hI => ?_)
  obtain ⟨n, rfl, hi0, rfl⟩ := hI
  refine aw_seq ?_
  refine aw_seq ?_
  by_cases h3 : n < (a.Notes.length : Int)
  ·have hi : n.toNat < a.Notes.length := by omega
   have hi2 : n.toNat < b.Notes.length := by rw [← hab]; exact hi
   refine aw_r [(6, .dec true)] [0, 1, 7, 102] [] [.ptr false [slChannel false a.Channels, slRows false a.Strokes, slNote false a.Notes], .ptr false [slChannel false b.Channels, slRows false b.Strokes, slNote false b.Notes], I n, Bv true] [] [n < (a.Notes.length : Int)] hB ⟨h3, trivial⟩ ?_
   refine ae_then ?_
   refine aw_true rfl ?_
   refine aw_skip ?_
   refine ae_then ?_
   refine aw_seq ?_
   refine aw_block ?_
   refine aR [(14, .dec false)] [0, 1, 7, 119] [] [.ptr false [slChannel false a.Channels, slRows false a.Strokes, slNote false a.Notes], .ptr false [slChannel false b.Channels, slRows false b.Strokes, slNote false b.Notes], I n, Bv false] [] [(0 : Int) ≤ n ∧ n < (a.Notes.length : Int), (0 : Int) ≤ n ∧ n < (b.Notes.length : Int), ¬ (¬ (((at_ a.Notes n.toNat).From) = ((at_ b.Notes n.toNat).From) ∧ ((at_ a.Notes n.toNat).To) = ((at_ b.Notes n.toNat).To) ∧ ((at_ a.Notes n.toNat).Text) = ((at_ b.Notes n.toNat).Text) ∧ True))] hB ⟨⟨(by omega), (by omega)⟩, ⟨(by omega), (by omega)⟩, (fun hq => hq (by rw [hab]; refine ⟨rfl, rfl, rfl, ?_⟩; first | exact ⟨rfl, trivial⟩ | trivial)), trivial⟩ ?_
   refine aw_false rfl ?_
   refine aw_skip ?_
   refine ae_block 5 ?_
   refine ae_then ?_
   refine aw_r [] [0, 1, 7] [] [.ptr false [slChannel false a.Channels, slRows false a.Strokes, slNote false a.Notes], .ptr false [slChannel false b.Channels, slRows false b.Strokes, slNote false b.Notes], I (n + 1)] [] [inR .i64 (n + 1)] hB ⟨(inR_i64 (by omega) (by omega)), trivial⟩ ?_
   exact ae_again _ (by omega) ⟨(n + 1), rfl, (by omega), rfl⟩
  refine aw_r [(6, .dec false)] [0, 1, 7, 102] [] [.ptr false [slChannel false a.Channels, slRows false a.Strokes, slNote false a.Notes], .ptr false [slChannel false b.Channels, slRows false b.Strokes, slNote false b.Notes], I n, Bv false] [] [¬ (n < (a.Notes.length : Int))] hB ⟨h3, trivial⟩ ?_
  refine ae_then ?_
  refine aw_false rfl ?_
  refine aw_exit ?_
  refine ae_exit_then ?_
  refine ae_exit_then ?_
  refine ae_exit_same ?_
  refine ae_then ?_
  refine aR [] [4] [] [Bv true] [] [] hB trivial ?_
  refine aw_ret ?_
  refine ae_ret hB (Bv true) (by kernel_rfl) (.inl rfl) rfl (fun _ => trivial)
theorem specSameFile_ok (a : File) (b : File) (hab : a = b) : Con Tryz.prog 16 [agFile a, agFile b] true (Bv true) := by
  refine fn_ok (fn := Tryz.f16) (nt := 6) Tryz.func16 rfl rfl rfl rfl (by simp [taggedL, tagged, tagChannel, tagNote, tagRows]) fun B hB => ?_
  refine aw_lens (x := agFile a) 0 rfl (fun len_a => ?_)
  simp [LenOK, LenL, cChannel, cI, cLI, cNote, cRows, fChannel, fI, fLI, fNote, fRows, slChannel, slI, slLI, slNote, slRows] at len_a
  refine aw_lens (x := agFile b) 1 rfl (fun len_b => ?_)
  simp [LenOK, LenL, cChannel, cI, cLI, cNote, cRows, fChannel, fI, fLI, fNote, fRows, slChannel, slI, slLI, slNote, slRows] at len_b
  refine aR [(0, .new 2), (1, .new 3)] [2, 3] [2, 3] [.ref 2 0, .ref 3 0] [some (bxFile a), some (bxFile b)] [] hB trivial ?_
  refine aR [(0, .call [(false, .ptr false [slChannel false a.Channels, slRows false a.Strokes, slNote false a.Notes]), (false, .ptr false [slChannel false b.Channels, slRows false b.Strokes, slNote false b.Notes])] true (Bv true))] [4] [] [Bv true] [] [Con Tryz.prog 48 [.ptr false [slChannel false a.Channels, slRows false a.Strokes, slNote false a.Notes], .ptr false [slChannel false b.Channels, slRows false b.Strokes, slNote false b.Notes]] true (Bv true) ∧ ((false = true → true = true) ∧ AV.idsL [slChannel false a.Channels, slRows false a.Strokes, slNote false a.Notes] = [] ∧ ((false = true → false = true) ∧ 4 = 4 ∧ a.Channels.length = a.Channels.length ∧ ∀ i_, i_ < a.Channels.length → (fChannel a.Channels) i_ = (fChannel a.Channels) i_ ∨ (AV.idsL ((fChannel a.Channels) i_) = [] ∧ leL (fun _ => none) false ((fChannel a.Channels) i_) ((fChannel a.Channels) i_))) ∧ ((false = true → false = true) ∧ 1 = 1 ∧ a.Strokes.length = a.Strokes.length ∧ ∀ i_, i_ < a.Strokes.length → (fRows false a.Strokes) i_ = (fRows false a.Strokes) i_ ∨ (AV.idsL ((fRows false a.Strokes) i_) = [] ∧ leL (fun _ => none) false ((fRows false a.Strokes) i_) ((fRows false a.Strokes) i_))) ∧ ((false = true → false = true) ∧ 3 = 3 ∧ a.Notes.length = a.Notes.length ∧ ∀ i_, i_ < a.Notes.length → (fNote a.Notes) i_ = (fNote a.Notes) i_ ∨ (AV.idsL ((fNote a.Notes) i_) = [] ∧ leL (fun _ => none) false ((fNote a.Notes) i_) ((fNote a.Notes) i_))) ∧ ([] : List AV) = []) ∧ ((false = true → true = true) ∧ AV.idsL [slChannel false b.Channels, slRows false b.Strokes, slNote false b.Notes] = [] ∧ ((false = true → false = true) ∧ 4 = 4 ∧ b.Channels.length = b.Channels.length ∧ ∀ i_, i_ < b.Channels.length → (fChannel b.Channels) i_ = (fChannel b.Channels) i_ ∨ (AV.idsL ((fChannel b.Channels) i_) = [] ∧ leL (fun _ => none) false ((fChannel b.Channels) i_) ((fChannel b.Channels) i_))) ∧ ((false = true → false = true) ∧ 1 = 1 ∧ b.Strokes.length = b.Strokes.length ∧ ∀ i_, i_ < b.Strokes.length → (fRows false b.Strokes) i_ = (fRows false b.Strokes) i_ ∨ (AV.idsL ((fRows false b.Strokes) i_) = [] ∧ leL (fun _ => none) false ((fRows false b.Strokes) i_) ((fRows false b.Strokes) i_))) ∧ ((false = true → false = true) ∧ 3 = 3 ∧ b.Notes.length = b.Notes.length ∧ ∀ i_, i_ < b.Notes.length → (fNote b.Notes) i_ = (fNote b.Notes) i_ ∨ (AV.idsL ((fNote b.Notes) i_) = [] ∧ leL (fun _ => none) false ((fNote b.Notes) i_) ((fNote b.Notes) i_))) ∧ ([] : List AV) = []) ∧ True] hB ⟨⟨(l03Same_ok a b hab), ⟨(fun h => by cases h), rfl, ⟨⟨(fun h => by cases h), rfl, rfl, fun i _ => .inl rfl⟩, ⟨⟨(fun h => by cases h), rfl, rfl, fun i _ => .inl rfl⟩, ⟨⟨(fun h => by cases h), rfl, rfl, fun i _ => .inl rfl⟩, rfl⟩⟩⟩⟩, ⟨(fun h => by cases h), rfl, ⟨⟨(fun h => by cases h), rfl, rfl, fun i _ => .inl rfl⟩, ⟨⟨(fun h => by cases h), rfl, rfl, fun i _ => .inl rfl⟩, ⟨⟨(fun h => by cases h), rfl, rfl, fun i _ => .inl rfl⟩, rfl⟩⟩⟩⟩, trivial⟩, trivial⟩ ?_
  refine aw_ret ?_
  refine ae_ret hB (Bv true) (by kernel_rfl) (.inl rfl) rfl (fun _ => trivial)
theorem fnFiles_con (code : List Int) (more : List Int) (ok_code : ∀ y ∈ code, inR .u8 y) (ok_more : ∀ y ∈ more, inR .u8 y) : Con Tryz.prog 3 [slU8 false code, slU8 false more] true (Bv true) := by
  refine fn_ok (fn := Tryz.f3) (nt := 83) Tryz.func3 rfl rfl rfl rfl (by simp [taggedL, tagged, tagU8]) fun B hB => ?_
  refine aw_lens (x := slU8 false code) 0 rfl (fun len_code => ?_)
  simp [LenOK, LenL, cU8, fU8, slU8] at len_code
  refine aw_lens (x := slU8 false more) 1 rfl (fun len_more => ?_)
  simp [LenOK, LenL, cU8, fU8, slU8] at len_more
  refine aR [] [0, 1] [] [slU8 false code, slU8 false more] [] [] hB trivial ?_
  refine aw_seq ?_
  refine aw_seq ?_
  rcases Bool.eq_false_or_eq_true (decide (3000 < (code.length : Int) ∨ 3000 < (more.length : Int))) with h1 | h1
  ·refine aw_r [(2, .call [(true, .any), (true, .any)] true (Bv true))] [0, 1, 19] [] [slU8 false code, slU8 false more, Bv true] [] [Con Tryz.prog 5 [slU8 false code, slU8 false more] true (Bv true) ∧ True] hB ⟨⟨(con_bool h1 (a2Long_ok code more)), trivial⟩, trivial⟩ ?_
   refine ae_then ?_
   refine aw_true rfl ?_
   refine aR [] [4] [] [Bv true] [] [] hB trivial ?_
   refine aw_ret ?_
   refine ae_ret_then ?_
   refine ae_ret hB (Bv true) (by kernel_rfl) (.inl rfl) rfl (fun _ => trivial)
  have hc : (∀ j, j < code.length → 0 ≤ at_ code j ∧ at_ code j ≤ 255) ∧ code.length ≤ 4611686018427387904 := ⟨fun j hj => ok_code _ (at_mem hj), by first | omega | (simp at h1; omega)⟩
  have hmore : (∀ j, j < more.length → 0 ≤ at_ more j ∧ at_ more j ≤ 255) ∧ more.length ≤ 4611686018427387904 := ⟨fun j hj => ok_more _ (at_mem hj), by first | omega | (simp at h1; omega)⟩
  refine aw_r [(2, .call [(true, .any), (true, .any)] true (Bv false))] [0, 1, 19] [] [slU8 false code, slU8 false more, Bv false] [] [Con Tryz.prog 5 [slU8 false code, slU8 false more] true (Bv false) ∧ True] hB ⟨⟨(con_bool h1 (a2Long_ok code more)), trivial⟩, trivial⟩ ?_
  refine ae_then ?_
  refine aw_false rfl ?_
  refine aw_skip ?_
  refine ae_then ?_
  refine aw_seq ?_
  obtain ⟨ik_1, hx1_0, hx1_1, hc1⟩ := A2Ink_ok code (by assumption)
  have hok := hx1_0
  have hfok := filI_ok hok
  refine aw_r [(1, .call [(true, .any)] true (.agg [slStroke true ik_1.Strokes])), (2, .new 5)] [1, 5] [5] [slU8 false more, .ref 5 0] [some (.box [slStroke true ik_1.Strokes])] [Con Tryz.prog 6 [slU8 false code] true (.agg [slStroke true ik_1.Strokes]) ∧ True] hB ⟨⟨hc1, trivial⟩, trivial⟩ ?_
  refine ae_then ?_
  refine aw_seq ?_
  obtain ⟨v_2, c_2, hx2_0, hx2_1, hc2⟩ := FileOfInk_ok ik_1 hok
  have hfv : v_2 = filI ik_1 := hx2_0
  have hc1_ := hx2_1
  refine aw_r [(1, .call [(false, .agg [slStroke false ik_1.Strokes])] true (.tup [agFileT v_2, I c_2])), (5, .new 6)] [1, 5, 6, 7] [5, 6] [slU8 false more, .ref 5 0, .ref 6 0, I c_2] [some (.box [slStroke true ik_1.Strokes]), some (bxFileT v_2)] [Con Tryz.prog 7 [.agg [slStroke false ik_1.Strokes]] true (.tup [agFileT v_2, I c_2]) ∧ (((false = true → true = true) ∧ 1 = 1 ∧ ik_1.Strokes.length = ik_1.Strokes.length ∧ ∀ i_, i_ < ik_1.Strokes.length → (fStroke true ik_1.Strokes) i_ = (fStroke false ik_1.Strokes) i_ ∨ (AV.idsL ((fStroke false ik_1.Strokes) i_) = [] ∧ leL (fun _ => none) false ((fStroke true ik_1.Strokes) i_) ((fStroke false ik_1.Strokes) i_))) ∧ ([] : List AV) = []) ∧ True] hB ⟨⟨hc2, ⟨⟨(fun h => by cases h), rfl, rfl, fun i _ => .inr ⟨idsStroke _ _, leStroke _ _ _⟩⟩, rfl⟩, trivial⟩, trivial⟩ ?_
  refine ae_then ?_
  refine aw_seq ?_
  obtain ⟨v_3, c_3, hx3_0, hx3_1, hc3⟩ := InkOfFile_ok v_2 ⟨_, hok, hfv⟩
  have hbk : v_3 = ik_1 := hx3_0 _ hok hfv
  have hc2_ := hx3_1
  refine aw_r [(1, .call [(false, agFile v_2)] true (.tup [.agg [slStroke true v_3.Strokes], I c_3])), (5, .new 8)] [1, 5, 6, 7, 8, 9] [5, 6, 8] [slU8 false more, .ref 5 0, .ref 6 0, I c_2, .ref 8 0, I c_3] [some (.box [slStroke true ik_1.Strokes]), some (bxFileT v_2), some (.box [slStroke true v_3.Strokes])] [Con Tryz.prog 8 [agFile v_2] true (.tup [.agg [slStroke true v_3.Strokes], I c_3]) ∧ (((false = true → true = true) ∧ 4 = 4 ∧ v_2.Channels.length = v_2.Channels.length ∧ ∀ i_, i_ < v_2.Channels.length → (fChannel v_2.Channels) i_ = (fChannel v_2.Channels) i_ ∨ (AV.idsL ((fChannel v_2.Channels) i_) = [] ∧ leL (fun _ => none) false ((fChannel v_2.Channels) i_) ((fChannel v_2.Channels) i_))) ∧ ((false = true → true = true) ∧ 1 = 1 ∧ v_2.Strokes.length = v_2.Strokes.length ∧ ∀ i_, i_ < v_2.Strokes.length → (fRows true v_2.Strokes) i_ = (fRows false v_2.Strokes) i_ ∨ (AV.idsL ((fRows false v_2.Strokes) i_) = [] ∧ leL (fun _ => none) false ((fRows true v_2.Strokes) i_) ((fRows false v_2.Strokes) i_))) ∧ ((false = true → true = true) ∧ 3 = 3 ∧ v_2.Notes.length = v_2.Notes.length ∧ ∀ i_, i_ < v_2.Notes.length → (fNote v_2.Notes) i_ = (fNote v_2.Notes) i_ ∨ (AV.idsL ((fNote v_2.Notes) i_) = [] ∧ leL (fun _ => none) false ((fNote v_2.Notes) i_) ((fNote v_2.Notes) i_))) ∧ ([] : List AV) = []) ∧ True] hB ⟨⟨hc3, ⟨⟨(fun h => by cases h), rfl, rfl, fun i _ => .inl rfl⟩, ⟨⟨(fun h => by cases h), rfl, rfl, fun i _ => .inr ⟨idsRows _ _, leRows _ _ _⟩⟩, ⟨⟨(fun h => by cases h), rfl, rfl, fun i _ => .inl rfl⟩, rfl⟩⟩⟩, trivial⟩, trivial⟩ ?_
  refine ae_then ?_
  refine aw_seq ?_
  obtain ⟨v_4, c_4, hx4_0, hx4_1, hc4⟩ := ColumnOf_ok v_2 (⟨#[116]⟩ : ByteArray) ⟨_, hok, hfv⟩ rfl
  have hcv := hx4_0 _ hok hfv
  have hc3_ := hx4_1
  refine aw_r [(1, .call [(false, agFile v_2), (true, .any)] true (.tup [slI true v_4, I c_4]))] [1, 5, 6, 7, 8, 9, 10, 11] [5, 6, 8] [slU8 false more, .ref 5 0, .ref 6 0, I c_2, .ref 8 0, I c_3, slI true v_4, I c_4] [some (.box [slStroke true ik_1.Strokes]), some (bxFileT v_2), some (.box [slStroke true v_3.Strokes])] [Con Tryz.prog 9 [agFile v_2, Sv (⟨#[116]⟩ : ByteArray)] true (.tup [slI true v_4, I c_4]) ∧ (((false = true → true = true) ∧ 4 = 4 ∧ v_2.Channels.length = v_2.Channels.length ∧ ∀ i_, i_ < v_2.Channels.length → (fChannel v_2.Channels) i_ = (fChannel v_2.Channels) i_ ∨ (AV.idsL ((fChannel v_2.Channels) i_) = [] ∧ leL (fun _ => none) false ((fChannel v_2.Channels) i_) ((fChannel v_2.Channels) i_))) ∧ ((false = true → true = true) ∧ 1 = 1 ∧ v_2.Strokes.length = v_2.Strokes.length ∧ ∀ i_, i_ < v_2.Strokes.length → (fRows true v_2.Strokes) i_ = (fRows false v_2.Strokes) i_ ∨ (AV.idsL ((fRows false v_2.Strokes) i_) = [] ∧ leL (fun _ => none) false ((fRows true v_2.Strokes) i_) ((fRows false v_2.Strokes) i_))) ∧ ((false = true → true = true) ∧ 3 = 3 ∧ v_2.Notes.length = v_2.Notes.length ∧ ∀ i_, i_ < v_2.Notes.length → (fNote v_2.Notes) i_ = (fNote v_2.Notes) i_ ∨ (AV.idsL ((fNote v_2.Notes) i_) = [] ∧ leL (fun _ => none) false ((fNote v_2.Notes) i_) ((fNote v_2.Notes) i_))) ∧ ([] : List AV) = []) ∧ True] hB ⟨⟨hc4, ⟨⟨(fun h => by cases h), rfl, rfl, fun i _ => .inl rfl⟩, ⟨⟨(fun h => by cases h), rfl, rfl, fun i _ => .inr ⟨idsRows _ _, leRows _ _ _⟩⟩, ⟨⟨(fun h => by cases h), rfl, rfl, fun i _ => .inl rfl⟩, rfl⟩⟩⟩, trivial⟩, trivial⟩ ?_
  refine ae_then ?_
  refine aR [(1, .call [(false, .agg [slStroke false ik_1.Strokes])] true (.tup [I (cnS ik_1.Strokes ik_1.Strokes.length : Int), I 0]))] [1, 5, 6, 7, 8, 9, 10, 11, 12] [5, 6, 8] [slU8 false more, .ref 5 0, .ref 6 0, I c_2, .ref 8 0, I c_3, slI true v_4, I c_4, I (cnS ik_1.Strokes ik_1.Strokes.length : Int)] [some (.box [slStroke true ik_1.Strokes]), some (bxFileT v_2), some (.box [slStroke true v_3.Strokes])] [Con Tryz.prog 10 [.agg [slStroke false ik_1.Strokes]] true (.tup [I (cnS ik_1.Strokes ik_1.Strokes.length : Int), I 0]) ∧ (((false = true → true = true) ∧ 1 = 1 ∧ ik_1.Strokes.length = ik_1.Strokes.length ∧ ∀ i_, i_ < ik_1.Strokes.length → (fStroke true ik_1.Strokes) i_ = (fStroke false ik_1.Strokes) i_ ∨ (AV.idsL ((fStroke false ik_1.Strokes) i_) = [] ∧ leL (fun _ => none) false ((fStroke true ik_1.Strokes) i_) ((fStroke false ik_1.Strokes) i_))) ∧ ([] : List AV) = []) ∧ True] hB ⟨⟨(specPointCountF_ok ik_1 hok), ⟨⟨(fun h => by cases h), rfl, rfl, fun i _ => .inr ⟨idsStroke _ _, leStroke _ _ _⟩⟩, rfl⟩, trivial⟩, trivial⟩ ?_
  refine aw_seq ?_
  refine aR [(1, .dec false), (4, .dec false), (9, .call [(false, .agg [slStroke false v_3.Strokes]), (false, .agg [slStroke false ik_1.Strokes])] true (Bv true)), (14, .dec false), (20, .dec false), (24, .call [(false, agFile v_2)] true (Bv true))] [1, 68] [] [slU8 false more, Bv false] [] [¬ (c_2 ≠ 0), ¬ (c_3 ≠ 0), Con Tryz.prog 11 [.agg [slStroke false v_3.Strokes], .agg [slStroke false ik_1.Strokes]] true (Bv true) ∧ (((false = true → true = true) ∧ 1 = 1 ∧ v_3.Strokes.length = v_3.Strokes.length ∧ ∀ i_, i_ < v_3.Strokes.length → (fStroke true v_3.Strokes) i_ = (fStroke false v_3.Strokes) i_ ∨ (AV.idsL ((fStroke false v_3.Strokes) i_) = [] ∧ leL (fun _ => none) false ((fStroke true v_3.Strokes) i_) ((fStroke false v_3.Strokes) i_))) ∧ ([] : List AV) = []) ∧ (((false = true → true = true) ∧ 1 = 1 ∧ ik_1.Strokes.length = ik_1.Strokes.length ∧ ∀ i_, i_ < ik_1.Strokes.length → (fStroke true ik_1.Strokes) i_ = (fStroke false ik_1.Strokes) i_ ∨ (AV.idsL ((fStroke false ik_1.Strokes) i_) = [] ∧ leL (fun _ => none) false ((fStroke true ik_1.Strokes) i_) ((fStroke false ik_1.Strokes) i_))) ∧ ([] : List AV) = []) ∧ True, ¬ (c_4 ≠ 0), ¬ ((v_4.length : Int) ≠ (cnS ik_1.Strokes ik_1.Strokes.length : Int)), Con Tryz.prog 12 [agFile v_2] true (Bv true) ∧ (((false = true → true = true) ∧ 4 = 4 ∧ v_2.Channels.length = v_2.Channels.length ∧ ∀ i_, i_ < v_2.Channels.length → (fChannel v_2.Channels) i_ = (fChannel v_2.Channels) i_ ∨ (AV.idsL ((fChannel v_2.Channels) i_) = [] ∧ leL (fun _ => none) false ((fChannel v_2.Channels) i_) ((fChannel v_2.Channels) i_))) ∧ ((false = true → true = true) ∧ 1 = 1 ∧ v_2.Strokes.length = v_2.Strokes.length ∧ ∀ i_, i_ < v_2.Strokes.length → (fRows true v_2.Strokes) i_ = (fRows false v_2.Strokes) i_ ∨ (AV.idsL ((fRows false v_2.Strokes) i_) = [] ∧ leL (fun _ => none) false ((fRows true v_2.Strokes) i_) ((fRows false v_2.Strokes) i_))) ∧ ((false = true → true = true) ∧ 3 = 3 ∧ v_2.Notes.length = v_2.Notes.length ∧ ∀ i_, i_ < v_2.Notes.length → (fNote v_2.Notes) i_ = (fNote v_2.Notes) i_ ∨ (AV.idsL ((fNote v_2.Notes) i_) = [] ∧ leL (fun _ => none) false ((fNote v_2.Notes) i_) ((fNote v_2.Notes) i_))) ∧ ([] : List AV) = []) ∧ True] hB ⟨(fun hq => hq hc1_), (fun hq => hq hc2_), ⟨(con_bool (sameI_of hbk) (specSameInk_ok v_3 ik_1)), ⟨⟨(fun h => by cases h), rfl, rfl, fun i _ => .inr ⟨idsStroke _ _, leStroke _ _ _⟩⟩, rfl⟩, ⟨⟨(fun h => by cases h), rfl, rfl, fun i _ => .inr ⟨idsStroke _ _, leStroke _ _ _⟩⟩, rfl⟩, trivial⟩, (fun hq => hq hc3_), (fun hq => hq hcv), ⟨(specValidFile_ok v_2 (by rw [hfv]; exact hfok)), ⟨⟨(fun h => by cases h), rfl, rfl, fun i _ => .inl rfl⟩, ⟨⟨(fun h => by cases h), rfl, rfl, fun i _ => .inr ⟨idsRows _ _, leRows _ _ _⟩⟩, ⟨⟨(fun h => by cases h), rfl, rfl, fun i _ => .inl rfl⟩, rfl⟩⟩⟩, trivial⟩, trivial⟩ ?_
  refine aw_false rfl ?_
  refine aw_skip ?_
  refine ae_then ?_
  refine aw_seq ?_
  obtain ⟨v_5, hx5_0, hc5⟩ := A2File_ok more (by assumption)
  have hgk := hx5_0
  refine aw_r [(1, .call [(true, .any)] true (agFileT v_5)), (2, .new 14)] [14] [14] [.ref 14 0] [some (bxFileT v_5)] [Con Tryz.prog 13 [slU8 false more] true (agFileT v_5) ∧ True] hB ⟨⟨hc5, trivial⟩, trivial⟩ ?_
  refine ae_then ?_
  refine aw_seq ?_
  obtain ⟨v_6, c_6, hx6_0, hx6_1, hc6⟩ := ReadFile_ok (filTx v_5) ⟨_, hgk, rfl⟩
  have hrd : v_6 = v_5 := hx6_0 _ hgk rfl
  have hc4_ := hx6_1
  refine aw_r [(1, .call [(false, agFile v_5)] true (Sv (filTx v_5))), (2, .call [(true, .any)] false (.tup [agFile v_6, Bv c_6])), (6, .new 15)] [14, 15, 16] [14, 15] [.ref 14 0, .ref 15 0, Bv c_6] [some (bxFileT v_5), some (bxFile v_6)] [Con Tryz.prog 15 [agFile v_5] true (Sv (filTx v_5)) ∧ (((false = true → true = true) ∧ 4 = 4 ∧ v_5.Channels.length = v_5.Channels.length ∧ ∀ i_, i_ < v_5.Channels.length → (fChannel v_5.Channels) i_ = (fChannel v_5.Channels) i_ ∨ (AV.idsL ((fChannel v_5.Channels) i_) = [] ∧ leL (fun _ => none) false ((fChannel v_5.Channels) i_) ((fChannel v_5.Channels) i_))) ∧ ((false = true → true = true) ∧ 1 = 1 ∧ v_5.Strokes.length = v_5.Strokes.length ∧ ∀ i_, i_ < v_5.Strokes.length → (fRows true v_5.Strokes) i_ = (fRows false v_5.Strokes) i_ ∨ (AV.idsL ((fRows false v_5.Strokes) i_) = [] ∧ leL (fun _ => none) false ((fRows true v_5.Strokes) i_) ((fRows false v_5.Strokes) i_))) ∧ ((false = true → true = true) ∧ 3 = 3 ∧ v_5.Notes.length = v_5.Notes.length ∧ ∀ i_, i_ < v_5.Notes.length → (fNote v_5.Notes) i_ = (fNote v_5.Notes) i_ ∨ (AV.idsL ((fNote v_5.Notes) i_) = [] ∧ leL (fun _ => none) false ((fNote v_5.Notes) i_) ((fNote v_5.Notes) i_))) ∧ ([] : List AV) = []) ∧ True, Con Tryz.prog 14 [Sv (filTx v_5)] false (.tup [agFile v_6, Bv c_6]) ∧ True] hB ⟨⟨(FileText_ok v_5 hgk), ⟨⟨(fun h => by cases h), rfl, rfl, fun i _ => .inl rfl⟩, ⟨⟨(fun h => by cases h), rfl, rfl, fun i _ => .inr ⟨idsRows _ _, leRows _ _ _⟩⟩, ⟨⟨(fun h => by cases h), rfl, rfl, fun i _ => .inl rfl⟩, rfl⟩⟩⟩, trivial⟩, ⟨hc6, trivial⟩, trivial⟩ ?_
  refine ae_then ?_
  refine aw_seq ?_
  rcases Bool.eq_false_or_eq_true c_6 with h2 | h2
  ·subst h2
   refine aw_r [(4, .call [(true, .any), (false, agFile v_5)] true (Bv true))] [4] [] [Bv true] [] [Con Tryz.prog 16 [agFile v_6, agFile v_5] true (Bv true) ∧ (((false = true → true = true) ∧ 4 = 4 ∧ v_5.Channels.length = v_5.Channels.length ∧ ∀ i_, i_ < v_5.Channels.length → (fChannel v_5.Channels) i_ = (fChannel v_5.Channels) i_ ∨ (AV.idsL ((fChannel v_5.Channels) i_) = [] ∧ leL (fun _ => none) false ((fChannel v_5.Channels) i_) ((fChannel v_5.Channels) i_))) ∧ ((false = true → true = true) ∧ 1 = 1 ∧ v_5.Strokes.length = v_5.Strokes.length ∧ ∀ i_, i_ < v_5.Strokes.length → (fRows true v_5.Strokes) i_ = (fRows false v_5.Strokes) i_ ∨ (AV.idsL ((fRows false v_5.Strokes) i_) = [] ∧ leL (fun _ => none) false ((fRows true v_5.Strokes) i_) ((fRows false v_5.Strokes) i_))) ∧ ((false = true → true = true) ∧ 3 = 3 ∧ v_5.Notes.length = v_5.Notes.length ∧ ∀ i_, i_ < v_5.Notes.length → (fNote v_5.Notes) i_ = (fNote v_5.Notes) i_ ∨ (AV.idsL ((fNote v_5.Notes) i_) = [] ∧ leL (fun _ => none) false ((fNote v_5.Notes) i_) ((fNote v_5.Notes) i_))) ∧ ([] : List AV) = []) ∧ True] hB ⟨⟨(specSameFile_ok v_6 v_5 hrd), ⟨⟨(fun h => by cases h), rfl, rfl, fun i _ => .inl rfl⟩, ⟨⟨(fun h => by cases h), rfl, rfl, fun i _ => .inr ⟨idsRows _ _, leRows _ _ _⟩⟩, ⟨⟨(fun h => by cases h), rfl, rfl, fun i _ => .inl rfl⟩, rfl⟩⟩⟩, trivial⟩, trivial⟩ ?_
   refine ae_then ?_
   refine aw_ret ?_
   refine ae_ret hB (Bv true) (by kernel_rfl) (.inl rfl) rfl (fun _ => trivial)
  subst h2
  refine aw_r [] [4] [] [Bv false] [] [] hB trivial ?_
  refine ae_then ?_
  refine aw_ret ?_
  refine ae_ret hB (Bv false) (by kernel_rfl) (.inl (by first | rfl | (refine congrArg Bv ?_; simp [*]; done) | (exfalso; simp_all; done))) rfl (fun _ => trivial)
theorem opens_t22 : OpensA Tryz.prog 22 (cLU8 false) (fun xs => ∀ y ∈ xs, inR .u8 y) :=
  opensA_slice (c := cU8) (sz := 1) Tryz.underlying22 (by kernel_rfl) (by decide) (fun x => ⟨rfl, by simp [oneA, cU8]⟩) (opensA_int Tryz.underlying5)
namespace fnFiles
set_option maxRecDepth 100000 in
theorem lifted (os : Os) (started : os.Started) (H : Type) (enc : TypeId × Value → H) :
    ReturnsInHanded {} Tryz.checked os 3 .any (fun w args => (Rows.fnFilesSpec.pre enc Tryz.prog Tryz.f3 Rows.fnFilesRow.domain false w args ∧ laidMetH Tryz.prog Rows.fnFilesRow.laid w) ∧ sizedMet enc Tryz.prog Tryz.f3 (OpenSpec.ofChange Rows.fnFilesSpec) false w args)
      (Rows.fnFilesSpec.post enc Tryz.prog Tryz.f3 false true false false) := by
  refine returnsInHanded_of_change_and (C := Tryz.checked) (X := fun w _ => laidMetH Tryz.prog Rows.fnFilesRow.laid w) (fun _ _ _ hh h => h.of_heap hh) Tryz.own started (by kernel_rfl) Tryz.func3
    (ChangeSpec.witness_shaped (enc := enc) (C := Tryz.checked) (os := os) (X := fun w _ => laidMetH Tryz.prog Rows.fnFilesRow.laid w) false (World.laidAll Tryz.prog os Rows.fnFilesRow.laid) #[.slice none 0 0, .slice none 0 0] 8 (World.laidAll_os _ _ _)
      (World.shaped_of_ZipB (by kernel_rfl) (by kernel_rfl)) (by kernel_rfl) (by kernel_rfl) (by kernel_rfl)
      (by rw [MakeChecks.laidMetH_plain _ _ _ (by kernel_rfl)]; exact laidMet_laidAll _ (by kernel_rfl) (by kernel_rfl))) ?_
  intro W base args ds gs before hval0 hW hcnd hsz hL _
  have hW' := hW
  obtain ⟨p, q, hA0, hV, rfl, hfz, hnd⟩ := hW
  have hval : ∀ (j : Nat) t v, Tryz.f3.params[j]? = some t → args[j]? = some v → Value.okWide Tryz.prog W .any base t v := hval0
  have hA : DataW.TrodAll enc Tryz.prog W 0 (fun _ => true) true Tryz.f3.params.toList args.toList ds p := hA0
  rw [Tryz.params3] at hA hval
  obtain ⟨v0, vs0, d0, ds0, p0, q0, hargs, rfl, rfl, h0, r0⟩ := trodAll_cons hA
  obtain ⟨v1, vs1, d1, ds1, p1, q1, rfl, rfl, rfl, h1, r1⟩ := trodAll_cons r0
  obtain ⟨rfl, rfl, rfl⟩ := trodAll_nil r1
  obtain rfl : args = #[v0, v1] := args_eq hargs
  obtain ⟨rfl, rfl⟩ := trodVars_none hV
  obtain ⟨fuel0, hf0⟩ := h0
  obtain ⟨A0, l0, c0, rfl⟩ := okWide_slice Tryz.underlying22 (hval 0 22 v0 rfl rfl)
  obtain ⟨x0, rx0, ok0⟩ := (opens_t22) enc W 0 _ _ _ _ _ hf0
  obtain ⟨fuel1, hf1⟩ := h1
  obtain ⟨A1, l1, c1, rfl⟩ := okWide_slice Tryz.underlying22 (hval 1 22 v1 rfl rfl)
  obtain ⟨x1, rx1, ok1⟩ := (opens_t22) enc W 0 _ _ _ _ _ hf1
  refine (walk_of0 (fnFiles_con x0 x1 ok0 ok1) (fun w hk => WX_below (WX_laid (by rw [MakeChecks.laidMetH_plain _ _ _ (by kernel_rfl)] at hL; first | exact hL | exact hL.tail | exact hL.tail.tail | exact hL.tail.tail.tail | exact hL.tail.tail.tail.tail | exact hL.tail.tail.tail.tail.tail | exact hL.tail.tail.tail.tail.tail.tail | exact hL.tail.tail.tail.tail.tail.tail.tail | exact hL.tail.tail.tail.tail.tail.tail.tail.tail) (by rw [MakeChecks.laidMetH_plain _ _ _ (by kernel_rfl)] at hL; first | exact hL | exact hL.tail | exact hL.tail.tail | exact hL.tail.tail.tail | exact hL.tail.tail.tail.tail | exact hL.tail.tail.tail.tail.tail | exact hL.tail.tail.tail.tail.tail.tail | exact hL.tail.tail.tail.tail.tail.tail.tail | exact hL.tail.tail.tail.tail.tail.tail.tail.tail) (by rw [MakeChecks.laidMetH_plain _ _ _ (by kernel_rfl)] at hL; first | exact hL | exact hL.tail | exact hL.tail.tail | exact hL.tail.tail.tail | exact hL.tail.tail.tail.tail | exact hL.tail.tail.tail.tail.tail | exact hL.tail.tail.tail.tail.tail.tail | exact hL.tail.tail.tail.tail.tail.tail.tail | exact hL.tail.tail.tail.tail.tail.tail.tail.tail)) w ⟨hk.os, hk.tape, hk.output, hk.size, fun k h1 => hk.block k h1 id⟩) (RelTL.cons (relTL_one rx0) (RelTL.cons (relTL_one rx1) RelTL.nil))).mono fun e W1 ⟨he, hb⟩ => ?_
  subst he
  exact ⟨_, rfl, law_post Tryz.laidOut rfl Tryz.underlying4 (of_decide_eq_true (by kernel_rfl)) rfl hW' hb rfl⟩
theorem jf0 : (Rows.fnFilesRow.inPlace == Tryz.pinned.checked.prog.inPlace 3) = true := by kernel_rfl
theorem jf1 : (Rows.fnFilesRow.unfollowed == Tryz.pinned.checked.prog.unfollowed 3) = true := by kernel_rfl
theorem jf2 : (Rows.fnFilesRow.recurses == Tryz.pinned.checked.prog.recurses 3) = true := by kernel_rfl
theorem jf3 : (Rows.fnFilesRow.named == Tryz.pinned.checked.prog.varsNamed 3) = true := by kernel_rfl
theorem jf : joinedFacts Tryz.pinned.checked.prog 3 Tryz.f3 Rows.fnFilesSpec Rows.fnFilesRow = true := by
  unfold joinedFacts
  rw [jf0, jf1, jf2, jf3]
  kernel_rfl
theorem over : Rows.fnFilesRow.holds Tryz.pinned (OpenSpec.ofChange Rows.fnFilesSpec) :=
  OpenClaim.holds_of_wide 3 Tryz.f3 rfl rfl rfl rfl rfl rfl rfl ⟨rfl, rfl, rfl, rfl, rfl⟩ rfl rfl rfl rfl rfl (by kernel_rfl) Tryz.func3 jf
    (of_decide_eq_true (by kernel_rfl)) (by unfold Func.isWrapper; first | (rw [if_pos (by decide +kernel)]; kernel_rfl) | (rw [if_neg (by decide +kernel)]; exact ⟨rfl, rfl⟩))
    (fun os started H enc _ => lifted os started H enc)
theorem proved : Rows.FnFilesCardSaid :=
  Claim7.holds_tied_plain_at .later [] [.data, .data, .data, .data, .sentinel, .sentinel, .pinned] true (true, "e0ae5afe27e28ba2b29726a2d3bfb706da0e465470898b97cba4ce3d3a9db918") true over (fun _ h => by cases h) (by kernel_rfl) (fun _ h => by cases h) fnFiles_row_tie rfl ⟨rfl, rfl⟩ (by kernel_rfl) rfl
    (fun f fn hf hfn => by
      obtain rfl : f = 3 := Option.some.inj ((show Tryz.prog.funcNamed "loop.example/g00918/laws.FnFiles" = some 3 by kernel_rfl).symm.trans hf) |>.symm
      obtain rfl : fn = Tryz.f3 := (Option.some.inj (Tryz.func3.symm.trans hfn)).symm
      exact ⟨by kernel_rfl, fun j t ht => by
        rw [Tryz.params3] at ht
        have hm : t ∈ [22, 22] := by simpa using Array.mem_of_getElem? ht
        have hall : ([22, 22].all fun u => !Tryz.prog.wantsStandIn u) = true := by kernel_rfl
        exact (show Tryz.prog.wantsStandIn t = false by simpa using List.all_eq_true.1 hall t hm)⟩)
    (by kernel_rfl)
#print axioms proved
end fnFiles
end Go.Proofs.YtecdjaknbiekkaaGreatDoor.Ax
