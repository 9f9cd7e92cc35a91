/- Contracts that the statement FnFeatTurns reaches, part 2. No conditions. -/
import Derived.Test.YthlghckgnanlpaaGreatDoorAxLFeatTurns1
import Derived.LaidMore
import Derived.Lay
import Derived.Lib.IndexBytes
import Derived.Lib.ItoaNum
import Derived.Lib.ParseIntBCases
import Derived.Lib.ParseIntBTie
import Derived.Lib.SplitLaws
import Derived.OpenShut
import Derived.SevenTiedAt
import Derived.Stop.Joined
import Derived.Test.YthlghckgnanlpaaGreatDoorAxBd
import Derived.Test.YthlghckgnanlpaaGreatDoorAxGr
import Derived.Test.YthlghckgnanlpaaGreatDoorAxY
namespace Go.Proofs.YthlghckgnanlpaaGreatDoor.Ax
open Go.RowKit Go.ChangeShapes Go.WideShapes
set_option linter.unusedVariables false
set_option linter.unusedSimpArgs false


-- strings.Join
theorem join_ok (xs : List ByteArray) (sep : ByteArray) (ok : jok sep xs) : Con Tryz.prog 74 [slS false xs, Sv sep] true (Sv (jnB sep xs)) := by
  refine fn_ok (fn := Tryz.f74) (nt := 75) Tryz.func74 rfl rfl rfl rfl (by simp [taggedL, tagged, tagS]) fun B hB => ?_
  refine aw_lens (x := slS false xs) 0 rfl (fun len_xs => ?_)
  simp [LenOK, LenL, cS, fS, slS] at len_xs
  refine aR [] [0, 1] [] [slS false xs, Sv sep] [] [] hB trivial ?_
  refine aw_seq ?_
  refine aR [] [0, 1, 12] [] [slS false xs, Sv sep, I (xs.length : Int)] [] [] hB trivial ?_
  refine aw_block ?_
  refine aw_seq ?_
  by_cases h1 : (xs.length : Int) = 0
  ·have he : xs = [] := List.length_eq_zero_iff.1 (by omega)
   refine aw_r [(0, .dec true)] [0, 1, 12, 13] [] [slS false xs, Sv sep, I (xs.length : Int), Bv true] [] [(xs.length : Int) = 0] hB ⟨h1, trivial⟩ ?_
   refine ae_then ?_
   refine aw_true rfl ?_
   refine aR [] [4] [] [Sv (⟨#[]⟩ : ByteArray)] [] [] hB trivial ?_
   refine aw_ret ?_
   refine ae_ret_block (ae_ret_then ?_)
   refine ae_ret hB (Sv (⟨#[]⟩ : ByteArray)) (by kernel_rfl) (.inl (by first | rfl | (rw [jnB_one _ he]; done) | (rw [htx]; done) | (rw [he]; rfl))) rfl (fun _ => trivial)
  refine aw_r [(0, .dec false)] [0, 1, 12, 13] [] [slS false xs, Sv sep, I (xs.length : Int), Bv false] [] [¬ ((xs.length : Int) = 0)] hB ⟨h1, trivial⟩ ?_
  refine ae_then ?_
  refine aw_false rfl ?_
  refine aw_seq ?_
  by_cases h2 : (xs.length : Int) = 1
  ·have he : xs.length = 1 := by omega
   refine aw_r [(0, .dec true)] [0, 1, 15] [] [slS false xs, Sv sep, Bv true] [] [(xs.length : Int) = 1] hB ⟨h2, trivial⟩ ?_
   refine ae_then ?_
   refine aw_true rfl ?_
   refine aR [] [4] [] [Sv (at_ xs 0)] [] [(0 : Int) ≤ 0 ∧ 0 < (xs.length : Int)] hB ⟨⟨(by omega), (by omega)⟩, trivial⟩ ?_
   refine aw_ret ?_
   refine ae_ret_block (ae_ret_then ?_)
   refine ae_ret hB (Sv (at_ xs 0)) (by kernel_rfl) (.inl (by first | rfl | (rw [jnB_one _ he]; done) | (rw [htx]; done) | (rw [he]; rfl))) rfl (fun _ => trivial)
  have ok3 := ok.2.2 (List.ne_nil_of_length_pos (by omega))
  have okl := ok.2.1
  have oks := ok.1
  obtain ⟨M, hM⟩ : ∃ M : Nat, sep.size * (xs.length - 1) = M := ⟨_, rfl⟩
  rw [hM] at ok3
  have hMi : (sep.size : Int) * ((xs.length : Int) - 1) = (M : Int) := by rw [← hM, Int.natCast_mul, Int.natCast_sub (by omega)]; rfl
  refine aw_r [(0, .dec false)] [0, 1, 15] [] [slS false xs, Sv sep, Bv false] [] [¬ ((xs.length : Int) = 1)] hB ⟨h2, trivial⟩ ?_
  refine ae_then ?_
  refine aw_false rfl ?_
  refine aw_skip ?_
  refine ae_block 0 ?_
  refine ae_then ?_
  refine aR [] [0, 1, 5] [] [slS false xs, Sv sep, I 0] [] [] hB trivial ?_
  refine aw_seq ?_
  refine aw_seq ?_
  by_cases h3 : 0 < (sep.size : Int)
  ·refine aw_r [(2, .dec true)] [0, 1, 5, 22] [] [slS false xs, Sv sep, I 0, Bv true] [] [0 < (sep.size : Int)] hB ⟨h3, trivial⟩ ?_
   refine ae_then ?_
   refine aw_true rfl ?_
   refine aw_seq ?_
   refine aR [(5, .nn), (6, .dec false)] [0, 1, 5, 29] [] [slS false xs, Sv sep, I 0, Bv false] [] [inR .i64 ((xs.length : Int) - 1), (0 : Int) ≤ 9223372036854775807 ∧ (0 : Int) < ((xs.length : Int) - 1) ∧ inR .i64 9223372036854775807, ¬ ((9223372036854775807 / ((xs.length : Int) - 1)) ≤ (sep.size : Int))] hB ⟨(inR_i64 (by omega) (by omega)), ⟨(by omega), (by omega), (inR_i64 (by omega) (by omega))⟩, (by have q := jok_room (s := sep.size) (n := xs.length - 1) ok.1 (by have := ok.2.1; omega); have e : ((xs.length - 1 : Nat) : Int) = (xs.length : Int) - 1 := (by omega); rw [e] at q; omega), trivial⟩ ?_
   refine aw_false rfl ?_
   refine aw_skip ?_
   refine ae_then ?_
   refine aw_r [] [0, 1, 5] [] [slS false xs, Sv sep, I (0 + ((sep.size : Int) * ((xs.length : Int) - 1)))] [] [inR .i64 ((xs.length : Int) - 1), inR .i64 ((sep.size : Int) * ((xs.length : Int) - 1)), inR .i64 (0 + ((sep.size : Int) * ((xs.length : Int) - 1)))] hB ⟨(inR_i64 (by omega) (by omega)), (inR_i64 (by omega) (by omega)), (inR_i64 (by omega) (by omega)), trivial⟩ ?_
   refine ae_then ?_
   refine aw_seq ?_
   refine aR [] [0, 1, 5, 39, 40, 41] [] [slS false xs, Sv sep, I (0 + ((sep.size : Int) * ((xs.length : Int) - 1))), slS false xs, I (xs.length : Int), I 0] [] [] hB trivial ?_
   refine aw_block ?_
   refine aw_loop (fun gn gσ => ∃ (n : Int) (k : Int), gn = ((xs.length : Int) - k).toNat ∧ (0 ≤ k ∧ k ≤ (xs.length : Int)) ∧ (n = (M : Int) + (jnZ xs k.toNat : Int)) ∧ gσ = mkS [(0, slS false xs), (1, Sv sep), (5, I n), (39, slS false xs), (40, I (xs.length : Int)), (41, I k)] []) (((xs.length : Int) - 0).toNat) ⟨(0 + ((sep.size : Int) * ((xs.length : Int) - 1))), 0, rfl, (by omega), (by show _ = (M : Int) + ((0 : Nat) : Int); omega), rfl⟩ (fun gn gσ hI => ?_)
   obtain ⟨n, k, rfl, hk, hn, rfl⟩ := hI
   refine aw_seq ?_
   by_cases h4 : k < (xs.length : Int)
   ·have hi : k.toNat < xs.length := by omega
    have hsm := jnZ_at xs (k := k.toNat)
    have hmo := jnZ_mono xs (show k.toNat + 1 ≤ xs.length from hi)
    have hks : (k + 1).toNat = k.toNat + 1 := by omega
    refine aw_r [(0, .dec true)] [0, 1, 5, 39, 40, 41, 42] [] [slS false xs, Sv sep, I n, slS false xs, I (xs.length : Int), I k, Bv true] [] [k < (xs.length : Int)] hB ⟨h4, trivial⟩ ?_
    refine ae_then ?_
    refine aw_seq ?_
    refine aw_true rfl ?_
    refine aw_skip ?_
    refine ae_then ?_
    refine aw_seq ?_
    refine aw_block ?_
    refine aR [] [0, 1, 5, 7, 39, 40, 41] [] [slS false xs, Sv sep, I n, Sv (at_ xs k.toNat), slS false xs, I (xs.length : Int), I k] [] [(0 : Int) ≤ k ∧ k < (xs.length : Int)] hB ⟨⟨(by omega), (by omega)⟩, trivial⟩ ?_
    refine aw_seq ?_
    refine aR [(4, .dec false)] [0, 1, 5, 7, 39, 40, 41, 49] [] [slS false xs, Sv sep, I n, Sv (at_ xs k.toNat), slS false xs, I (xs.length : Int), I k, Bv false] [] [inR .i64 (9223372036854775807 - n), ¬ ((9223372036854775807 - n) < ((at_ xs k.toNat).size : Int))] hB ⟨(inR_i64 (by omega) (by omega)), (by omega), trivial⟩ ?_
    refine aw_false rfl ?_
    refine aw_skip ?_
    refine ae_then ?_
    refine aw_r [] [0, 1, 5, 39, 40, 41] [] [slS false xs, Sv sep, I (n + ((at_ xs k.toNat).size : Int)), slS false xs, I (xs.length : Int), I k] [] [inR .i64 (n + ((at_ xs k.toNat).size : Int))] hB ⟨(inR_i64 (by omega) (by omega)), trivial⟩ ?_
    refine ae_block 2 ?_
    refine ae_then ?_
    refine aw_r [] [0, 1, 5, 39, 40, 41] [] [slS false xs, Sv sep, I (n + ((at_ xs k.toNat).size : Int)), slS false xs, I (xs.length : Int), I (k + 1)] [] [inR .i64 (k + 1)] hB ⟨(inR_i64 (by omega) (by omega)), trivial⟩ ?_
    exact ae_again _ (by omega) ⟨(n + ((at_ xs k.toNat).size : Int)), (k + 1), rfl, (by omega), (by rw [hks]; omega), rfl⟩
   have hke : k.toNat = xs.length := by omega
   rw [hke] at hn
   have hj1 := jnB_take1 (sep := sep) (xs := xs) (by omega)
   have hs1 := jnZ_mono xs (show 1 ≤ xs.length from by omega)
   have hz0 : (⟨#[]⟩ : ByteArray).size = 0 := rfl
   have hs0 : jnZ xs 1 = (at_ xs 0).size := by simp [jnZ]
   refine aw_r [(0, .dec false)] [0, 1, 5, 39, 40, 41, 42] [] [slS false xs, Sv sep, I n, slS false xs, I (xs.length : Int), I k, Bv false] [] [¬ (k < (xs.length : Int))] hB ⟨h4, trivial⟩ ?_
   refine ae_then ?_
   refine aw_seq ?_
   refine aw_false rfl ?_
   refine aw_exit ?_
   refine ae_exit_then ?_
   refine ae_exit_then ?_
   refine ae_exit_same ?_
   refine ae_then ?_
   refine aR [(0, .newb 8 60016 5)] [0, 1, 5, 8] [8, 60016] [slS false xs, Sv sep, I n, .ref 8 0] [some (.bld 134 60016), some (.buf 5 false (⟨#[]⟩ : ByteArray))] [] hB trivial ?_
   refine aR [(1, .bw 8 60016 60017 (.int .i64 n) true (⟨#[]⟩ : ByteArray))] [0, 1, 8] [8, 60017] [slS false xs, Sv sep, .ref 8 0] [some (.bld 134 60017), some (.buf 5 true ((⟨#[]⟩ : ByteArray) ++ (⟨#[]⟩ : ByteArray)))] [([.ref 8 0, I n] : List AV) = [.ref 8 0, I n] ∧ BwOK Tryz.prog 152 134 5 (.int .i64 n) false (⟨#[]⟩ : ByteArray) true (⟨#[]⟩ : ByteArray)] hB ⟨⟨rfl, bg_ok (by omega) (by omega)⟩, trivial⟩ ?_
   refine aR [(3, .bw 8 60017 60016 (.string (at_ xs 0)) true (at_ xs 0))] [0, 1, 8] [8, 60016] [slS false xs, Sv sep, .ref 8 0] [some (.bld 134 60016), some (.buf 5 true (((⟨#[]⟩ : ByteArray) ++ (⟨#[]⟩ : ByteArray)) ++ (at_ xs 0)))] [(0 : Int) ≤ 0 ∧ 0 < (xs.length : Int), ([.ref 8 0, Sv (at_ xs 0)] : List AV) = [.ref 8 0, Sv (at_ xs 0)] ∧ BwOK Tryz.prog 73 134 5 (.string (at_ xs 0)) true ((⟨#[]⟩ : ByteArray) ++ (⟨#[]⟩ : ByteArray)) true (at_ xs 0)] hB ⟨⟨(by omega), (by omega)⟩, ⟨rfl, bw_ok (by first | omega | (simp only [ByteArray.size_append]; omega) | (simp only [ByteArray.size_append, hat]; omega))⟩, trivial⟩ ?_
   refine aw_seq ?_
   refine aR [] [1, 8, 63, 64, 65] [8, 60016] [Sv sep, .ref 8 0, .sl false 1 ((xs.length : Int).toNat - 1) (cutF 1 (fS xs)), I (((xs.length : Int).toNat - 1 : Nat) : Int), I 0] [some (.bld 134 60016), some (.buf 5 true (((⟨#[]⟩ : ByteArray) ++ (⟨#[]⟩ : ByteArray)) ++ (at_ xs 0)))] [(0 : Int) ≤ 1 ∧ (1 : Int) ≤ (xs.length : Int) ∧ (xs.length : Int) ≤ (xs.length : Int)] hB ⟨⟨(by omega), (by omega), (by omega)⟩, trivial⟩ ?_
   refine aw_block ?_
   refine aw_loop (fun gn gσ => ∃ (j : Int) (tx : ByteArray), gn = ((xs.length : Int) - j).toNat ∧ (0 ≤ j ∧ j + 1 ≤ (xs.length : Int)) ∧ (tx = jnB sep (xs.take (j.toNat + 1))) ∧ (tx.size ≤ jnZ xs (j.toNat + 1) + 8 * j.toNat) ∧ gσ = mkS [(1, Sv sep), (8, .ref 8 0), (63, .sl false 1 ((xs.length : Int).toNat - 1) (cutF 1 (fS xs))), (64, I (((xs.length : Int).toNat - 1 : Nat) : Int)), (65, I j)] [(8, .bld 134 60016), (60016, .buf 5 true tx)]) (((xs.length : Int) - 0).toNat) ⟨0, (((⟨#[]⟩ : ByteArray) ++ (⟨#[]⟩ : ByteArray)) ++ (at_ xs 0)), rfl, (by omega), (by show _ = jnB sep (xs.take 1); rw [hj1, nil_ba, nil_ba]), (by show _ ≤ jnZ xs 1 + _; simp only [ByteArray.size_append]; omega), rfl⟩ (fun gn gσ hI => ?_)
   obtain ⟨j, tx, rfl, hj0, htx, hts, rfl⟩ := hI
   refine aw_seq ?_
   by_cases h5 : j < (((xs.length : Int).toNat - 1 : Nat) : Int)
   ·have hj : j.toNat + 1 < xs.length := by omega
    have hsj := jnZ_at xs (k := j.toNat + 1)
    have hmj := jnZ_mono xs (show j.toNat + 1 + 1 ≤ xs.length from by omega)
    have hmj2 := jnZ_mono xs (show j.toNat + 1 ≤ xs.length from by omega)
    have hjs : (j + 1).toNat = j.toNat + 1 := by omega
    have hjt := jnB_take (sep := sep) hj
    have hat : at_ xs (1 + j.toNat) = at_ xs (j.toNat + 1) := by rw [Nat.add_comm]
    refine aw_r [(0, .dec true)] [1, 8, 63, 64, 65, 66] [8, 60016] [Sv sep, .ref 8 0, .sl false 1 ((xs.length : Int).toNat - 1) (cutF 1 (fS xs)), I (((xs.length : Int).toNat - 1 : Nat) : Int), I j, Bv true] [some (.bld 134 60016), some (.buf 5 true tx)] [j < (((xs.length : Int).toNat - 1 : Nat) : Int)] hB ⟨h5, trivial⟩ ?_
    refine ae_then ?_
    refine aw_seq ?_
    refine aw_true rfl ?_
    refine aw_skip ?_
    refine ae_then ?_
    refine aw_seq ?_
    refine aw_block ?_
    refine aR [] [1, 8, 10, 63, 64, 65] [8, 60016] [Sv sep, .ref 8 0, Sv (at_ xs (1 + j.toNat)), .sl false 1 ((xs.length : Int).toNat - 1) (cutF 1 (fS xs)), I (((xs.length : Int).toNat - 1 : Nat) : Int), I j] [some (.bld 134 60016), some (.buf 5 true tx)] [(0 : Int) ≤ j ∧ j < (((xs.length : Int).toNat - 1 : Nat) : Int)] hB ⟨⟨(by omega), (by omega)⟩, trivial⟩ ?_
    refine aR [(1, .bw 8 60016 60017 (.string sep) true sep)] [1, 8, 10, 63, 64, 65] [8, 60017] [Sv sep, .ref 8 0, Sv (at_ xs (1 + j.toNat)), .sl false 1 ((xs.length : Int).toNat - 1) (cutF 1 (fS xs)), I (((xs.length : Int).toNat - 1 : Nat) : Int), I j] [some (.bld 134 60017), some (.buf 5 true (tx ++ sep))] [([.ref 8 0, Sv sep] : List AV) = [.ref 8 0, Sv sep] ∧ BwOK Tryz.prog 73 134 5 (.string sep) true tx true sep] hB ⟨⟨rfl, bw_ok (by first | omega | (simp only [ByteArray.size_append]; omega) | (simp only [ByteArray.size_append, hat]; omega))⟩, trivial⟩ ?_
    refine aw_r [(1, .bw 8 60017 60016 (.string (at_ xs (1 + j.toNat))) true (at_ xs (1 + j.toNat)))] [1, 8, 63, 64, 65] [8, 60016] [Sv sep, .ref 8 0, .sl false 1 ((xs.length : Int).toNat - 1) (cutF 1 (fS xs)), I (((xs.length : Int).toNat - 1 : Nat) : Int), I j] [some (.bld 134 60016), some (.buf 5 true ((tx ++ sep) ++ (at_ xs (1 + j.toNat))))] [([.ref 8 0, Sv (at_ xs (1 + j.toNat))] : List AV) = [.ref 8 0, Sv (at_ xs (1 + j.toNat))] ∧ BwOK Tryz.prog 73 134 5 (.string (at_ xs (1 + j.toNat))) true (tx ++ sep) true (at_ xs (1 + j.toNat))] hB ⟨⟨rfl, bw_ok (by first | omega | (simp only [ByteArray.size_append]; omega) | (simp only [ByteArray.size_append, hat]; omega))⟩, trivial⟩ ?_
    refine ae_block 4 ?_
    refine ae_then ?_
    refine aw_r [] [1, 8, 63, 64, 65] [8, 60016] [Sv sep, .ref 8 0, .sl false 1 ((xs.length : Int).toNat - 1) (cutF 1 (fS xs)), I (((xs.length : Int).toNat - 1 : Nat) : Int), I (j + 1)] [some (.bld 134 60016), some (.buf 5 true ((tx ++ sep) ++ (at_ xs (1 + j.toNat))))] [inR .i64 (j + 1)] hB ⟨(inR_i64 (by omega) (by omega)), trivial⟩ ?_
    exact ae_again _ (by omega) ⟨(j + 1), ((tx ++ sep) ++ (at_ xs (1 + j.toNat))), rfl, (by omega), (by rw [hjs, hjt, ← htx, hat]), (by rw [hjs, hsj]; simp only [ByteArray.size_append, hat]; omega), rfl⟩
   have hje : j.toNat + 1 = xs.length := by omega
   rw [hje, List.take_length] at htx
   refine aw_r [(0, .dec false)] [1, 8, 63, 64, 65, 66] [8, 60016] [Sv sep, .ref 8 0, .sl false 1 ((xs.length : Int).toNat - 1) (cutF 1 (fS xs)), I (((xs.length : Int).toNat - 1 : Nat) : Int), I j, Bv false] [some (.bld 134 60016), some (.buf 5 true tx)] [¬ (j < (((xs.length : Int).toNat - 1 : Nat) : Int))] hB ⟨h5, trivial⟩ ?_
   refine ae_then ?_
   refine aw_seq ?_
   refine aw_false rfl ?_
   refine aw_exit ?_
   refine ae_exit_then ?_
   refine ae_exit_then ?_
   refine ae_exit_same ?_
   refine ae_then ?_
   refine aR [(0, .bs 8 60016)] [4] [] [Sv tx] [] [([.ref 8 0] : List AV) = [.ref 8 0] ∧ BsOK Tryz.prog 75 134 5] hB ⟨⟨rfl, bs_ok⟩, trivial⟩ ?_
   refine aw_ret ?_
   refine ae_ret hB (Sv tx) (by kernel_rfl) (.inl (by first | rfl | (rw [jnB_one _ he]; done) | (rw [htx]; done) | (rw [he]; rfl))) rfl (fun _ => trivial)
  have hM0 : M = 0 := by rw [← hM, show sep.size = 0 from by omega, Nat.zero_mul]
  refine aw_r [(2, .dec false)] [0, 1, 5, 22] [] [slS false xs, Sv sep, I 0, Bv false] [] [¬ (0 < (sep.size : Int))] hB ⟨h3, trivial⟩ ?_
  refine ae_then ?_
  refine aw_false rfl ?_
  refine aw_skip ?_
  refine ae_then ?_
  refine aw_seq ?_
  refine aR [] [0, 1, 5, 39, 40, 41] [] [slS false xs, Sv sep, I 0, slS false xs, I (xs.length : Int), I 0] [] [] hB trivial ?_
  refine aw_block ?_
  refine aw_loop (fun gn gσ => ∃ (n : Int) (k : Int), gn = ((xs.length : Int) - k).toNat ∧ (0 ≤ k ∧ k ≤ (xs.length : Int)) ∧ (n = (M : Int) + (jnZ xs k.toNat : Int)) ∧ gσ = mkS [(0, slS false xs), (1, Sv sep), (5, I n), (39, slS false xs), (40, I (xs.length : Int)), (41, I k)] []) (((xs.length : Int) - 0).toNat) ⟨0, 0, rfl, (by omega), (by show _ = (M : Int) + ((0 : Nat) : Int); omega), rfl⟩ (fun gn gσ hI => ?_)
  obtain ⟨n, k, rfl, hk, hn, rfl⟩ := hI
  refine aw_seq ?_
  by_cases h6 : k < (xs.length : Int)
  ·have hi : k.toNat < xs.length := by omega
   have hsm := jnZ_at xs (k := k.toNat)
   have hmo := jnZ_mono xs (show k.toNat + 1 ≤ xs.length from hi)
   have hks : (k + 1).toNat = k.toNat + 1 := by omega
   refine aw_r [(0, .dec true)] [0, 1, 5, 39, 40, 41, 42] [] [slS false xs, Sv sep, I n, slS false xs, I (xs.length : Int), I k, Bv true] [] [k < (xs.length : Int)] hB ⟨h6, trivial⟩ ?_
   refine ae_then ?_
   refine aw_seq ?_
   refine aw_true rfl ?_
   refine aw_skip ?_
   refine ae_then ?_
   refine aw_seq ?_
   refine aw_block ?_
   refine aR [] [0, 1, 5, 7, 39, 40, 41] [] [slS false xs, Sv sep, I n, Sv (at_ xs k.toNat), slS false xs, I (xs.length : Int), I k] [] [(0 : Int) ≤ k ∧ k < (xs.length : Int)] hB ⟨⟨(by omega), (by omega)⟩, trivial⟩ ?_
   refine aw_seq ?_
   refine aR [(4, .dec false)] [0, 1, 5, 7, 39, 40, 41, 49] [] [slS false xs, Sv sep, I n, Sv (at_ xs k.toNat), slS false xs, I (xs.length : Int), I k, Bv false] [] [inR .i64 (9223372036854775807 - n), ¬ ((9223372036854775807 - n) < ((at_ xs k.toNat).size : Int))] hB ⟨(inR_i64 (by omega) (by omega)), (by omega), trivial⟩ ?_
   refine aw_false rfl ?_
   refine aw_skip ?_
   refine ae_then ?_
   refine aw_r [] [0, 1, 5, 39, 40, 41] [] [slS false xs, Sv sep, I (n + ((at_ xs k.toNat).size : Int)), slS false xs, I (xs.length : Int), I k] [] [inR .i64 (n + ((at_ xs k.toNat).size : Int))] hB ⟨(inR_i64 (by omega) (by omega)), trivial⟩ ?_
   refine ae_block 2 ?_
   refine ae_then ?_
   refine aw_r [] [0, 1, 5, 39, 40, 41] [] [slS false xs, Sv sep, I (n + ((at_ xs k.toNat).size : Int)), slS false xs, I (xs.length : Int), I (k + 1)] [] [inR .i64 (k + 1)] hB ⟨(inR_i64 (by omega) (by omega)), trivial⟩ ?_
   exact ae_again _ (by omega) ⟨(n + ((at_ xs k.toNat).size : Int)), (k + 1), rfl, (by omega), (by rw [hks]; omega), rfl⟩
  have hke : k.toNat = xs.length := by omega
  rw [hke] at hn
  have hj1 := jnB_take1 (sep := sep) (xs := xs) (by omega)
  have hs1 := jnZ_mono xs (show 1 ≤ xs.length from by omega)
  have hz0 : (⟨#[]⟩ : ByteArray).size = 0 := rfl
  have hs0 : jnZ xs 1 = (at_ xs 0).size := by simp [jnZ]
  refine aw_r [(0, .dec false)] [0, 1, 5, 39, 40, 41, 42] [] [slS false xs, Sv sep, I n, slS false xs, I (xs.length : Int), I k, Bv false] [] [¬ (k < (xs.length : Int))] hB ⟨h6, trivial⟩ ?_
  refine ae_then ?_
  refine aw_seq ?_
  refine aw_false rfl ?_
  refine aw_exit ?_
  refine ae_exit_then ?_
  refine ae_exit_then ?_
  refine ae_exit_same ?_
  refine ae_then ?_
  refine aR [(0, .newb 8 60016 5)] [0, 1, 5, 8] [8, 60016] [slS false xs, Sv sep, I n, .ref 8 0] [some (.bld 134 60016), some (.buf 5 false (⟨#[]⟩ : ByteArray))] [] hB trivial ?_
  refine aR [(1, .bw 8 60016 60017 (.int .i64 n) true (⟨#[]⟩ : ByteArray))] [0, 1, 8] [8, 60017] [slS false xs, Sv sep, .ref 8 0] [some (.bld 134 60017), some (.buf 5 true ((⟨#[]⟩ : ByteArray) ++ (⟨#[]⟩ : ByteArray)))] [([.ref 8 0, I n] : List AV) = [.ref 8 0, I n] ∧ BwOK Tryz.prog 152 134 5 (.int .i64 n) false (⟨#[]⟩ : ByteArray) true (⟨#[]⟩ : ByteArray)] hB ⟨⟨rfl, bg_ok (by omega) (by omega)⟩, trivial⟩ ?_
  refine aR [(3, .bw 8 60017 60016 (.string (at_ xs 0)) true (at_ xs 0))] [0, 1, 8] [8, 60016] [slS false xs, Sv sep, .ref 8 0] [some (.bld 134 60016), some (.buf 5 true (((⟨#[]⟩ : ByteArray) ++ (⟨#[]⟩ : ByteArray)) ++ (at_ xs 0)))] [(0 : Int) ≤ 0 ∧ 0 < (xs.length : Int), ([.ref 8 0, Sv (at_ xs 0)] : List AV) = [.ref 8 0, Sv (at_ xs 0)] ∧ BwOK Tryz.prog 73 134 5 (.string (at_ xs 0)) true ((⟨#[]⟩ : ByteArray) ++ (⟨#[]⟩ : ByteArray)) true (at_ xs 0)] hB ⟨⟨(by omega), (by omega)⟩, ⟨rfl, bw_ok (by first | omega | (simp only [ByteArray.size_append]; omega) | (simp only [ByteArray.size_append, hat]; omega))⟩, trivial⟩ ?_
  refine aw_seq ?_
  refine aR [] [1, 8, 63, 64, 65] [8, 60016] [Sv sep, .ref 8 0, .sl false 1 ((xs.length : Int).toNat - 1) (cutF 1 (fS xs)), I (((xs.length : Int).toNat - 1 : Nat) : Int), I 0] [some (.bld 134 60016), some (.buf 5 true (((⟨#[]⟩ : ByteArray) ++ (⟨#[]⟩ : ByteArray)) ++ (at_ xs 0)))] [(0 : Int) ≤ 1 ∧ (1 : Int) ≤ (xs.length : Int) ∧ (xs.length : Int) ≤ (xs.length : Int)] hB ⟨⟨(by omega), (by omega), (by omega)⟩, trivial⟩ ?_
  refine aw_block ?_
  refine aw_loop (fun gn gσ => ∃ (j : Int) (tx : ByteArray), gn = ((xs.length : Int) - j).toNat ∧ (0 ≤ j ∧ j + 1 ≤ (xs.length : Int)) ∧ (tx = jnB sep (xs.take (j.toNat + 1))) ∧ (tx.size ≤ jnZ xs (j.toNat + 1) + 8 * j.toNat) ∧ gσ = mkS [(1, Sv sep), (8, .ref 8 0), (63, .sl false 1 ((xs.length : Int).toNat - 1) (cutF 1 (fS xs))), (64, I (((xs.length : Int).toNat - 1 : Nat) : Int)), (65, I j)] [(8, .bld 134 60016), (60016, .buf 5 true tx)]) (((xs.length : Int) - 0).toNat) ⟨0, (((⟨#[]⟩ : ByteArray) ++ (⟨#[]⟩ : ByteArray)) ++ (at_ xs 0)), rfl, (by omega), (by show _ = jnB sep (xs.take 1); rw [hj1, nil_ba, nil_ba]), (by show _ ≤ jnZ xs 1 + _; simp only [ByteArray.size_append]; omega), rfl⟩ (fun gn gσ hI => ?_)
  obtain ⟨j, tx, rfl, hj0, htx, hts, rfl⟩ := hI
  refine aw_seq ?_
  by_cases h7 : j < (((xs.length : Int).toNat - 1 : Nat) : Int)
  ·have hj : j.toNat + 1 < xs.length := by omega
   have hsj := jnZ_at xs (k := j.toNat + 1)
   have hmj := jnZ_mono xs (show j.toNat + 1 + 1 ≤ xs.length from by omega)
   have hmj2 := jnZ_mono xs (show j.toNat + 1 ≤ xs.length from by omega)
   have hjs : (j + 1).toNat = j.toNat + 1 := by omega
   have hjt := jnB_take (sep := sep) hj
   have hat : at_ xs (1 + j.toNat) = at_ xs (j.toNat + 1) := by rw [Nat.add_comm]
   refine aw_r [(0, .dec true)] [1, 8, 63, 64, 65, 66] [8, 60016] [Sv sep, .ref 8 0, .sl false 1 ((xs.length : Int).toNat - 1) (cutF 1 (fS xs)), I (((xs.length : Int).toNat - 1 : Nat) : Int), I j, Bv true] [some (.bld 134 60016), some (.buf 5 true tx)] [j < (((xs.length : Int).toNat - 1 : Nat) : Int)] hB ⟨h7, trivial⟩ ?_
   refine ae_then ?_
   refine aw_seq ?_
   refine aw_true rfl ?_
   refine aw_skip ?_
   refine ae_then ?_
   refine aw_seq ?_
   refine aw_block ?_
   refine aR [] [1, 8, 10, 63, 64, 65] [8, 60016] [Sv sep, .ref 8 0, Sv (at_ xs (1 + j.toNat)), .sl false 1 ((xs.length : Int).toNat - 1) (cutF 1 (fS xs)), I (((xs.length : Int).toNat - 1 : Nat) : Int), I j] [some (.bld 134 60016), some (.buf 5 true tx)] [(0 : Int) ≤ j ∧ j < (((xs.length : Int).toNat - 1 : Nat) : Int)] hB ⟨⟨(by omega), (by omega)⟩, trivial⟩ ?_
   refine aR [(1, .bw 8 60016 60017 (.string sep) true sep)] [1, 8, 10, 63, 64, 65] [8, 60017] [Sv sep, .ref 8 0, Sv (at_ xs (1 + j.toNat)), .sl false 1 ((xs.length : Int).toNat - 1) (cutF 1 (fS xs)), I (((xs.length : Int).toNat - 1 : Nat) : Int), I j] [some (.bld 134 60017), some (.buf 5 true (tx ++ sep))] [([.ref 8 0, Sv sep] : List AV) = [.ref 8 0, Sv sep] ∧ BwOK Tryz.prog 73 134 5 (.string sep) true tx true sep] hB ⟨⟨rfl, bw_ok (by first | omega | (simp only [ByteArray.size_append]; omega) | (simp only [ByteArray.size_append, hat]; omega))⟩, trivial⟩ ?_
   refine aw_r [(1, .bw 8 60017 60016 (.string (at_ xs (1 + j.toNat))) true (at_ xs (1 + j.toNat)))] [1, 8, 63, 64, 65] [8, 60016] [Sv sep, .ref 8 0, .sl false 1 ((xs.length : Int).toNat - 1) (cutF 1 (fS xs)), I (((xs.length : Int).toNat - 1 : Nat) : Int), I j] [some (.bld 134 60016), some (.buf 5 true ((tx ++ sep) ++ (at_ xs (1 + j.toNat))))] [([.ref 8 0, Sv (at_ xs (1 + j.toNat))] : List AV) = [.ref 8 0, Sv (at_ xs (1 + j.toNat))] ∧ BwOK Tryz.prog 73 134 5 (.string (at_ xs (1 + j.toNat))) true (tx ++ sep) true (at_ xs (1 + j.toNat))] hB ⟨⟨rfl, bw_ok (by first | omega | (simp only [ByteArray.size_append]; omega) | (simp only [ByteArray.size_append, hat]; omega))⟩, trivial⟩ ?_
   refine ae_block 4 ?_
   refine ae_then ?_
   refine aw_r [] [1, 8, 63, 64, 65] [8, 60016] [Sv sep, .ref 8 0, .sl false 1 ((xs.length : Int).toNat - 1) (cutF 1 (fS xs)), I (((xs.length : Int).toNat - 1 : Nat) : Int), I (j + 1)] [some (.bld 134 60016), some (.buf 5 true ((tx ++ sep) ++ (at_ xs (1 + j.toNat))))] [inR .i64 (j + 1)] hB ⟨(inR_i64 (by omega) (by omega)), trivial⟩ ?_
   exact ae_again _ (by omega) ⟨(j + 1), ((tx ++ sep) ++ (at_ xs (1 + j.toNat))), rfl, (by omega), (by rw [hjs, hjt, ← htx, hat]), (by rw [hjs, hsj]; simp only [ByteArray.size_append, hat]; omega), rfl⟩
  have hje : j.toNat + 1 = xs.length := by omega
  rw [hje, List.take_length] at htx
  refine aw_r [(0, .dec false)] [1, 8, 63, 64, 65, 66] [8, 60016] [Sv sep, .ref 8 0, .sl false 1 ((xs.length : Int).toNat - 1) (cutF 1 (fS xs)), I (((xs.length : Int).toNat - 1 : Nat) : Int), I j, Bv false] [some (.bld 134 60016), some (.buf 5 true tx)] [¬ (j < (((xs.length : Int).toNat - 1 : Nat) : Int))] hB ⟨h7, trivial⟩ ?_
  refine ae_then ?_
  refine aw_seq ?_
  refine aw_false rfl ?_
  refine aw_exit ?_
  refine ae_exit_then ?_
  refine ae_exit_then ?_
  refine ae_exit_same ?_
  refine ae_then ?_
  refine aR [(0, .bs 8 60016)] [4] [] [Sv tx] [] [([.ref 8 0] : List AV) = [.ref 8 0] ∧ BsOK Tryz.prog 75 134 5] hB ⟨⟨rfl, bs_ok⟩, trivial⟩ ?_
  refine aw_ret ?_
  refine ae_ret hB (Sv tx) (by kernel_rfl) (.inl (by first | rfl | (rw [jnB_one _ he]; done) | (rw [htx]; done) | (rw [he]; rfl))) rfl (fun _ => trivial)


/-- A text cut at each of a text of one byte. -/
def splB (sep s : ByteArray) : List ByteArray := Lib.splitB sep 0 (Lib.countB s sep) s
theorem splB_C (c : UInt8) (s : ByteArray) : splB ⟨#[c]⟩ s = splC c s := rfl
/-- The end of a text. -/
def sufB (s p : ByteArray) : Bool := Lib.hasSuffix s.data.toList p.data.toList
def trsB (s p : ByteArray) : ByteArray := ⟨(Lib.trimSuffix s.data.toList p.data.toList).toArray⟩
def trpB (s p : ByteArray) : ByteArray := ⟨(Lib.trimPrefix s.data.toList p.data.toList).toArray⟩
theorem sufB_app (x y : ByteArray) : sufB (x ++ y) y = true := by simp [sufB, Lib.hasSuffix]
theorem trsB_app (x y : ByteArray) : trsB (x ++ y) y = x := by
  unfold trsB Lib.trimSuffix
  have h := sufB_app x y
  unfold sufB at h
  rw [if_pos h]
  apply ByteArray.ext
  simp

/-- A number's text. -/
def isDec (s : ByteArray) : Prop := ∃ n : Int, (-1000000000000000000 < n ∧ n < 1000000000000000000) ∧ s = decB n
/-- The number that a text tells. -/
def dcV (s : ByteArray) : Int := match Lib.parseIntB 64 s.data.toList with | .ok v => v | _ => 0
theorem dcV_dec {n : Int} (h : -1000000000000000000 < n ∧ n < 1000000000000000000) : dcV (decB n) = n := by unfold dcV; rw [parse_dec h]
theorem ddLen : ∀ (k u : Nat), 1 ≤ k → u < 10 ^ k → (Lib.decDigits u).length ≤ k
  | 0, _, h, _ => absurd h (by decide)
  | k + 1, u, _, h => by
    rw [Lib.decDigits]
    split
    · simp
    · rename_i h3
      rw [List.length_append]
      by_cases hk : k = 0
      · subst hk; omega
      · have := ddLen k (u / 10) (by omega) (by rw [Nat.pow_succ] at h; omega)
        simp only [List.length_cons, List.length_nil]; omega
theorem trp_dec {n : Int} (h : -1000000000000000000 < n ∧ n < 1000000000000000000) : 1 ≤ (Lib.trimPrefix (decB n).data.toList [45]).length ∧ (Lib.trimPrefix (decB n).data.toList [45]).length ≤ 18 := by
  have e : (decB n).data.toList = Lib.itoa n := by simp [decB]
  have hne : ∀ u, 1 ≤ (Lib.decDigits u).length := fun u => List.length_pos_iff.2 (decDigits_ne u)
  rw [e]
  unfold Lib.itoa
  split
  · have : Lib.trimPrefix (45 :: Lib.decDigits n.natAbs) [45] = Lib.decDigits n.natAbs := by simp [Lib.trimPrefix, Lib.hasPrefix]
    rw [this]
    exact ⟨hne _, ddLen 18 _ (by decide) (by omega)⟩
  · have hl := ddLen 18 n.toNat (by decide) (by omega)
    have h1 := hne n.toNat
    obtain ⟨c, r, hc⟩ : ∃ c r, Lib.decDigits n.toNat = c :: r := by
      cases h : Lib.decDigits n.toNat with
      | nil => exact absurd h (decDigits_ne _)
      | cons c r => exact ⟨c, r, rfl⟩
    have hb := decDigits_bytes _ n.toNat (Nat.lt_succ_self _) c (by rw [hc]; simp)
    have : Lib.trimPrefix (Lib.decDigits n.toNat) [45] = Lib.decDigits n.toNat := by
      have h2 : ¬ (45 : UInt8) = c := fun e => by subst e; have : (45 : UInt8).toNat = 45 := rfl; omega
      rw [hc]
      simp [Lib.trimPrefix, Lib.hasPrefix, h2]
    rw [this]
    exact ⟨h1, hl⟩
/-- Plain arguments and two plain answers, and memory as it was. -/
theorem con_of_calls2 {P : Program} {f : FuncId} {vals : List Value} {v u : Value} {fr : Bool} (h : ∀ w, WX w → Calls P f vals.toArray w fun e w' => e = .returned (.tuple #[v, u]) ∧ Below w.heap.size w w') : Con P f (vals.map .val) fr (.tup [.val v, .val u]) := by
  intro B vals' hbo hm hr
  have h1 := con_of_calls (fr := fr) h B vals' hbo hm hr
  refine h1.mono ?_
  rintro e w' ⟨v', κ', rfl, h2, h3⟩
  refine ⟨v', κ', rfl, h2, ?_⟩
  have e : v' = .tuple #[v, u] := h3.val_of
  subst e
  exact .tup _ _ rfl fun q a x ha hx => by
    match q, ha, hx with
    | 0, ha, hx => simp at ha hx; subst ha; subst hx; exact .tree _ _ (.val _)
    | 1, ha, hx => simp at ha hx; subst ha; subst hx; exact .tree _ _ (.val _)
    | q + 2, ha, _ => simp at ha

def comB (xs : List Int) : ByteArray := jnB ⟨#[44]⟩ (xs.map decB)
def bndI (xs : List Int) : Prop := xs.length ≤ 1000 ∧ ∀ x ∈ xs, -1000000000000000000 < x ∧ x < 1000000000000000000
theorem jnZ_le {B : Nat} {xs : List ByteArray} (h : ∀ x ∈ xs, x.size ≤ B) : ∀ k, k ≤ xs.length → jnZ xs k ≤ B * k
  | 0, _ => Nat.zero_le _
  | k + 1, hk => by
    have h1 := jnZ_le h k (by omega)
    have h2 := h _ (at_mem (show k < xs.length from hk))
    rw [jnZ, Nat.mul_succ]; omega
theorem jok_of {sep : ByteArray} {B n : Nat} {xs : List ByteArray} (hs : sep.size = 1) (hn : xs.length ≤ n) (h : ∀ x ∈ xs, x.size ≤ B) (hB : B * n ≤ 100000000) (hn2 : n ≤ 10000) : jok sep xs := by
  refine ⟨by omega, by omega, fun _ => ?_⟩
  have h1 := jnZ_le h xs.length (Nat.le_refl _)
  have h2 : B * xs.length ≤ B * n := Nat.mul_le_mul_left _ hn
  rw [hs]; omega
theorem decs_size {xs : List Int} (h : ∀ x ∈ xs, -1000000000000000000 < x ∧ x < 1000000000000000000) : ∀ y ∈ xs.map decB, y.size ≤ 20 := fun y hy => by
  obtain ⟨x, hx, rfl⟩ := List.mem_map.1 hy
  have := h x hx
  exact decB_size (by omega)
theorem com_jok {xs : List Int} (h : bndI xs) : jok ⟨#[44]⟩ (xs.map decB) := jok_of (B := 20) (n := 1000) rfl (by rw [List.length_map]; exact h.1) (decs_size h.2) (by decide) (by decide)
theorem jnB_le {sep : ByteArray} {B : Nat} {xs : List ByteArray} (hs : sep.size = 1) (h : ∀ x ∈ xs, x.size ≤ B) : (jnB sep xs).size ≤ (B + 1) * xs.length := by
  by_cases e : xs = []
  · subst e; exact Nat.le_refl _
  · have h1 := jnZ_le h xs.length (Nat.le_refl _)
    rw [jnB_size sep e, hs, Nat.add_mul]; omega
theorem com_size {xs : List Int} (h : ∀ x ∈ xs, -1000000000000000000 < x ∧ x < 1000000000000000000) : (comB xs).size ≤ 21 * xs.length := by
  have := jnB_le (sep := ⟨#[44]⟩) rfl (decs_size h)
  rw [List.length_map] at this
  exact this
theorem com_noB {c : UInt8} (hc : c.toNat < 44 ∨ 57 < c.toNat) (xs : List Int) : noB c (comB xs) := by
  refine noB_join (by unfold noB; simp; intro e; subst e; revert hc; decide) fun y hy => ?_
  obtain ⟨x, _, rfl⟩ := List.mem_map.1 hy
  exact decB_noB (by omega) x
theorem com_split {xs : List Int} (h : xs ≠ []) : splC 44 (comB xs) = xs.map decB := by
  refine spl_join (by simpa using h) fun y hy => ?_
  obtain ⟨x, _, rfl⟩ := List.mem_map.1 hy
  exact decB_noB (by decide) x
/-- The numbers between commas. -/
def dcs (s : ByteArray) : List Int := (splB ⟨#[44]⟩ s).map dcV
theorem dcs_com {xs : List Int} (h : xs ≠ []) (hb : ∀ x ∈ xs, -1000000000000000000 < x ∧ x < 1000000000000000000) : dcs (comB xs) = xs := by
  unfold dcs
  rw [splB_C, com_split h, List.map_map]
  conv => rhs; rw [← List.map_id xs]
  exact List.map_congr_left fun x hx => dcV_dec (hb x hx)
theorem com_isDec {xs : List Int} (h : xs ≠ []) (hb : ∀ x ∈ xs, -1000000000000000000 < x ∧ x < 1000000000000000000) : ∀ y ∈ splC 44 (comB xs), isDec y := fun y hy => by
  rw [com_split h] at hy
  obtain ⟨x, hx, rfl⟩ := List.mem_map.1 hy
  exact ⟨x, hb x hx, rfl⟩
theorem splB_len (c : UInt8) (s : ByteArray) : (splB ⟨#[c]⟩ s).length ≤ s.size + 1 := by
  have h1 := Lib.countB_le ⟨#[c]⟩ (Nat.le_refl 1) s.size s (Nat.le_refl _)
  have h2 := splB_length (sep := ⟨#[c]⟩) (s := s) rfl
  show (Lib.splitB ⟨#[c]⟩ 0 (Lib.countB s ⟨#[c]⟩) s).length ≤ _
  omega
theorem trsB_size (s p : ByteArray) : (trsB s p).size ≤ s.size := by
  show (Lib.trimSuffix s.data.toList p.data.toList).toArray.size ≤ s.data.size
  unfold Lib.trimSuffix
  split
  · simp
  · simp
/-- The lines of a text. -/
def linB (s : ByteArray) : List ByteArray := if s = ⟨#[]⟩ then [] else splB ⟨#[10]⟩ (trsB s ⟨#[10]⟩)
/-- Lines, each ended. -/
def linesX : List ByteArray → Nat → ByteArray
  | _, 0 => ⟨#[]⟩
  | ls, k + 1 => linesX ls k ++ (at_ ls k ++ ⟨#[10]⟩)
theorem linesX_join {ls : List ByteArray} : ∀ {k}, k < ls.length → linesX ls (k + 1) = jnB ⟨#[10]⟩ (ls.take (k + 1)) ++ ⟨#[10]⟩
  | 0, h => by rw [linesX, linesX, nil_ba, jnB_take1 h]
  | k + 1, h => by
    rw [linesX, linesX_join (by omega), jnB_take (by omega)]
    simp only [ByteArray.append_assoc]
theorem linesX_ne {ls : List ByteArray} {k : Nat} : linesX ls (k + 1) ≠ ⟨#[]⟩ := fun e => by
  have := congrArg ByteArray.size e
  simp only [linesX, ByteArray.size_append] at this
  have h1 : (⟨#[10]⟩ : ByteArray).size = 1 := rfl
  have h2 : (⟨#[]⟩ : ByteArray).size = 0 := rfl
  omega
theorem linesX_all {ls : List ByteArray} (h : ls ≠ []) : ∃ k, ls.length = k + 1 ∧ linesX ls ls.length = jnB ⟨#[10]⟩ ls ++ ⟨#[10]⟩ := by
  obtain ⟨k, hk⟩ : ∃ k, ls.length = k + 1 := ⟨ls.length - 1, by have := List.length_pos_iff.2 h; omega⟩
  refine ⟨k, hk, ?_⟩
  rw [hk, linesX_join (by omega), ← hk, List.take_length]
theorem lin_lines {ls : List ByteArray} (hl : ∀ l ∈ ls, noB 10 l) : linB (linesX ls ls.length) = ls := by
  by_cases h : ls = []
  · subst h; simp [linB, linesX]
  · obtain ⟨k, hk, e⟩ := linesX_all h
    unfold linB
    rw [if_neg (by rw [hk]; exact linesX_ne), e, trsB_app, splB_C, spl_join h hl]
theorem suf_lines {ls : List ByteArray} (h : ls ≠ []) : sufB (linesX ls ls.length) ⟨#[10]⟩ = true := by
  obtain ⟨k, hk, e⟩ := linesX_all h
  rw [e]; exact sufB_app _ _
/-- Where a text is asked for its lines. -/
def linOk (s : ByteArray) : Prop := s.size ≤ 10000000 ∧ (s = ⟨#[]⟩ ∨ sufB s ⟨#[10]⟩ = true)
theorem linOk_lines {ls : List ByteArray} (hz : (linesX ls ls.length).size ≤ 10000000) : linOk (linesX ls ls.length) := by
  refine ⟨hz, ?_⟩
  by_cases h : ls = []
  · subst h; exact .inl rfl
  · exact .inr (suf_lines h)
theorem linesX_size {ls : List ByteArray} {B : Nat} (h : ∀ l ∈ ls, l.size ≤ B) : ∀ k, k ≤ ls.length → (linesX ls k).size ≤ (B + 1) * k
  | 0, _ => Nat.zero_le _
  | k + 1, hk => by
    have h1 := linesX_size h k (by omega)
    have h2 := h _ (at_mem (show k < ls.length from hk))
    have h3 : (⟨#[10]⟩ : ByteArray).size = 1 := rfl
    rw [linesX, ByteArray.size_append, ByteArray.size_append, Nat.mul_succ]; omega

-- impl.commasOf
theorem commasOf_ok (xs : List Int) (ok : bndI xs) : Con Tryz.prog 72 [slI false xs] true (Sv (comB xs)) := by
  refine fn_ok (fn := Tryz.f72) (nt := 20) Tryz.func72 rfl rfl rfl rfl (by simp [taggedL, tagged, tagI]) fun B hB => ?_
  refine aw_lens (x := slI false xs) 0 rfl (fun len_xs => ?_)
  simp [LenOK, LenL, cI, fI, slI] at len_xs
  refine aR [] [0] [] [slI false xs] [] [] hB trivial ?_
  refine aR [] [0, 3] [] [slI false xs, nilA] [] [] hB trivial ?_
  refine aw_seq ?_
  refine aR [] [3, 6, 7, 8] [] [nilA, slI false xs, I (xs.length : Int), I 0] [] [] hB trivial ?_
  refine aw_block ?_
  refine aw_nil hB 3 703 1 (fun _ => []) (by kernel_rfl) ?_
  refine aw_weak hB [] (T := [(3, .arr 703), (6, slI false xs), (7, I (xs.length : Int)), (8, I 0)]) (O := [(703, tAS ([] : List ByteArray))]) rfl (⟨.inl rfl, .inl rfl, .inl rfl, .inl rfl, trivial⟩) (⟨.inr ⟨rfl, (by first | rfl | (simp; done) | (simp; omega) | omega), fun i_ hi_ => absurd hi_ (Nat.not_lt_zero _)⟩, trivial⟩) ?_
  refine aw_loop (fun gn gσ => ∃ (words : List ByteArray) (k : Int), gn = ((xs.length : Int) - k).toNat ∧ (0 ≤ k ∧ k ≤ (xs.length : Int)) ∧ (words = (xs.take k.toNat).map decB) ∧ gσ = mkS [(3, .arr 703), (6, slI false xs), (7, I (xs.length : Int)), (8, I k)] [(703, tAS words)]) (((xs.length : Int) - 0).toNat) ⟨([] : List ByteArray), 0, rfl, (by omega), (by rfl), rfl⟩ (fun gn gσ hI => ?_)
  obtain ⟨words, k, rfl, hi0, hws, rfl⟩ := hI
  refine aw_seq ?_
  by_cases h1 : k < (xs.length : Int)
  ·have hi : k.toNat < xs.length := by omega
   have hob := ok.2 _ (at_mem hi)
   have okl := ok.1
   have hwl : words.length = k.toNat := by rw [hws]; simp; omega
   refine aw_r [(0, .dec true)] [3, 6, 7, 8, 9] [703] [.arr 703, slI false xs, I (xs.length : Int), I k, Bv true] [some (tAS words)] [k < (xs.length : Int)] hB ⟨h1, trivial⟩ ?_
   refine ae_then ?_
   refine aw_seq ?_
   refine aw_true rfl ?_
   refine aw_skip ?_
   refine ae_then ?_
   refine aw_seq ?_
   refine aw_block ?_
   refine aR [] [3, 5, 6, 7, 8] [703] [.arr 703, I (at_ xs k.toNat), slI false xs, I (xs.length : Int), I k] [some (tAS words)] [(0 : Int) ≤ k ∧ k < (xs.length : Int)] hB ⟨⟨(by omega), (by omega)⟩, trivial⟩ ?_
   refine aw_r [(2, .call [(true, .any)] true (Sv (decB (at_ xs k.toNat)))), (3, .new 15), (4, .new 16)] [3, 6, 7, 8] [16] [.arr 16, slI false xs, I (xs.length : Int), I k] [some (.arr 1 (words.length + 1) (catF words.length (fS words) (litF [Sv (decB (at_ xs k.toNat))] 1)))] [Con Tryz.prog 95 [I (at_ xs k.toNat)] true (Sv (decB (at_ xs k.toNat))) ∧ True, (words.length + 1) * 16 ≤ 140737488355328] hB ⟨⟨(implDecimal_ok (at_ xs k.toNat) (by omega)), trivial⟩, (by omega), trivial⟩ ?_
   refine ae_block 1 ?_
   refine ae_then ?_
   refine aw_r [] [3, 6, 7, 8] [16] [.arr 16, slI false xs, I (xs.length : Int), I (k + 1)] [some (.arr 1 (words.length + 1) (catF words.length (fS words) (litF [Sv (decB (at_ xs k.toNat))] 1)))] [inR .i64 (k + 1)] hB ⟨(inR_i64 (by omega) (by omega)), trivial⟩ ?_
   refine ae_weak hB [(703, 16)] (T := [(3, .arr 703), (6, slI false xs), (7, I (xs.length : Int)), (8, I (k + 1))]) (O := [(703, tAS (words ++ [(decB (at_ xs k.toNat))]))]) rfl (⟨.inl rfl, .inl rfl, .inl rfl, .inl rfl, trivial⟩) (⟨.inr ⟨rfl, (by first | rfl | (simp; done) | (simp; omega) | omega), fun i_ hi_ => .inl (cat_snoc (enc := cS) (xs := words) rfl i_ hi_)⟩, trivial⟩) (ae_again _ (by omega) ⟨(words ++ [(decB (at_ xs k.toNat))]), (k + 1), rfl, (by omega), (by rw [hws]; exact (mapTake_succ (by omega) hi rfl).symm), rfl⟩)
  have hfin : words = xs.map decB := by rw [hws]; exact map_all (by omega)
  refine aw_r [(0, .dec false)] [3, 6, 7, 8, 9] [703] [.arr 703, slI false xs, I (xs.length : Int), I k, Bv false] [some (tAS words)] [¬ (k < (xs.length : Int))] hB ⟨h1, trivial⟩ ?_
  refine ae_then ?_
  refine aw_seq ?_
  refine aw_false rfl ?_
  refine aw_exit ?_
  refine ae_exit_then ?_
  refine ae_exit_then ?_
  refine ae_exit_same ?_
  refine ae_then ?_
  refine aR [(1, .call [(false, slS false words), (true, .any)] true (Sv (jnB (⟨#[44]⟩ : ByteArray) words)))] [2] [] [Sv (jnB (⟨#[44]⟩ : ByteArray) words)] [] [Con Tryz.prog 74 [slS false words, Sv (⟨#[44]⟩ : ByteArray)] true (Sv (jnB (⟨#[44]⟩ : ByteArray) words)) ∧ ((false = true → true = true) ∧ 1 = 1 ∧ words.length = words.length ∧ ∀ i_, i_ < words.length → (fS words) i_ = (fS words) i_ ∨ (AV.idsL ((fS words) i_) = [] ∧ leL (fun _ => none) false ((fS words) i_) ((fS words) i_))) ∧ True] hB ⟨⟨(join_ok words (⟨#[44]⟩ : ByteArray) (by rw [hfin]; exact com_jok ok)), ⟨(fun h => by cases h), rfl, rfl, fun i _ => .inl rfl⟩, trivial⟩, trivial⟩ ?_
  refine aw_ret ?_
  refine ae_ret hB (Sv (jnB (⟨#[44]⟩ : ByteArray) words)) (by kernel_rfl) (.inl (by rw [hfin]; rfl)) rfl (fun _ => trivial)


def ftTx (f : Feat) : ByteArray := comB [f.X, f.Y, f.D]
theorem com3 (a b c : Int) : comB [a, b, c] = (((decB a ++ ⟨#[44]⟩) ++ decB b) ++ ⟨#[44]⟩) ++ decB c := by
  simp only [comB, List.map_cons, List.map_nil, jnB, jrest, ba_nilT, ByteArray.append_assoc]
theorem ft_bnd {f : Feat} (h : okF f = true) : bndI [f.X, f.Y, f.D] := by
  have := okF_iff.1 h
  refine ⟨show 3 ≤ 1000 by decide, fun x hx => ?_⟩
  simp only [List.mem_cons, List.not_mem_nil, or_false] at hx
  rcases hx with rfl | rfl | rfl <;> omega
theorem ftTx_size {f : Feat} (h : okF f = true) : (ftTx f).size ≤ 63 := com_size (ft_bnd h).2
theorem fts_size {l : List Feat} (h : ∀ f ∈ l, okF f = true) : ∀ y ∈ l.map ftTx, y.size ≤ 63 := fun y hy => by
  obtain ⟨f, hf, rfl⟩ := List.mem_map.1 hy
  exact ftTx_size (h f hf)
theorem fts_jok {l : List Feat} (h : ∀ f ∈ l, okF f = true) (hl : l.length ≤ 400) : jok ⟨#[32]⟩ (l.map ftTx) := jok_of (B := 63) (n := 400) rfl (by rw [List.length_map]; exact hl) (fts_size h) (by decide) (by decide)
theorem fts_len {l : List Feat} (h : ∀ f ∈ l, okF f = true) (hl : l.length ≤ 400) (k : Nat) : (jnB ⟨#[32]⟩ ((l.take k).map ftTx)).size ≤ 30000 := by
  have h1 := jnB_le (sep := ⟨#[32]⟩) rfl (fts_size (l := l.take k) fun f hf => h f (List.mem_of_mem_take hf))
  rw [List.length_map, List.length_take] at h1
  omega
theorem okFeats_mem {l : List Feat} {m : Int} (h : okFeats l m = true) : ∀ f ∈ l, okF f = true := fun f hf => by
  obtain ⟨j, hj, e⟩ := List.getElem_of_mem hf
  have := okFeats_at h hj
  rw [at_eq hj, e] at this
  exact this
def ftsTx (l : List Feat) : ByteArray := if okFeats l 384 = true then jnB ⟨#[32]⟩ (l.map ftTx) else ⟨#[]⟩
theorem fts_step {l : List Feat} {k : Nat} (hk : k < l.length) (h0 : 0 < k) : jnB ⟨#[32]⟩ ((l.take (k + 1)).map ftTx) = (jnB ⟨#[32]⟩ ((l.take k).map ftTx) ++ ⟨#[32]⟩) ++ ftTx (at_ l k) := by
  rw [List.take_succ_eq_append_getElem hk, List.map_append, at_eq hk]
  exact jnB_snoc (fun e => by
    have h2 : ((l.take k).map ftTx).length = k := by rw [List.length_map, List.length_take]; omega
    rw [e] at h2
    simp at h2
    omega)
theorem fts_one {l : List Feat} (hk : 0 < l.length) : jnB ⟨#[32]⟩ ((l.take 1).map ftTx) = ftTx (at_ l 0) := by
  have e : ((l.take 1).map ftTx).length = 1 := by rw [List.length_map, List.length_take]; omega
  rw [jnB_one _ e]
  simp [at_, hk]

-- impl.featWords
theorem featWords_ok (list : List Feat) (hb : ∀ f ∈ list, okF f = true) (hl : list.length ≤ 400) : ∃ (v : List ByteArray), (v = list.map ftTx) ∧ Con Tryz.prog 102 [slFeat false list] true (slS true v) := by
  have hh : ∃ r : (List ByteArray), ((r = list.map ftTx) ∧ (True)) ∧ CallOK Tryz.prog 102 [slFeat false list] (lookO []) true (slS true r) (lookO []) := by
    refine fn_okX (Φ := fun r : (List ByteArray) => (r = list.map ftTx) ∧ (True)) [] (fun r => []) (fn := Tryz.f102) (nt := 25) Tryz.func102 rfl rfl (args := [slFeat false list]) rfl (allcons (.inl ⟨rfl, tagFeat false _⟩) allnil) (res := fun r => slS true r) ?_
    refine xR [] [0] [] [slFeat false list] [] [] trivial ?_
    refine xR [] [0, 3] [] [slFeat false list, nilA] [] [] trivial ?_
    refine x_seq ?_
    refine xR [] [3, 6, 7, 8] [] [nilA, slFeat false list, I (list.length : Int), I 0] [] [] trivial ?_
    refine x_block ?_
    refine x_nil 3 703 1 (fun _ => []) (by kernel_rfl) ?_
    refine x_weak [] (T := [(3, .arr 703), (6, slFeat false list), (7, I (list.length : Int)), (8, I 0)]) (O := [(703, tAS ([] : List ByteArray))]) rfl (⟨.inl rfl, .inl rfl, .inl rfl, .inl rfl, trivial⟩) (⟨.inr ⟨rfl, (by first | rfl | (simp; done) | (simp; omega) | omega), fun i_ hi_ => absurd hi_ (Nat.not_lt_zero _)⟩, trivial⟩) ?_
    refine x_loop (X := (List ByteArray) × Int) (fun x => mkS [(3, .arr 703), (6, slFeat false list), (7, I (list.length : Int)), (8, I x.2)] [(703, tAS x.1)]) (fun x => (0 ≤ x.2 ∧ x.2 ≤ (list.length : Int)) ∧ (x.1 = (list.take x.2.toNat).map ftTx) ∧ True) (fun x => ((list.length : Int) - x.2).toNat) (([] : List ByteArray), 0) rfl (show (0 ≤ (0 : Int) ∧ (0 : Int) ≤ (list.length : Int)) ∧ (([] : List ByteArray) = (list.take (0 : Int).toNat).map ftTx) ∧ True from ⟨(by omega), (by rfl), trivial⟩) (fun x hI => ?_)
    obtain ⟨words, t8⟩ := x
    obtain ⟨hi0, hs0, _⟩ : (0 ≤ t8 ∧ t8 ≤ (list.length : Int)) ∧ (words = (list.take t8.toNat).map ftTx) ∧ True := hI
    show XW _ _ _ _ (mkS [(3, .arr 703), (6, slFeat false list), (7, I (list.length : Int)), (8, I t8)] [(703, tAS words)]) _ _
    refine x_seq ?_
    by_cases h1 : t8 < (list.length : Int)
    ·have hi : t8.toNat < list.length := by omega
     have hof := hb _ (at_mem hi)
     have hwl : words.length = t8.toNat := by rw [hs0]; simp; omega
     refine x_r [(0, .dec true)] [3, 6, 7, 8, 9] [703] [.arr 703, slFeat false list, I (list.length : Int), I t8, Bv true] [some (tAS words)] [t8 < (list.length : Int)] ⟨h1, trivial⟩ ?_
     refine xe_then ?_
     refine x_seq ?_
     refine x_true rfl ?_
     refine x_skip ?_
     refine xe_then ?_
     refine x_seq ?_
     refine x_block ?_
     refine xR [(2, .new 5)] [3, 5, 6, 7, 8] [5, 703] [.arr 703, .ref 5 0, slFeat false list, I (list.length : Int), I t8] [some (bxFeat (at_ list t8.toNat)), some (tAS words)] [(0 : Int) ≤ t8 ∧ t8 < (list.length : Int)] ⟨⟨(by omega), (by omega)⟩, trivial⟩ ?_
     refine x_r [(7, .new 19), (8, .call [(false, slI false ([(at_ list t8.toNat).X, (at_ list t8.toNat).Y, (at_ list t8.toNat).D]))] true (Sv (comB ([(at_ list t8.toNat).X, (at_ list t8.toNat).Y, (at_ list t8.toNat).D])))), (9, .new 21), (10, .new 22)] [3, 6, 7, 8] [22] [.arr 22, slFeat false list, I (list.length : Int), I t8] [some (.arr 1 (words.length + 1) (catF words.length (fS words) (litF [Sv (comB ([(at_ list t8.toNat).X, (at_ list t8.toNat).Y, (at_ list t8.toNat).D]))] 1)))] [Con Tryz.prog 72 [slI false ([(at_ list t8.toNat).X, (at_ list t8.toNat).Y, (at_ list t8.toNat).D])] true (Sv (comB ([(at_ list t8.toNat).X, (at_ list t8.toNat).Y, (at_ list t8.toNat).D]))) ∧ ((false = true → true = true) ∧ 1 = 1 ∧ 3 = (([(at_ list t8.toNat).X, (at_ list t8.toNat).Y, (at_ list t8.toNat).D]).length) ∧ ∀ i_, i_ < (([(at_ list t8.toNat).X, (at_ list t8.toNat).Y, (at_ list t8.toNat).D]).length) → (litF [I ((at_ list t8.toNat).X), I ((at_ list t8.toNat).Y), I ((at_ list t8.toNat).D)] 1) i_ = (fI ([(at_ list t8.toNat).X, (at_ list t8.toNat).Y, (at_ list t8.toNat).D])) i_ ∨ (AV.idsL ((fI ([(at_ list t8.toNat).X, (at_ list t8.toNat).Y, (at_ list t8.toNat).D])) i_) = [] ∧ leL (fun _ => none) false ((litF [I ((at_ list t8.toNat).X), I ((at_ list t8.toNat).Y), I ((at_ list t8.toNat).D)] 1) i_) ((fI ([(at_ list t8.toNat).X, (at_ list t8.toNat).Y, (at_ list t8.toNat).D])) i_))) ∧ True, (words.length + 1) * 16 ≤ 140737488355328] ⟨⟨(commasOf_ok ([(at_ list t8.toNat).X, (at_ list t8.toNat).Y, (at_ list t8.toNat).D]) (ft_bnd hof)), ⟨(fun h => by cases h), rfl, (by first | rfl | (simp; done) | (simp; omega) | omega), fun i_ hi_ => .inl (match i_, hi_ with | 0, _ => rfl | 1, _ => rfl | 2, _ => rfl | (i + 3), h => absurd h (by simp))⟩, trivial⟩, (by omega), trivial⟩ ?_
     refine xe_block 1 ?_
     refine xe_then ?_
     refine x_r [] [3, 6, 7, 8] [22] [.arr 22, slFeat false list, I (list.length : Int), I (t8 + 1)] [some (.arr 1 (words.length + 1) (catF words.length (fS words) (litF [Sv (comB ([(at_ list t8.toNat).X, (at_ list t8.toNat).Y, (at_ list t8.toNat).D]))] 1)))] [inR .i64 (t8 + 1)] ⟨(inR_i64 (by omega) (by omega)), trivial⟩ ?_
     refine xe_weak [(703, 22)] (T := [(3, .arr 703), (6, slFeat false list), (7, I (list.length : Int)), (8, I (t8 + 1))]) (O := [(703, tAS (words ++ [(comB ([(at_ list t8.toNat).X, (at_ list t8.toNat).Y, (at_ list t8.toNat).D]))]))]) rfl (⟨.inl rfl, .inl rfl, .inl rfl, .inl rfl, trivial⟩) (⟨.inr ⟨rfl, (by first | rfl | (simp; done) | (simp; omega) | omega), fun i_ hi_ => .inl (cat_snoc (enc := cS) (xs := words) rfl i_ hi_)⟩, trivial⟩) (xe_again ((words ++ [(comB ([(at_ list t8.toNat).X, (at_ list t8.toNat).Y, (at_ list t8.toNat).D]))]), (t8 + 1)) rfl (show (0 ≤ (t8 + 1) ∧ (t8 + 1) ≤ (list.length : Int)) ∧ ((words ++ [(comB ([(at_ list t8.toNat).X, (at_ list t8.toNat).Y, (at_ list t8.toNat).D]))]) = (list.take (t8 + 1).toNat).map ftTx) ∧ True from ⟨(by omega), (by rw [hs0]; exact (mapTake_succ (by omega) hi rfl).symm), trivial⟩) (by first | (show (((list.length : Int) - (t8 + 1)).toNat : Nat) < ((list.length : Int) - t8).toNat; omega) | (dsimp only; omega)))
    have hfin : words = list.map ftTx := by rw [hs0]; exact map_all (by omega)
    refine x_r [(0, .dec false)] [3, 6, 7, 8, 9] [703] [.arr 703, slFeat false list, I (list.length : Int), I t8, Bv false] [some (tAS words)] [¬ (t8 < (list.length : Int))] ⟨h1, trivial⟩ ?_
    refine xe_then ?_
    refine x_seq ?_
    refine x_false rfl ?_
    refine x_exit ?_
    refine xe_exit_then ?_
    refine xe_loop_exit ?_
    refine xe_exit_same ?_
    refine xe_then ?_
    refine xR [] [2] [703] [.arr 703] [some (tAS words)] [] trivial ?_
    refine x_ret ?_
    refine xe_end words (show (words = list.map ftTx) ∧ (True) from ⟨(by exact hfin), trivial⟩) (trivial) (.arr 703) (by kernel_rfl) (.inr ⟨(fun _ => rfl), rfl, rfl, fun i _ => .inl rfl⟩) (fun _ => rfl) (fun _ => (tagS true _))
  obtain ⟨v, ⟨hh0, _⟩, hc⟩ := hh
  exact ⟨v, hh0, hc⟩


-- impl.FeatsText
theorem implFeatsText_ok (list : List Feat) : Con Tryz.prog 39 [slFeat false list] true (Sv (ftsTx list)) := by
  refine fn_ok (fn := Tryz.f39) (nt := 9) Tryz.func39 rfl rfl rfl rfl (by simp [taggedL, tagged, tagFeat]) fun B hB => ?_
  refine aw_lens (x := slFeat false list) 0 rfl (fun len_list => ?_)
  simp [LenOK, LenL, cFeat, fFeat, slFeat] at len_list
  refine aR [] [0] [] [slFeat false list] [] [] hB trivial ?_
  refine aw_seq ?_
  refine aw_seq ?_
  rcases Bool.eq_false_or_eq_true (okFeats list 384) with h1 | h1
  ·have hok := h1
   have hfn := okFeats_n hok
   have hst : ftsTx list = jnB ⟨#[32]⟩ (list.map ftTx) := if_pos hok
   refine aw_r [(1, .call [(true, .any)] true (Bv true))] [0, 5] [] [slFeat false list, Bv false] [] [Con Tryz.prog 98 [slFeat false list] true (Bv true) ∧ True] hB ⟨⟨(con_bool h1 (ValidFeats_ok list)), trivial⟩, trivial⟩ ?_
   refine ae_then ?_
   refine aw_false rfl ?_
   refine aw_skip ?_
   refine ae_then ?_
   refine aw_seq ?_
   obtain ⟨v_1, hx1_0, hc1⟩ := featWords_ok list (okFeats_mem hok) (by omega)
   refine aw_r [(1, .call [(true, .any)] true (slS true v_1)), (2, .call [(false, slS false v_1), (true, .any)] true (Sv (jnB (⟨#[32]⟩ : ByteArray) v_1)))] [2] [] [Sv (jnB (⟨#[32]⟩ : ByteArray) v_1)] [] [Con Tryz.prog 102 [slFeat false list] true (slS true v_1) ∧ True, Con Tryz.prog 74 [slS false v_1, Sv (⟨#[32]⟩ : ByteArray)] true (Sv (jnB (⟨#[32]⟩ : ByteArray) v_1)) ∧ ((false = true → true = true) ∧ 1 = 1 ∧ v_1.length = v_1.length ∧ ∀ i_, i_ < v_1.length → (fS v_1) i_ = (fS v_1) i_ ∨ (AV.idsL ((fS v_1) i_) = [] ∧ leL (fun _ => none) false ((fS v_1) i_) ((fS v_1) i_))) ∧ True] hB ⟨⟨hc1, trivial⟩, ⟨(join_ok v_1 (⟨#[32]⟩ : ByteArray) (by rw [hx1_0]; exact fts_jok (okFeats_mem hok) (by omega))), ⟨(fun h => by cases h), rfl, rfl, fun i _ => .inl rfl⟩, trivial⟩, trivial⟩ ?_
   refine ae_then ?_
   refine aw_ret ?_
   refine ae_ret hB (Sv (jnB (⟨#[32]⟩ : ByteArray) v_1)) (by kernel_rfl) (.inl (by first | (rw [hst]; done) | (rw [hst, hx1_0]; done))) rfl (fun _ => trivial)
  have hst : ftsTx list = ⟨#[]⟩ := by rw [ftsTx, if_neg (by simp [*])]
  refine aw_r [(1, .call [(true, .any)] true (Bv false))] [0, 5] [] [slFeat false list, Bv true] [] [Con Tryz.prog 98 [slFeat false list] true (Bv false) ∧ True] hB ⟨⟨(con_bool h1 (ValidFeats_ok list)), trivial⟩, trivial⟩ ?_
  refine ae_then ?_
  refine aw_true rfl ?_
  refine aR [] [2] [] [Sv (⟨#[]⟩ : ByteArray)] [] [] hB trivial ?_
  refine aw_ret ?_
  refine ae_ret_then ?_
  refine ae_ret hB (Sv (⟨#[]⟩ : ByteArray)) (by kernel_rfl) (.inl (by first | (rw [hst]; done) | (rw [hst, hx1_0]; done))) rfl (fun _ => trivial)


-- strings.Split
set_option maxHeartbeats 2000000 in
set_option maxRecDepth 100000 in
theorem split_ok (s sep : ByteArray) (hs : s.size ≤ 140737488 ∧ True) (h1 : sep.size = 1) : Con Tryz.prog 149 [Sv s, Sv sep] true (slS true (splB sep s)) := by
  obtain ⟨c, rfl⟩ := Lib.one_byte sep h1
  have hle := Lib.countB_le ⟨#[c]⟩ (by omega) s.size s (Nat.le_refl _)
  have hlen := splB_length (s := s) h1
  have hcell : ∀ i, i < Lib.countB s ⟨#[c]⟩ + 1 → (((Lib.splitB ⟨#[c]⟩ 0 (Lib.countB s ⟨#[c]⟩) s).map Value.string).toArray)[i]? = some (.string (at_ (splB ⟨#[c]⟩ s) i)) ∧ (Value.string (at_ (splB ⟨#[c]⟩ s) i)).oneCell' = true := fun i hi => by
    have hi2 : i < (Lib.splitB ⟨#[c]⟩ 0 (Lib.countB s ⟨#[c]⟩) s).length := by omega
    refine ⟨?_, rfl⟩
    have e : at_ (splB ⟨#[c]⟩ s) i = (Lib.splitB ⟨#[c]⟩ 0 (Lib.countB s ⟨#[c]⟩) s)[i] := at_eq hi2
    rw [e]
    simp [List.getElem?_eq_getElem hi2]
  have hmain := con_of_calls_sl (P := Tryz.prog) (f := 149) (vals := [.string s, .string ⟨#[c]⟩]) (n := Lib.countB s ⟨#[c]⟩ + 1) (T := 9) (cs := ((Lib.splitB ⟨#[c]⟩ 0 (Lib.countB s ⟨#[c]⟩) s).map Value.string).toArray) (g := fun i => .string (at_ (splB ⟨#[c]⟩ s) i)) (by unfold maxLen; omega) hcell ?_
  · have e : slS true (splB ⟨#[c]⟩ s) = .sl true 1 (Lib.countB s ⟨#[c]⟩ + 1) fun i => [Sv (at_ (splB ⟨#[c]⟩ s) i)] := by
      rw [← hlen]; rfl
    rw [e]
    exact hmain
  · intro w _
    have hI : ∀ (x : ByteArray) (d : Array Value), x.size ≤ s.size → Calls Tryz.prog 258 #[.string x, .string ⟨#[c]⟩] (w.alloc (.cells d 9)) fun e w' => e = .returned (.int .i64 (Lib.indexB x ⟨#[c]⟩)) ∧ w' = w.alloc (.cells d 9) := fun x d _ => by
      have := Tryz.strings_Index_one x c (w.alloc (.cells d 9))
      have e : Lib.indexB x ⟨#[c]⟩ = Lib.indexByte x.data.toList c := Lib.index_one _ _
      rw [e]
      exact this
    have hC : Calls Tryz.prog 257 #[.string s, .string ⟨#[c]⟩] w fun e w' => e = .returned (.int .i64 (Lib.countB s ⟨#[c]⟩)) ∧ w' = w := by
      have := Tryz.strings_Count_one s c w
      have e : Lib.countB s ⟨#[c]⟩ = Lib.countByte s.data.toList c := Lib.count_one c _
      rw [e]
      exact this
    have hcore := Any.strings_genSplit_core Tryz.lays221 (by kernel_rfl) s ⟨#[c]⟩ 0 (-1) (Lib.countB s ⟨#[c]⟩ + 1) w (by omega) (by omega) (Nat.zero_le _) hI hC (by decide) (by decide) (by rw [if_pos (by decide)]; omega)
    rw [Nat.add_sub_cancel, hlen] at hcore
    have e2 : Lib.cellsOf (Lib.splitB ⟨#[c]⟩ 0 (Lib.countB s ⟨#[c]⟩) s) (Lib.countB s ⟨#[c]⟩ + 1) = ((Lib.splitB ⟨#[c]⟩ 0 (Lib.countB s ⟨#[c]⟩) s).map Value.string).toArray := by rw [← hlen]; exact Lib.cellsOf_full _
    rw [e2] at hcore
    go_enter Tryz.func149, Tryz.ntmps149
    go_wp2_with (go_at_call 212; refine hcore.mono ?_; rintro e w' ⟨rfl, hw⟩; rw [hw])
    go_ret
    exact ⟨rfl, rfl⟩


-- impl.wordsOf
theorem wordsOf_ok (s : ByteArray) (hz : s.size ≤ 10000000) : Con Tryz.prog 70 [Sv s] true (slS true (splB ⟨#[32]⟩ s)) := by
  refine fn_ok (fn := Tryz.f70) (nt := 5) Tryz.func70 rfl rfl rfl rfl (by simp [taggedL, tagged]) fun B hB => ?_
  refine aR [] [0] [] [Sv s] [] [] hB trivial ?_
  refine aR [(1, .call [(true, .any), (true, .any)] true (slS true (splB (⟨#[32]⟩ : ByteArray) s)))] [2] [] [slS true (splB (⟨#[32]⟩ : ByteArray) s)] [] [Con Tryz.prog 149 [Sv s, Sv (⟨#[32]⟩ : ByteArray)] true (slS true (splB (⟨#[32]⟩ : ByteArray) s)) ∧ True] hB ⟨⟨(split_ok s (⟨#[32]⟩ : ByteArray) ⟨by omega, trivial⟩ rfl), trivial⟩, trivial⟩ ?_
  refine aw_ret ?_
  refine ae_ret hB (slS true (splB (⟨#[32]⟩ : ByteArray) s)) (by kernel_rfl) (.inr ⟨(fun _ => rfl), rfl, (by first | rfl | (simp; done) | (simp; omega) | omega), fun i_ hi_ => .inl (by first | rfl | fail)⟩) rfl (fun _ => (tagS true _))


/-- Whether a text is a number's, as ReadDecimal has it. -/
def dcB (s : ByteArray) : Bool := match Lib.parseIntB 64 s.data.toList with | .ok n => decide ((1 ≤ (Lib.trimPrefix s.data.toList [45]).length ∧ (Lib.trimPrefix s.data.toList [45]).length ≤ 18) ∧ decB n = s) | _ => false
def dcN (s : ByteArray) : Int := if dcB s = true then dcV s else 0
theorem dcB_len {s : ByteArray} (h : ¬ (1 ≤ (Lib.trimPrefix s.data.toList [45]).length ∧ (Lib.trimPrefix s.data.toList [45]).length ≤ 18)) : dcB s = false ∧ dcN s = 0 := by
  have e : dcB s = false := by
    unfold dcB
    split
    · exact decide_eq_false fun q => h q.1
    · rfl
  exact ⟨e, by rw [dcN, e]; rfl⟩
theorem dcB_yes {s : ByteArray} {n : Int} (hp : Lib.parseIntB 64 s.data.toList = .ok n) (hl : 1 ≤ (Lib.trimPrefix s.data.toList [45]).length ∧ (Lib.trimPrefix s.data.toList [45]).length ≤ 18) (he : decB n = s) : dcB s = true ∧ dcN s = n := by
  have e : dcB s = true := by
    unfold dcB
    rw [hp]
    exact decide_eq_true ⟨hl, he⟩
  exact ⟨e, by rw [dcN, if_pos e]; unfold dcV; rw [hp]⟩
theorem dcB_ne {s : ByteArray} {n : Int} (hp : Lib.parseIntB 64 s.data.toList = .ok n) (he : ¬ decB n = s) : dcB s = false ∧ dcN s = 0 := by
  have e : dcB s = false := by
    unfold dcB
    rw [hp]
    exact decide_eq_false fun q => he q.2
  exact ⟨e, by rw [dcN, e]; rfl⟩
theorem dcB_bad {s : ByteArray} (hp : ∀ n, Lib.parseIntB 64 s.data.toList ≠ .ok n) : dcB s = false ∧ dcN s = 0 := by
  have e : dcB s = false := by
    unfold dcB
    split
    · rename_i n h; exact absurd h (hp n)
    · rfl
  exact ⟨e, by rw [dcN, e]; rfl⟩
theorem pI_bd {s : ByteArray} {n : Int} (hp : Lib.parseIntB 64 s.data.toList = .ok n) : -9223372036854775808 ≤ n ∧ n ≤ 9223372036854775807 := by
  have := Lib.parseIntB_bounds hp
  have e : ((2 ^ (64 - 1) : Nat) : Int) = 9223372036854775808 := by decide
  rw [e] at this
  omega

-- impl.ReadDecimal
set_option maxHeartbeats 2000000 in
theorem dec_calls (n : Int) (h : -9223372036854775808 ≤ n ∧ n ≤ 9223372036854775807) (w : World) (hw : WX w) : Calls Tryz.prog 95 #[.int .i64 n] w fun e w' => e = .returned (.string (decB n)) ∧ Below w.heap.size w w' := by
  go_enter Tryz.func95, Tryz.ntmps95
  go_wp2_with (go_at_call 173; refine (Tryz.strconv_FormatInt_10 n h.1 h.2 w (WX_tab hw)).mono ?_; rintro e w' ⟨rfl, k, os, rfl⟩)
  go_ret
  exact ⟨rfl, Lib.below_grow _ _ (Nat.le_refl _) k os⟩
set_option maxHeartbeats 4000000 in
set_option maxRecDepth 100000 in
theorem readDecT_calls (s : ByteArray) (hz : s.size ≤ 140737488 ∧ True) (w : World) (hw : WX w) : Calls Tryz.prog 120 #[.string s] w fun e w' => e = .returned (.tuple #[.int .i64 (dcN s), .bool (dcB s)]) ∧ Below w.heap.size w w' := by
  by_cases ht : 1 ≤ (Lib.trimPrefix s.data.toList [45]).length ∧ (Lib.trimPrefix s.data.toList [45]).length ≤ 18
  · cases hp : Lib.parseIntB 64 s.data.toList with
    | ok n =>
      have hn := pI_bd hp
      by_cases he : decB n = s
      · have hr := dcB_yes hp ht he
        rw [hr.1, hr.2]
        go_enter Tryz.func120, Tryz.ntmps120
        go_wp2_with (go_at_call 140; refine (Tryz.strings_TrimPrefix s _ w).mono ?_; rintro e w' ⟨rfl, hw'⟩; rw [hw'])
        clear hw'
        go_wp2_with (go_at_call 193; refine (Tryz.strconv_ParseInt_10_at64_ok s (by omega) n hp w).mono ?_; rintro e w2 ⟨rfl, hw2⟩)
        have hb : Below w.heap.size w w2 := by
          rcases hw2 with rfl | ⟨t, rfl⟩
          · exact Below.refl _ _
          · exact Lib.bytesWorld_below _ _ _
        have hx := WX_below hw w2 hb
        clear hw2
        go_wp2_with (go_at_call 95; refine (dec_calls n (by omega) w2 hx).mono ?_; rintro e w3 ⟨rfl, hb3⟩)
        go_ret2
        exact ⟨rfl, hb.trans (hb3.mono hb.size)⟩
      · have hr := dcB_ne hp he
        rw [hr.1, hr.2]
        have hne : ¬ (decB n).toList = s.toList := fun q => he (by
          rw [Lib.toList_data, Lib.toList_data] at q
          apply ByteArray.ext
          exact Array.ext' q)
        have hne2 : ((decB n).toList == s.toList) = false := beq_eq_false_iff_ne.2 hne
        go_enter Tryz.func120, Tryz.ntmps120
        go_wp2_with (go_at_call 140; refine (Tryz.strings_TrimPrefix s _ w).mono ?_; rintro e w' ⟨rfl, hw'⟩; rw [hw'])
        clear hw'
        go_wp2_with (go_at_call 193; refine (Tryz.strconv_ParseInt_10_at64_ok s (by omega) n hp w).mono ?_; rintro e w2 ⟨rfl, hw2⟩)
        have hb : Below w.heap.size w w2 := by
          rcases hw2 with rfl | ⟨t, rfl⟩
          · exact Below.refl _ _
          · exact Lib.bytesWorld_below _ _ _
        have hx := WX_below hw w2 hb
        clear hw2
        go_wp2_with (go_at_call 95; refine (dec_calls n (by omega) w2 hx).mono ?_; rintro e w3 ⟨rfl, hb3⟩)
        go_ret2
        exact ⟨rfl, hb.trans (hb3.mono hb.size)⟩
        all_goals (exfalso; first | contradiction | (simp_all; done))
    | «syntax» =>
      have hr := dcB_bad (s := s) fun n => by rw [hp]; exact fun h => by cases h
      rw [hr.1, hr.2]
      obtain ⟨tp, p, hv⟩ := hw.2.1
      go_enter Tryz.func120, Tryz.ntmps120
      go_wp2_with (go_at_call 140; refine (Tryz.strings_TrimPrefix s _ w).mono ?_; rintro e w' ⟨rfl, hw'⟩; rw [hw'])
      clear hw'
      go_wp2_with (go_at_call 193; refine (Tryz.strconv_ParseInt_10_at64_syntax_var s (by omega) hp tp p w hv).mono ?_; rintro e w2 ⟨N, rfl, _, _, hb⟩)
      go_ret2
      exact ⟨rfl, hb⟩
    | range =>
      have hr := dcB_bad (s := s) fun n => by rw [hp]; exact fun h => by cases h
      rw [hr.1, hr.2]
      obtain ⟨tp, p, hv⟩ := hw.2.2
      go_enter Tryz.func120, Tryz.ntmps120
      go_wp2_with (go_at_call 140; refine (Tryz.strings_TrimPrefix s _ w).mono ?_; rintro e w' ⟨rfl, hw'⟩; rw [hw'])
      clear hw'
      go_wp2_with (go_at_call 193; refine (Tryz.strconv_ParseInt_10_at64_range_var s (by omega) hp tp p w hv).mono ?_; rintro e w2 ⟨N, rfl, _, _, hb⟩)
      go_ret2
      exact ⟨rfl, hb⟩
  · have hr := dcB_len ht
    rw [hr.1, hr.2]
    by_cases h0 : (Lib.trimPrefix s.data.toList [45]).length < 1
    · go_enter Tryz.func120, Tryz.ntmps120
      go_wp2_with (go_at_call 140; refine (Tryz.strings_TrimPrefix s _ w).mono ?_; rintro e w' ⟨rfl, hw'⟩; rw [hw'])
      go_ret2
      exact ⟨rfl, Below.refl _ _⟩
    · have h18 : 18 < (Lib.trimPrefix s.data.toList [45]).length := by omega
      go_enter Tryz.func120, Tryz.ntmps120
      go_wp2_with (go_at_call 140; refine (Tryz.strings_TrimPrefix s _ w).mono ?_; rintro e w' ⟨rfl, hw'⟩; rw [hw'])
      go_ret2
      exact ⟨rfl, Below.refl _ _⟩
theorem readDecT_ok (s : ByteArray) (hz : s.size ≤ 140737488 ∧ True) : Con Tryz.prog 120 [Sv s] true (.tup [I (dcN s), Bv (dcB s)]) :=
  con_of_calls2 (vals := [.string s]) fun w hw => readDecT_calls s hz w hw


def sameL {α : Type} [Inhabited α] [DecidableEq α] (a b : List α) : Bool := decide (a.length = b.length) && allN a.length (fun j => decide (at_ a j = at_ b j))
theorem sameL_refl {α : Type} [Inhabited α] [DecidableEq α] (a : List α) : sameL a a = true := by simp [sameL, allN_iff]

/-- Pieces are no longer than the text. -/
theorem splitB_piece (c : UInt8) : ∀ (k : Nat) (s : ByteArray), ∀ x ∈ Lib.splitB ⟨#[c]⟩ 0 k s, x.size ≤ s.size
  | 0, s, x, h => by rw [Lib.splitB_zero] at h; have := List.mem_singleton.1 h; subst this; exact Nat.le_refl _
  | k + 1, s, x, h => by
    rcases Lib.indexB_cases s ⟨#[c]⟩ with hi | ⟨i, hi, hr⟩
    · rw [Lib.splitB_miss _ _ _ _ hi] at h; have := List.mem_singleton.1 h; subst this; exact Nat.le_refl _
    · rw [Lib.splitB_hit _ _ _ _ _ hi] at h
      rcases List.mem_cons.1 h with h | h
      · subst h; rw [ByteArray.size_extract]; omega
      · have := splitB_piece c k _ x h
        rw [ByteArray.size_extract] at this
        omega
theorem splB_piece {c : UInt8} {s x : ByteArray} (h : x ∈ splB ⟨#[c]⟩ s) : x.size ≤ s.size := splitB_piece c _ s x h

/-- The numbers between commas; what is none is 0. -/
def dcsN (s : ByteArray) : List Int := (splB ⟨#[44]⟩ s).map dcN
def rdFt (n : List Int) : Feat := ⟨at_ n 0, at_ n 1, at_ n 2⟩
/-- The features that words tell. -/
def rfwOk (ws : List ByteArray) : Bool := allN ws.length fun j => decide ((splB ⟨#[44]⟩ (at_ ws j)).length = 3)
def rfwR (ws : List ByteArray) : List Feat × Bool := if rfwOk ws = true then (ws.map fun w => rdFt (dcsN w), true) else ([], false)
theorem rfw_yes {ws : List ByteArray} (h : rfwOk ws = true) : rfwR ws = (ws.map fun w => rdFt (dcsN w), true) := if_pos h
theorem rfw_no {ws : List ByteArray} (h : rfwOk ws = false) : rfwR ws = ([], false) := by simp [rfwR, h]
def rdfI (s : ByteArray) : List Feat × Bool := if (rfwR (splB ⟨#[32]⟩ s)).2 = true ∧ okFeats (rfwR (splB ⟨#[32]⟩ s)).1 384 = true ∧ ftsTx (rfwR (splB ⟨#[32]⟩ s)).1 = s then ((rfwR (splB ⟨#[32]⟩ s)).1, true) else ([], false)
theorem rdf_no {s : ByteArray} (h : ¬ ((rfwR (splB ⟨#[32]⟩ s)).2 = true ∧ okFeats (rfwR (splB ⟨#[32]⟩ s)).1 384 = true ∧ ftsTx (rfwR (splB ⟨#[32]⟩ s)).1 = s)) : rdfI s = ([], false) := if_neg h
theorem rdf_yes {s : ByteArray} (h : (rfwR (splB ⟨#[32]⟩ s)).2 = true ∧ okFeats (rfwR (splB ⟨#[32]⟩ s)).1 384 = true ∧ ftsTx (rfwR (splB ⟨#[32]⟩ s)).1 = s) : rdfI s = ((rfwR (splB ⟨#[32]⟩ s)).1, true) := if_pos h

-- impl.numbersOf
theorem numbersOfT_ok (s : ByteArray) (hz : s.size ≤ 10000000) : ∃ (v : List Int), (v = dcsN s) ∧ Con Tryz.prog 71 [Sv s] true (slI true v) := by
  have hh : ∃ r : (List Int), ((r = dcsN s) ∧ (True)) ∧ CallOK Tryz.prog 71 [Sv s] (lookO []) true (slI true r) (lookO []) := by
    refine fn_okX (Φ := fun r : (List Int) => (r = dcsN s) ∧ (True)) [] (fun r => []) (fn := Tryz.f71) (nt := 26) Tryz.func71 rfl rfl (args := [Sv s]) rfl (allcons (.inl ⟨rfl, trivial⟩) allnil) (res := fun r => slI true r) ?_
    refine xR [] [0] [] [Sv s] [] [] trivial ?_
    refine xR [] [0, 3] [] [Sv s, nilA] [] [] trivial ?_
    refine x_seq ?_
    refine xR [(1, .call [(true, .any), (true, .any)] true (slS true (splB (⟨#[44]⟩ : ByteArray) s)))] [3, 9, 10, 11] [] [nilA, slS true (splB (⟨#[44]⟩ : ByteArray) s), I (((splB (⟨#[44]⟩ : ByteArray) s).length) : Int), I 0] [] [Con Tryz.prog 149 [Sv s, Sv (⟨#[44]⟩ : ByteArray)] true (slS true (splB (⟨#[44]⟩ : ByteArray) s)) ∧ True] ⟨⟨(split_ok s (⟨#[44]⟩ : ByteArray) ⟨by omega, trivial⟩ rfl), trivial⟩, trivial⟩ ?_
    refine x_block ?_
    refine x_nil 3 703 1 (fun _ => []) (by kernel_rfl) ?_
    refine x_weak [] (T := [(3, .arr 703), (9, slS true (splB (⟨#[44]⟩ : ByteArray) s)), (10, I (((splB (⟨#[44]⟩ : ByteArray) s).length) : Int)), (11, I 0)]) (O := [(703, tAI ([] : List Int))]) rfl (⟨.inl rfl, .inl rfl, .inl rfl, .inl rfl, trivial⟩) (⟨.inr ⟨rfl, (by first | rfl | (simp; done) | (simp; omega) | omega), fun i_ hi_ => absurd hi_ (Nat.not_lt_zero _)⟩, trivial⟩) ?_
    refine x_loop (X := (List Int) × Int) (fun x => mkS [(3, .arr 703), (9, slS true (splB (⟨#[44]⟩ : ByteArray) s)), (10, I (((splB (⟨#[44]⟩ : ByteArray) s).length) : Int)), (11, I x.2)] [(703, tAI x.1)]) (fun x => (0 ≤ x.2 ∧ x.2 ≤ ((splB ⟨#[44]⟩ s).length : Int)) ∧ (x.1 = ((splB ⟨#[44]⟩ s).take x.2.toNat).map dcN) ∧ True) (fun x => (((splB ⟨#[44]⟩ s).length : Int) - x.2).toNat) (([] : List Int), 0) rfl (show (0 ≤ (0 : Int) ∧ (0 : Int) ≤ ((splB ⟨#[44]⟩ s).length : Int)) ∧ (([] : List Int) = ((splB ⟨#[44]⟩ s).take (0 : Int).toNat).map dcN) ∧ True from ⟨(by omega), (by rfl), trivial⟩) (fun x hI => ?_)
    obtain ⟨ns, k⟩ := x
    obtain ⟨hi0, hns, _⟩ : (0 ≤ k ∧ k ≤ ((splB ⟨#[44]⟩ s).length : Int)) ∧ (ns = ((splB ⟨#[44]⟩ s).take k.toNat).map dcN) ∧ True := hI
    show XW _ _ _ _ (mkS [(3, .arr 703), (9, slS true (splB (⟨#[44]⟩ : ByteArray) s)), (10, I (((splB (⟨#[44]⟩ : ByteArray) s).length) : Int)), (11, I k)] [(703, tAI ns)]) _ _
    refine x_seq ?_
    by_cases h1 : k < (((splB (⟨#[44]⟩ : ByteArray) s).length) : Int)
    ·have hi : k.toNat < (splB ⟨#[44]⟩ s).length := by omega
     have hnl : ns.length = k.toNat := by rw [hns]; simp; omega
     have hsl := splB_len 44 s
     refine x_r [(0, .dec true)] [3, 9, 10, 11, 12] [703] [.arr 703, slS true (splB (⟨#[44]⟩ : ByteArray) s), I (((splB (⟨#[44]⟩ : ByteArray) s).length) : Int), I k, Bv true] [some (tAI ns)] [k < (((splB (⟨#[44]⟩ : ByteArray) s).length) : Int)] ⟨h1, trivial⟩ ?_
     refine xe_then ?_
     refine x_seq ?_
     refine x_true rfl ?_
     refine x_skip ?_
     refine xe_then ?_
     refine x_seq ?_
     refine x_block ?_
     refine xR [] [3, 5, 9, 10, 11] [703] [.arr 703, Sv (at_ (splB (⟨#[44]⟩ : ByteArray) s) k.toNat), slS true (splB (⟨#[44]⟩ : ByteArray) s), I (((splB (⟨#[44]⟩ : ByteArray) s).length) : Int), I k] [some (tAI ns)] [(0 : Int) ≤ k ∧ k < (((splB (⟨#[44]⟩ : ByteArray) s).length) : Int)] ⟨⟨(by omega), (by omega)⟩, trivial⟩ ?_
     refine xR [(1, .call [(true, .any)] true (.tup [I (dcN (at_ (splB (⟨#[44]⟩ : ByteArray) s) k.toNat)), Bv (dcB (at_ (splB (⟨#[44]⟩ : ByteArray) s) k.toNat))]))] [3, 6, 9, 10, 11] [703] [.arr 703, I (dcN (at_ (splB (⟨#[44]⟩ : ByteArray) s) k.toNat)), slS true (splB (⟨#[44]⟩ : ByteArray) s), I (((splB (⟨#[44]⟩ : ByteArray) s).length) : Int), I k] [some (tAI ns)] [Con Tryz.prog 120 [Sv (at_ (splB (⟨#[44]⟩ : ByteArray) s) k.toNat)] true (.tup [I (dcN (at_ (splB (⟨#[44]⟩ : ByteArray) s) k.toNat)), Bv (dcB (at_ (splB (⟨#[44]⟩ : ByteArray) s) k.toNat))]) ∧ True] ⟨⟨(readDecT_ok (at_ (splB (⟨#[44]⟩ : ByteArray) s) k.toNat) (by first | omega | (refine ⟨?_, trivial⟩; have := splB_piece (at_mem hi); omega))), trivial⟩, trivial⟩ ?_
     refine x_r [(2, .new 22), (3, .new 23)] [3, 9, 10, 11] [23] [.arr 23, slS true (splB (⟨#[44]⟩ : ByteArray) s), I (((splB (⟨#[44]⟩ : ByteArray) s).length) : Int), I k] [some (.arr 1 (ns.length + 1) (catF ns.length (fI ns) (litF [I (dcN (at_ (splB (⟨#[44]⟩ : ByteArray) s) k.toNat))] 1)))] [(ns.length + 1) * 8 ≤ 140737488355328] ⟨(by omega), trivial⟩ ?_
     refine xe_block 1 ?_
     refine xe_then ?_
     refine x_r [] [3, 9, 10, 11] [23] [.arr 23, slS true (splB (⟨#[44]⟩ : ByteArray) s), I (((splB (⟨#[44]⟩ : ByteArray) s).length) : Int), I (k + 1)] [some (.arr 1 (ns.length + 1) (catF ns.length (fI ns) (litF [I (dcN (at_ (splB (⟨#[44]⟩ : ByteArray) s) k.toNat))] 1)))] [inR .i64 (k + 1)] ⟨(inR_i64 (by omega) (by omega)), trivial⟩ ?_
     refine xe_weak [(703, 23)] (T := [(3, .arr 703), (9, slS true (splB (⟨#[44]⟩ : ByteArray) s)), (10, I (((splB (⟨#[44]⟩ : ByteArray) s).length) : Int)), (11, I (k + 1))]) (O := [(703, tAI (ns ++ [(dcN (at_ (splB (⟨#[44]⟩ : ByteArray) s) k.toNat))]))]) rfl (⟨.inl rfl, .inl rfl, .inl rfl, .inl rfl, trivial⟩) (⟨.inr ⟨rfl, (by first | rfl | (simp; done) | (simp; omega) | omega), fun i_ hi_ => .inl (cat_snoc (enc := cI) (xs := ns) rfl i_ hi_)⟩, trivial⟩) (xe_again ((ns ++ [(dcN (at_ (splB (⟨#[44]⟩ : ByteArray) s) k.toNat))]), (k + 1)) rfl (show (0 ≤ (k + 1) ∧ (k + 1) ≤ ((splB ⟨#[44]⟩ s).length : Int)) ∧ ((ns ++ [(dcN (at_ (splB (⟨#[44]⟩ : ByteArray) s) k.toNat))]) = ((splB ⟨#[44]⟩ s).take (k + 1).toNat).map dcN) ∧ True from ⟨(by omega), (by rw [hns]; exact (mapTake_succ (by omega) hi rfl).symm), trivial⟩) (by first | (show ((((splB ⟨#[44]⟩ s).length : Int) - (k + 1)).toNat : Nat) < (((splB ⟨#[44]⟩ s).length : Int) - k).toNat; omega) | (dsimp only; omega)))
    have hfin : ns = dcsN s := by rw [hns]; exact map_all (by omega)
    refine x_r [(0, .dec false)] [3, 9, 10, 11, 12] [703] [.arr 703, slS true (splB (⟨#[44]⟩ : ByteArray) s), I (((splB (⟨#[44]⟩ : ByteArray) s).length) : Int), I k, Bv false] [some (tAI ns)] [¬ (k < (((splB (⟨#[44]⟩ : ByteArray) s).length) : Int))] ⟨h1, trivial⟩ ?_
    refine xe_then ?_
    refine x_seq ?_
    refine x_false rfl ?_
    refine x_exit ?_
    refine xe_exit_then ?_
    refine xe_loop_exit ?_
    refine xe_exit_same ?_
    refine xe_then ?_
    refine xR [] [2] [703] [.arr 703] [some (tAI ns)] [] trivial ?_
    refine x_ret ?_
    refine xe_end ns (show (ns = dcsN s) ∧ (True) from ⟨(by exact hfin), trivial⟩) (trivial) (.arr 703) (by kernel_rfl) (.inr ⟨(fun _ => rfl), rfl, rfl, fun i _ => .inl rfl⟩) (fun _ => rfl) (fun _ => (tagI true _))
  obtain ⟨v, ⟨hh0, _⟩, hc⟩ := hh
  exact ⟨v, hh0, hc⟩


-- impl.readFeatWords
theorem readFeatWords_ok (words : List ByteArray) (hz : ∀ w ∈ words, w.size ≤ 10000000) (hl : words.length ≤ 10000000) : ∃ (v : List Feat) (c : Bool), (v = (rfwR words).1) ∧ (c = (rfwR words).2) ∧ Con Tryz.prog 103 [slS false words] true (.tup [slFeat true v, Bv c]) := by
  have hh : ∃ r : (List Feat) × Bool, ((r.1 = (rfwR words).1) ∧ (r.2 = (rfwR words).2) ∧ (True)) ∧ CallOK Tryz.prog 103 [slS false words] (lookO []) true (.tup [slFeat true r.1, Bv r.2]) (lookO []) := by
    refine fn_okX (Φ := fun r : (List Feat) × Bool => (r.1 = (rfwR words).1) ∧ (r.2 = (rfwR words).2) ∧ (True)) [] (fun r => []) (fn := Tryz.f103) (nt := 34) Tryz.func103 rfl rfl (args := [slS false words]) rfl (allcons (.inl ⟨rfl, tagS false _⟩) allnil) (res := fun r => .tup [slFeat true r.1, Bv r.2]) ?_
    refine xR [] [0] [] [slS false words] [] [] trivial ?_
    refine xR [] [0, 4] [] [slS false words, nilA] [] [] trivial ?_
    refine x_seq ?_
    refine xR [] [4, 8, 9, 10] [] [nilA, slS false words, I (words.length : Int), I 0] [] [] trivial ?_
    refine x_block ?_
    refine x_nil 4 704 3 (fun _ => []) (by kernel_rfl) ?_
    refine x_weak [] (T := [(4, .arr 704), (8, slS false words), (9, I (words.length : Int)), (10, I 0)]) (O := [(704, tAFeat ([] : List Feat))]) rfl (⟨.inl rfl, .inl rfl, .inl rfl, .inl rfl, trivial⟩) (⟨.inr ⟨rfl, (by first | rfl | (simp; done) | (simp; omega) | omega), fun i_ hi_ => absurd hi_ (Nat.not_lt_zero _)⟩, trivial⟩) ?_
    refine x_loop (X := (List Feat) × Int) (fun x => mkS [(4, .arr 704), (8, slS false words), (9, I (words.length : Int)), (10, I x.2)] [(704, tAFeat x.1)]) (fun x => (0 ≤ x.2 ∧ x.2 ≤ (words.length : Int)) ∧ (∀ j : Nat, (j : Int) < x.2 → decide ((splB ⟨#[44]⟩ (at_ words j)).length = 3) = true) ∧ (x.1 = (words.take x.2.toNat).map fun w => rdFt (dcsN w)) ∧ True) (fun x => ((words.length : Int) - x.2).toNat) (([] : List Feat), 0) rfl (show (0 ≤ (0 : Int) ∧ (0 : Int) ≤ (words.length : Int)) ∧ (∀ j : Nat, (j : Int) < (0 : Int) → decide ((splB ⟨#[44]⟩ (at_ words j)).length = 3) = true) ∧ (([] : List Feat) = (words.take (0 : Int).toNat).map fun w => rdFt (dcsN w)) ∧ True from ⟨(by omega), (by intro j hj; omega), (by rfl), trivial⟩) (fun x hI => ?_)
    obtain ⟨list, t10⟩ := x
    obtain ⟨hi0, hall0, hs0, _⟩ : (0 ≤ t10 ∧ t10 ≤ (words.length : Int)) ∧ (∀ j : Nat, (j : Int) < t10 → decide ((splB ⟨#[44]⟩ (at_ words j)).length = 3) = true) ∧ (list = (words.take t10.toNat).map fun w => rdFt (dcsN w)) ∧ True := hI
    show XW _ _ _ _ (mkS [(4, .arr 704), (8, slS false words), (9, I (words.length : Int)), (10, I t10)] [(704, tAFeat list)]) _ _
    refine x_seq ?_
    by_cases h1 : t10 < (words.length : Int)
    ·have hi : t10.toNat < words.length := by omega
     have hwz := hz _ (at_mem hi)
     have hll : list.length = t10.toNat := by rw [hs0]; simp; omega
     refine x_r [(0, .dec true)] [4, 8, 9, 10, 11] [704] [.arr 704, slS false words, I (words.length : Int), I t10, Bv true] [some (tAFeat list)] [t10 < (words.length : Int)] ⟨h1, trivial⟩ ?_
     refine xe_then ?_
     refine x_seq ?_
     refine x_true rfl ?_
     refine x_skip ?_
     refine xe_then ?_
     refine x_seq ?_
     refine x_block ?_
     refine xR [] [4, 6, 8, 9, 10] [704] [.arr 704, Sv (at_ words t10.toNat), slS false words, I (words.length : Int), I t10] [some (tAFeat list)] [(0 : Int) ≤ t10 ∧ t10 < (words.length : Int)] ⟨⟨(by omega), (by omega)⟩, trivial⟩ ?_
     refine x_seq ?_
     obtain ⟨v_1, hx1_0, hc1⟩ := numbersOfT_ok (at_ words t10.toNat) hwz
     have hnl_ : v_1.length = (splB ⟨#[44]⟩ (at_ words t10.toNat)).length := by rw [hx1_0]; exact List.length_map _
     have hnv := hx1_0
     refine x_r [(1, .call [(true, .any)] true (slI true v_1))] [4, 7, 8, 9, 10] [704] [.arr 704, slI true v_1, slS false words, I (words.length : Int), I t10] [some (tAFeat list)] [Con Tryz.prog 71 [Sv (at_ words t10.toNat)] true (slI true v_1) ∧ True] ⟨⟨hc1, trivial⟩, trivial⟩ ?_
     refine xe_then ?_
     refine x_seq ?_
     refine x_seq ?_
     by_cases h2 : (v_1.length : Int) = 3
     ·have h3 : (splB ⟨#[44]⟩ (at_ words t10.toNat)).length = 3 := by have q := hnl_; omega
      have hok := decide_eq_true h3
      refine x_r [(2, .dec false)] [4, 7, 8, 9, 10, 18] [704] [.arr 704, slI true v_1, slS false words, I (words.length : Int), I t10, Bv false] [some (tAFeat list)] [¬ ((v_1.length : Int) ≠ 3)] ⟨(fun hq => hq h2), trivial⟩ ?_
      refine xe_then ?_
      refine x_false rfl ?_
      refine x_skip ?_
      refine xe_then ?_
      refine x_r [(11, .new 30), (12, .new 31)] [4, 8, 9, 10] [31] [.arr 31, slS false words, I (words.length : Int), I t10] [some (.arr 3 (list.length + 1) (catF list.length (fFeat list) (litF [I (at_ v_1 0), I (at_ v_1 1), I (at_ v_1 2)] 3)))] [(0 : Int) ≤ 0 ∧ 0 < (v_1.length : Int), (0 : Int) ≤ 1 ∧ 1 < (v_1.length : Int), (0 : Int) ≤ 2 ∧ 2 < (v_1.length : Int), (list.length + 1) * 24 ≤ 140737488355328] ⟨⟨(by omega), (by omega)⟩, ⟨(by omega), (by omega)⟩, ⟨(by omega), (by omega)⟩, (by omega), trivial⟩ ?_
      refine xe_block 1 ?_
      refine xe_then ?_
      refine x_r [] [4, 8, 9, 10] [31] [.arr 31, slS false words, I (words.length : Int), I (t10 + 1)] [some (.arr 3 (list.length + 1) (catF list.length (fFeat list) (litF [I (at_ v_1 0), I (at_ v_1 1), I (at_ v_1 2)] 3)))] [inR .i64 (t10 + 1)] ⟨(inR_i64 (by omega) (by omega)), trivial⟩ ?_
      refine xe_weak [(704, 31)] (T := [(4, .arr 704), (8, slS false words), (9, I (words.length : Int)), (10, I (t10 + 1))]) (O := [(704, tAFeat (list ++ [(Feat.mk (at_ v_1 0) (at_ v_1 1) (at_ v_1 2))]))]) rfl (⟨.inl rfl, .inl rfl, .inl rfl, .inl rfl, trivial⟩) (⟨.inr ⟨rfl, (by first | rfl | (simp; done) | (simp; omega) | omega), fun i_ hi_ => .inl (cat_snoc (enc := cFeat) (xs := list) rfl i_ hi_)⟩, trivial⟩) (xe_again ((list ++ [(Feat.mk (at_ v_1 0) (at_ v_1 1) (at_ v_1 2))]), (t10 + 1)) rfl (show (0 ≤ (t10 + 1) ∧ (t10 + 1) ≤ (words.length : Int)) ∧ (∀ j : Nat, (j : Int) < (t10 + 1) → decide ((splB ⟨#[44]⟩ (at_ words j)).length = 3) = true) ∧ ((list ++ [(Feat.mk (at_ v_1 0) (at_ v_1 1) (at_ v_1 2))]) = (words.take (t10 + 1).toNat).map fun w => rdFt (dcsN w)) ∧ True from ⟨(by omega), (by intro j hj; by_cases ej : j = t10.toNat; (subst ej; exact hok); exact hall0 j (by omega)), (by rw [hs0, hnv]; exact (mapTake_succ (by omega) hi rfl).symm), trivial⟩) (by first | (show (((words.length : Int) - (t10 + 1)).toNat : Nat) < ((words.length : Int) - t10).toNat; omega) | (dsimp only; omega)))
     have hok : rfwOk words = false := allN_not hi (decide_eq_false (by have q := hnl_; omega))
     have hst := rfw_no hok
     refine x_r [(2, .dec true)] [4, 7, 8, 9, 10, 18] [704] [.arr 704, slI true v_1, slS false words, I (words.length : Int), I t10, Bv true] [some (tAFeat list)] [(v_1.length : Int) ≠ 3] ⟨h2, trivial⟩ ?_
     refine xe_then ?_
     refine x_true rfl ?_
     refine xR [] [2, 3] [] [nilA, Bv false] [] [] trivial ?_
     refine x_ret ?_
     refine xe_ret_then (xe_ret_block (xe_ret_then (xe_loop_ret (xe_ret_block (xe_ret_then ?_)))))
     refine xe_end (([] : List Feat), false) (show (([] : List Feat) = (rfwR words).1) ∧ (false = (rfwR words).2) ∧ (True) from ⟨(by first | (rw [hst]; done) | (rw [hst]; exact hfin) | (rw [hst, hfin]; done)), (by first | (rw [hst]; done) | (rw [hst]; exact hfin) | (rw [hst, hfin]; done)), trivial⟩) (trivial) (.tup [nilA, Bv false]) (by kernel_rfl) (.inr ⟨⟨rfl, rfl⟩, ⟨rfl, rfl⟩⟩) (fun _ => rfl) (fun _ => (by simp [tagged, taggedL, tagFeat]))
    have hok : rfwOk words = true := allN_at (fun j hj => hall0 j (by omega))
    have hst := rfw_yes hok
    have hfin : list = words.map fun w => rdFt (dcsN w) := by rw [hs0]; exact map_all (by omega)
    refine x_r [(0, .dec false)] [4, 8, 9, 10, 11] [704] [.arr 704, slS false words, I (words.length : Int), I t10, Bv false] [some (tAFeat list)] [¬ (t10 < (words.length : Int))] ⟨h1, trivial⟩ ?_
    refine xe_then ?_
    refine x_seq ?_
    refine x_false rfl ?_
    refine x_exit ?_
    refine xe_exit_then ?_
    refine xe_loop_exit ?_
    refine xe_exit_same ?_
    refine xe_then ?_
    refine xR [] [2, 3] [704] [.arr 704, Bv true] [some (tAFeat list)] [] trivial ?_
    refine x_ret ?_
    refine xe_end (list, true) (show (list = (rfwR words).1) ∧ (true = (rfwR words).2) ∧ (True) from ⟨(by first | (rw [hst]; done) | (rw [hst]; exact hfin) | (rw [hst, hfin]; done)), (by first | (rw [hst]; done) | (rw [hst]; exact hfin) | (rw [hst, hfin]; done)), trivial⟩) (trivial) (.tup [.arr 704, Bv true]) (by kernel_rfl) (.inr ⟨⟨(fun _ => rfl), rfl, rfl, fun i _ => .inl rfl⟩, ⟨rfl, rfl⟩⟩) (fun _ => rfl) (fun _ => (by simp [tagged, taggedL, tagFeat]))
  obtain ⟨⟨v, c⟩, ⟨hh0, hh1, _⟩, hc⟩ := hh
  exact ⟨v, c, hh0, hh1, hc⟩


-- impl.ReadFeats
theorem implReadFeats_ok (s : ByteArray) (hz : s.size ≤ 1000000) : ∃ (v : List Feat) (c : Bool), (v = (rdfI s).1) ∧ (c = (rdfI s).2) ∧ Con Tryz.prog 40 [Sv s] true (.tup [slFeat true v, Bv c]) := by
  have hh : ∃ r : (List Feat) × Bool, ((r.1 = (rdfI s).1) ∧ (r.2 = (rdfI s).2) ∧ (True)) ∧ CallOK Tryz.prog 40 [Sv s] (lookO []) true (.tup [slFeat true r.1, Bv r.2]) (lookO []) := by
    refine fn_okX (Φ := fun r : (List Feat) × Bool => (r.1 = (rdfI s).1) ∧ (r.2 = (rdfI s).2) ∧ (True)) [] (fun r => []) (fn := Tryz.f40) (nt := 26) Tryz.func40 rfl rfl (args := [Sv s]) rfl (allcons (.inl ⟨rfl, trivial⟩) allnil) (res := fun r => .tup [slFeat true r.1, Bv r.2]) ?_
    refine xR [] [0] [] [Sv s] [] [] trivial ?_
    refine x_seq ?_
    obtain ⟨v_1, c_1, hx1_0, hx1_1, hc1⟩ := readFeatWords_ok (splB ⟨#[32]⟩ s) (fun w hw => by have := splB_piece hw; omega) (by have := splB_len 32 s; omega)
    have hrv := hx1_0
    have hrc := hx1_1
    refine x_r [(1, .call [(true, .any)] true (slS true (splB ⟨#[32]⟩ s))), (2, .call [(false, slS false (splB ⟨#[32]⟩ s))] true (.tup [slFeat true v_1, Bv c_1]))] [0, 4, 5] [] [Sv s, slFeat true v_1, Bv c_1] [] [Con Tryz.prog 70 [Sv s] true (slS true (splB ⟨#[32]⟩ s)) ∧ True, Con Tryz.prog 103 [slS false (splB ⟨#[32]⟩ s)] true (.tup [slFeat true v_1, Bv c_1]) ∧ ((false = true → true = true) ∧ 1 = 1 ∧ ((splB ⟨#[32]⟩ s).length) = ((splB ⟨#[32]⟩ s).length) ∧ ∀ i_, i_ < ((splB ⟨#[32]⟩ s).length) → (fS (splB ⟨#[32]⟩ s)) i_ = (fS (splB ⟨#[32]⟩ s)) i_ ∨ (AV.idsL ((fS (splB ⟨#[32]⟩ s)) i_) = [] ∧ leL (fun _ => none) false ((fS (splB ⟨#[32]⟩ s)) i_) ((fS (splB ⟨#[32]⟩ s)) i_))) ∧ True] ⟨⟨(wordsOf_ok s (by omega)), trivial⟩, ⟨hc1, ⟨(fun h => by cases h), rfl, rfl, fun i _ => .inl rfl⟩, trivial⟩, trivial⟩ ?_
    refine xe_then ?_
    refine x_seq ?_
    refine x_seq ?_
    rcases Bool.eq_false_or_eq_true c_1 with h1 | h1
    ·subst h1
     have hc1 : (rfwR (splB ⟨#[32]⟩ s)).2 = true := by first | exact hrc.symm | (rw [← hrc]; exact h1)
     rcases Bool.eq_false_or_eq_true (okFeats v_1 384) with h2 | h2
     ·have hc2 : okFeats (rfwR (splB ⟨#[32]⟩ s)).1 384 = true := by rw [← hrv]; exact h2
      by_cases h3 : (ftsTx v_1) = s
      ·have hst := rdf_yes (s := s) ⟨hc1, hc2, by rw [← hrv]; exact h3⟩
       refine x_r [(4, .call [(false, slFeat false v_1)] true (Bv true)), (9, .call [(false, slFeat false v_1)] true (Sv (ftsTx v_1))), (11, .dec false)] [4, 24] [] [slFeat true v_1, Bv false] [] [Con Tryz.prog 98 [slFeat false v_1] true (Bv true) ∧ ((false = true → true = true) ∧ 3 = 3 ∧ v_1.length = v_1.length ∧ ∀ i_, i_ < v_1.length → (fFeat v_1) i_ = (fFeat v_1) i_ ∨ (AV.idsL ((fFeat v_1) i_) = [] ∧ leL (fun _ => none) false ((fFeat v_1) i_) ((fFeat v_1) i_))) ∧ True, Con Tryz.prog 39 [slFeat false v_1] true (Sv (ftsTx v_1)) ∧ ((false = true → true = true) ∧ 3 = 3 ∧ v_1.length = v_1.length ∧ ∀ i_, i_ < v_1.length → (fFeat v_1) i_ = (fFeat v_1) i_ ∨ (AV.idsL ((fFeat v_1) i_) = [] ∧ leL (fun _ => none) false ((fFeat v_1) i_) ((fFeat v_1) i_))) ∧ True, ¬ ((ftsTx v_1) ≠ s)] ⟨⟨(con_bool h2 (ValidFeats_ok v_1)), ⟨(fun h => by cases h), rfl, rfl, fun i _ => .inl rfl⟩, trivial⟩, ⟨(implFeatsText_ok v_1), ⟨(fun h => by cases h), rfl, rfl, fun i _ => .inl rfl⟩, trivial⟩, (fun hq => hq h3), trivial⟩ ?_
       refine xe_then ?_
       refine x_false rfl ?_
       refine x_skip ?_
       refine xe_then ?_
       refine xR [] [2, 3] [] [slFeat true v_1, Bv true] [] [] trivial ?_
       refine x_ret ?_
       refine xe_end (v_1, true) (show (v_1 = (rdfI s).1) ∧ (true = (rdfI s).2) ∧ (True) from ⟨(by first | (rw [hst]; done) | (rw [hst]; exact hrv) | (rw [hst, hrv]; done) | (rw [hst]; simp_all; done)), (by first | (rw [hst]; done) | (rw [hst]; exact hrv) | (rw [hst, hrv]; done) | (rw [hst]; simp_all; done)), trivial⟩) (trivial) (.tup [slFeat true v_1, Bv true]) (by kernel_rfl) (.inl rfl) (fun _ => rfl) (fun _ => (by simp [tagged, taggedL, tagFeat]))
      have hst := rdf_no (s := s) (fun q => by have q1 := q.2.2; rw [← hrv] at q1; exact h3 q1)
      refine x_r [(4, .call [(false, slFeat false v_1)] true (Bv true)), (9, .call [(false, slFeat false v_1)] true (Sv (ftsTx v_1))), (11, .dec true)] [4, 24] [] [slFeat true v_1, Bv true] [] [Con Tryz.prog 98 [slFeat false v_1] true (Bv true) ∧ ((false = true → true = true) ∧ 3 = 3 ∧ v_1.length = v_1.length ∧ ∀ i_, i_ < v_1.length → (fFeat v_1) i_ = (fFeat v_1) i_ ∨ (AV.idsL ((fFeat v_1) i_) = [] ∧ leL (fun _ => none) false ((fFeat v_1) i_) ((fFeat v_1) i_))) ∧ True, Con Tryz.prog 39 [slFeat false v_1] true (Sv (ftsTx v_1)) ∧ ((false = true → true = true) ∧ 3 = 3 ∧ v_1.length = v_1.length ∧ ∀ i_, i_ < v_1.length → (fFeat v_1) i_ = (fFeat v_1) i_ ∨ (AV.idsL ((fFeat v_1) i_) = [] ∧ leL (fun _ => none) false ((fFeat v_1) i_) ((fFeat v_1) i_))) ∧ True, (ftsTx v_1) ≠ s] ⟨⟨(con_bool h2 (ValidFeats_ok v_1)), ⟨(fun h => by cases h), rfl, rfl, fun i _ => .inl rfl⟩, trivial⟩, ⟨(implFeatsText_ok v_1), ⟨(fun h => by cases h), rfl, rfl, fun i _ => .inl rfl⟩, trivial⟩, h3, trivial⟩ ?_
      refine xe_then ?_
      refine x_true rfl ?_
      refine xR [] [2, 3] [] [nilA, Bv false] [] [] trivial ?_
      refine x_ret ?_
      refine xe_ret_then ?_
      refine xe_end (([] : List Feat), false) (show (([] : List Feat) = (rdfI s).1) ∧ (false = (rdfI s).2) ∧ (True) from ⟨(by first | (rw [hst]; done) | (rw [hst]; exact hrv) | (rw [hst, hrv]; done) | (rw [hst]; simp_all; done)), (by first | (rw [hst]; done) | (rw [hst]; exact hrv) | (rw [hst, hrv]; done) | (rw [hst]; simp_all; done)), trivial⟩) (trivial) (.tup [nilA, Bv false]) (by kernel_rfl) (.inr ⟨⟨rfl, rfl⟩, ⟨rfl, rfl⟩⟩) (fun _ => rfl) (fun _ => (by simp [tagged, taggedL, tagFeat]))
     have hst := rdf_no (s := s) (fun q => by have q1 := q.2.1; rw [← hrv] at q1; rw [h2] at q1; cases q1)
     refine x_r [(4, .call [(false, slFeat false v_1)] true (Bv false))] [4, 24] [] [slFeat true v_1, Bv true] [] [Con Tryz.prog 98 [slFeat false v_1] true (Bv false) ∧ ((false = true → true = true) ∧ 3 = 3 ∧ v_1.length = v_1.length ∧ ∀ i_, i_ < v_1.length → (fFeat v_1) i_ = (fFeat v_1) i_ ∨ (AV.idsL ((fFeat v_1) i_) = [] ∧ leL (fun _ => none) false ((fFeat v_1) i_) ((fFeat v_1) i_))) ∧ True] ⟨⟨(con_bool h2 (ValidFeats_ok v_1)), ⟨(fun h => by cases h), rfl, rfl, fun i _ => .inl rfl⟩, trivial⟩, trivial⟩ ?_
     refine xe_then ?_
     refine x_true rfl ?_
     refine xR [] [2, 3] [] [nilA, Bv false] [] [] trivial ?_
     refine x_ret ?_
     refine xe_ret_then ?_
     refine xe_end (([] : List Feat), false) (show (([] : List Feat) = (rdfI s).1) ∧ (false = (rdfI s).2) ∧ (True) from ⟨(by first | (rw [hst]; done) | (rw [hst]; exact hrv) | (rw [hst, hrv]; done) | (rw [hst]; simp_all; done)), (by first | (rw [hst]; done) | (rw [hst]; exact hrv) | (rw [hst, hrv]; done) | (rw [hst]; simp_all; done)), trivial⟩) (trivial) (.tup [nilA, Bv false]) (by kernel_rfl) (.inr ⟨⟨rfl, rfl⟩, ⟨rfl, rfl⟩⟩) (fun _ => rfl) (fun _ => (by simp [tagged, taggedL, tagFeat]))
    subst h1
    have hst := rdf_no (s := s) (fun q => by have q1 := q.1; rw [← hrc] at q1; first | cases q1 | exact h1 q1)
    refine x_r [] [4, 24] [] [slFeat true v_1, Bv true] [] [] trivial ?_
    refine xe_then ?_
    refine x_true rfl ?_
    refine xR [] [2, 3] [] [nilA, Bv false] [] [] trivial ?_
    refine x_ret ?_
    refine xe_ret_then ?_
    refine xe_end (([] : List Feat), false) (show (([] : List Feat) = (rdfI s).1) ∧ (false = (rdfI s).2) ∧ (True) from ⟨(by first | (rw [hst]; done) | (rw [hst]; exact hrv) | (rw [hst, hrv]; done) | (rw [hst]; simp_all; done)), (by first | (rw [hst]; done) | (rw [hst]; exact hrv) | (rw [hst, hrv]; done) | (rw [hst]; simp_all; done)), trivial⟩) (trivial) (.tup [nilA, Bv false]) (by kernel_rfl) (.inr ⟨⟨rfl, rfl⟩, ⟨rfl, rfl⟩⟩) (fun _ => rfl) (fun _ => (by simp [tagged, taggedL, tagFeat]))
  obtain ⟨⟨v, c⟩, ⟨hh0, hh1, _⟩, hc⟩ := hh
  exact ⟨v, c, hh0, hh1, hc⟩


-- spec.l01Dec
theorem l01Dec_ok (n : Int) (hn : -9223372036854775808 ≤ n ∧ n ≤ 9223372036854775807) : Con Tryz.prog 179 [I n] true (Sv (decB n)) := by
  have hdl := digs_len 19 n.natAbs (by omega)
  refine fn_ok (fn := Tryz.f179) (nt := 34) Tryz.func179 rfl rfl rfl rfl (by simp [taggedL, tagged]) fun B hB => ?_
  refine aR [] [0] [] [I n] [] [] hB trivial ?_
  refine aR [(0, .new 6)] [0, 3] [6] [I n, .arr 6] [some (.arr 1 0 (litF [] 1))] [] hB trivial ?_
  refine aw_seq ?_
  refine aR [] [0, 3, 4] [6] [I n, .arr 6, I n] [some (.arr 1 0 (litF [] 1))] [] hB trivial ?_
  refine aw_block ?_
  refine aw_weak hB [] (T := [(0, I n), (3, .arr 6), (4, I n)]) (O := [(6, tAU8 ([] : List Int))]) rfl (⟨.inl rfl, .inl rfl, .inl rfl, trivial⟩) (⟨.inr ⟨rfl, (by first | rfl | (simp; done) | (simp; omega) | omega), fun i_ hi_ => absurd hi_ (Nat.not_lt_zero _)⟩, trivial⟩) ?_
  refine aw_loop (fun gn gσ => ∃ (out : List Int) (k : Int), gn = k.natAbs ∧ (digs k.natAbs ++ out = digs n.natAbs) ∧ (k.natAbs ≤ n.natAbs) ∧ gσ = mkS [(0, I n), (3, .arr 6), (4, I k)] [(6, tAU8 out)]) (n.natAbs) ⟨([] : List Int), n, rfl, (by simp), (by omega), rfl⟩ (fun gn gσ hI => ?_)
  obtain ⟨out, k, rfl, hd1, hd2, rfl⟩ := hI
  refine aw_seq ?_
  refine aw_seq ?_
  by_cases h1 : k = 0
  ·rw [h1] at hd1
   have hfin : out = digs n.natAbs := by simpa [digs_zero] using hd1
   subst hfin
   refine aw_r [(1, .dec false)] [0, 3, 4, 9] [6] [I n, .arr 6, I k, Bv false] [some (tAU8 (digs n.natAbs))] [¬ (k ≠ 0)] hB ⟨(fun hq => hq h1), trivial⟩ ?_
   refine ae_then ?_
   refine aw_false rfl ?_
   refine aw_exit ?_
   refine ae_exit_then ?_
   refine ae_exit_then ?_
   refine ae_exit_same ?_
   refine ae_then ?_
   refine aw_seq ?_
   refine aw_seq ?_
   by_cases h2 : (((digs n.natAbs).length) : Int) = 0
   ·have hn0 : n = 0 := by have := digs_nil (u := n.natAbs) (by omega); omega
    refine aw_r [(2, .dec true)] [0, 3, 26] [6] [I n, .arr 6, Bv true] [some (tAU8 (digs n.natAbs))] [(((digs n.natAbs).length) : Int) = 0] hB ⟨h2, trivial⟩ ?_
    refine ae_then ?_
    refine aw_true rfl ?_
    refine aR [] [2] [] [Sv (⟨#[48]⟩ : ByteArray)] [] [] hB trivial ?_
    refine aw_ret ?_
    refine ae_ret_then ?_
    refine ae_ret hB (Sv (⟨#[48]⟩ : ByteArray)) (by kernel_rfl) (.inl (by first | (rw [hn0, decB_zero]; done) | (rw [decB_neg (by omega)]; done) | (rw [decB_pos (by omega)]; done))) rfl (fun _ => trivial)
   have hn0 : n ≠ 0 := by rintro rfl; exact h2 (by simp [digs_zero])
   refine aw_r [(2, .dec false)] [0, 3, 26] [6] [I n, .arr 6, Bv false] [some (tAU8 (digs n.natAbs))] [¬ ((((digs n.natAbs).length) : Int) = 0)] hB ⟨h2, trivial⟩ ?_
   refine ae_then ?_
   refine aw_false rfl ?_
   refine aw_skip ?_
   refine ae_then ?_
   refine aw_seq ?_
   refine aw_seq ?_
   by_cases h3 : n < 0
   ·refine aw_r [(1, .dec true)] [3, 28] [6] [.arr 6, Bv true] [some (tAU8 (digs n.natAbs))] [n < 0] hB ⟨h3, trivial⟩ ?_
    refine ae_then ?_
    refine aw_true rfl ?_
    refine aR [(1, .as (Sv (strB (digs n.natAbs))))] [2] [] [Sv ((⟨#[45]⟩ : ByteArray) ++ (strB (digs n.natAbs)))] [] [(strB (digs n.natAbs)).size = (digs n.natAbs).length ∧ ∀ i_, i_ < (digs n.natAbs).length → (fU8 (digs n.natAbs)) i_ = byteF (strB (digs n.natAbs)) i_, (⟨#[45]⟩ : ByteArray).size + (strB (digs n.natAbs)).size ≤ 9223372036854775807] hB ⟨(strB_ok (digs_bd _)), (by have hq := strB_size (digs n.natAbs); have hq2 : (⟨#[45]⟩ : ByteArray).size = 1 := rfl; omega), trivial⟩ ?_
    refine aw_ret ?_
    refine ae_ret_then ?_
    refine ae_ret hB (Sv ((⟨#[45]⟩ : ByteArray) ++ (strB (digs n.natAbs)))) (by kernel_rfl) (.inl (by first | (rw [hn0, decB_zero]; done) | (rw [decB_neg (by omega)]; done) | (rw [decB_pos (by omega)]; done))) rfl (fun _ => trivial)
   refine aw_r [(1, .dec false)] [3, 28] [6] [.arr 6, Bv false] [some (tAU8 (digs n.natAbs))] [¬ (n < 0)] hB ⟨h3, trivial⟩ ?_
   refine ae_then ?_
   refine aw_false rfl ?_
   refine aw_skip ?_
   refine ae_then ?_
   refine aR [(1, .as (Sv (strB (digs n.natAbs))))] [2] [] [Sv (strB (digs n.natAbs))] [] [(strB (digs n.natAbs)).size = (digs n.natAbs).length ∧ ∀ i_, i_ < (digs n.natAbs).length → (fU8 (digs n.natAbs)) i_ = byteF (strB (digs n.natAbs)) i_] hB ⟨(strB_ok (digs_bd _)), trivial⟩ ?_
   refine aw_ret ?_
   refine ae_ret hB (Sv (strB (digs n.natAbs))) (by kernel_rfl) (.inl (by first | (rw [hn0, decB_zero]; done) | (rw [decB_neg (by omega)]; done) | (rw [decB_pos (by omega)]; done))) rfl (fun _ => trivial)
  have hta := tdiv_abs k
  have htb := tmod_abs k
  have hll := congrArg List.length hd1
  simp only [List.length_append] at hll
  have hst : digs (Int.tdiv k 10).natAbs ++ ([48 + ((k.natAbs % 10 : Nat) : Int)] ++ out) = digs n.natAbs := by rw [← hd1, digs_pos (u := k.natAbs) (by omega), tdiv_abs, List.append_assoc]
  refine aw_r [(1, .dec true)] [0, 3, 4, 9] [6] [I n, .arr 6, I k, Bv true] [some (tAU8 out)] [k ≠ 0] hB ⟨h1, trivial⟩ ?_
  refine ae_then ?_
  refine aw_true rfl ?_
  refine aw_skip ?_
  refine ae_then ?_
  refine aw_seq ?_
  refine aw_block ?_
  refine aR [] [0, 3, 4, 5] [6] [I n, .arr 6, I k, I (Int.tmod k 10)] [some (tAU8 out)] [(10 : Int) ≠ 0] hB ⟨(by omega), trivial⟩ ?_
  refine aw_seq ?_
  refine aw_seq ?_
  by_cases h4 : (Int.tmod k 10) < 0
  ·refine aw_r [(1, .dec true)] [0, 3, 4, 5, 15] [6] [I n, .arr 6, I k, I (Int.tmod k 10), Bv true] [some (tAU8 out)] [(Int.tmod k 10) < 0] hB ⟨h4, trivial⟩ ?_
   refine ae_then ?_
   refine aw_true rfl ?_
   refine aw_r [] [0, 3, 4, 5] [6] [I n, .arr 6, I k, I (-(Int.tmod k 10))] [some (tAU8 out)] [inR .i64 (-(Int.tmod k 10))] hB ⟨(inR_i64 (by omega) (by omega)), trivial⟩ ?_
   refine ae_then ?_
   refine aw_r [(3, .new 21), (5, .new 23)] [0, 3, 4] [23] [I n, .arr 23, I k] [some (.arr 1 (1 + out.length) (catF 1 (litF [.val (.int .u8 (48 + (-(Int.tmod k 10))))] 1) (fU8 out)))] [inR .i64 (48 + (-(Int.tmod k 10))), inR .u8 (48 + (-(Int.tmod k 10))), (1 + out.length) * 1 ≤ 140737488355328] hB ⟨(inR_i64 (by omega) (by omega)), (inR_u8 (by omega) (by omega)), (by omega), trivial⟩ ?_
   refine ae_block 1 ?_
   refine ae_then ?_
   refine aw_r [] [0, 3, 4] [23] [I n, .arr 23, I (Int.tdiv k 10)] [some (.arr 1 (1 + out.length) (catF 1 (litF [.val (.int .u8 (48 + (-(Int.tmod k 10))))] 1) (fU8 out)))] [(10 : Int) ≠ 0 ∧ inR .i64 (Int.tdiv k 10)] hB ⟨⟨by omega, (inR_i64 (by omega) (by omega))⟩, trivial⟩ ?_
   refine ae_weak hB [(6, 23)] (T := [(0, I n), (3, .arr 6), (4, I (Int.tdiv k 10))]) (O := [(6, tAU8 ([(48 + (-(Int.tmod k 10)))] ++ out))]) rfl (⟨.inl rfl, .inl rfl, .inl rfl, trivial⟩) (⟨.inr ⟨rfl, (by first | rfl | (simp; done) | (simp; omega) | omega), fun i_ hi_ => .inl (cat_one (enc := cU8) rfl i_ hi_)⟩, trivial⟩) (ae_again _ (by omega) ⟨([(48 + (-(Int.tmod k 10)))] ++ out), (Int.tdiv k 10), rfl, (by first | (rw [show 48 + Int.tmod k 10 = 48 + ((k.natAbs % 10 : Nat) : Int) from by omega]; exact hst) | (rw [show 48 + -(Int.tmod k 10) = 48 + ((k.natAbs % 10 : Nat) : Int) from by omega]; exact hst)), (by omega), rfl⟩)
  refine aw_r [(1, .dec false)] [0, 3, 4, 5, 15] [6] [I n, .arr 6, I k, I (Int.tmod k 10), Bv false] [some (tAU8 out)] [¬ ((Int.tmod k 10) < 0)] hB ⟨h4, trivial⟩ ?_
  refine ae_then ?_
  refine aw_false rfl ?_
  refine aw_skip ?_
  refine ae_then ?_
  refine aw_r [(3, .new 21), (5, .new 23)] [0, 3, 4] [23] [I n, .arr 23, I k] [some (.arr 1 (1 + out.length) (catF 1 (litF [.val (.int .u8 (48 + (Int.tmod k 10)))] 1) (fU8 out)))] [inR .i64 (48 + (Int.tmod k 10)), inR .u8 (48 + (Int.tmod k 10)), (1 + out.length) * 1 ≤ 140737488355328] hB ⟨(inR_i64 (by omega) (by omega)), (inR_u8 (by omega) (by omega)), (by omega), trivial⟩ ?_
  refine ae_block 1 ?_
  refine ae_then ?_
  refine aw_r [] [0, 3, 4] [23] [I n, .arr 23, I (Int.tdiv k 10)] [some (.arr 1 (1 + out.length) (catF 1 (litF [.val (.int .u8 (48 + (Int.tmod k 10)))] 1) (fU8 out)))] [(10 : Int) ≠ 0 ∧ inR .i64 (Int.tdiv k 10)] hB ⟨⟨by omega, (inR_i64 (by omega) (by omega))⟩, trivial⟩ ?_
  refine ae_weak hB [(6, 23)] (T := [(0, I n), (3, .arr 6), (4, I (Int.tdiv k 10))]) (O := [(6, tAU8 ([(48 + (Int.tmod k 10))] ++ out))]) rfl (⟨.inl rfl, .inl rfl, .inl rfl, trivial⟩) (⟨.inr ⟨rfl, (by first | rfl | (simp; done) | (simp; omega) | omega), fun i_ hi_ => .inl (cat_one (enc := cU8) rfl i_ hi_)⟩, trivial⟩) (ae_again _ (by omega) ⟨([(48 + (Int.tmod k 10))] ++ out), (Int.tdiv k 10), rfl, (by first | (rw [show 48 + Int.tmod k 10 = 48 + ((k.natAbs % 10 : Nat) : Int) from by omega]; exact hst) | (rw [show 48 + -(Int.tmod k 10) = 48 + ((k.natAbs % 10 : Nat) : Int) from by omega]; exact hst)), (by omega), rfl⟩)


-- spec.l08Text
theorem l08Text_ok (list : List Feat) (hb : ∀ f ∈ list, okF f = true) (hl : list.length ≤ 400) : Con Tryz.prog 104 [slFeat false list] true (Sv (jnB ⟨#[32]⟩ (list.map ftTx))) := by
  refine fn_ok (fn := Tryz.f104) (nt := 40) Tryz.func104 rfl rfl rfl rfl (by simp [taggedL, tagged, tagFeat]) fun B hB => ?_
  refine aw_lens (x := slFeat false list) 0 rfl (fun len_list => ?_)
  simp [LenOK, LenL, cFeat, fFeat, slFeat] at len_list
  refine aR [] [0] [] [slFeat false list] [] [] hB trivial ?_
  refine aR [] [0, 3] [] [slFeat false list, Sv (⟨#[]⟩ : ByteArray)] [] [] hB trivial ?_
  refine aw_seq ?_
  refine aR [] [0, 3, 4] [] [slFeat false list, Sv (⟨#[]⟩ : ByteArray), I 0] [] [] hB trivial ?_
  refine aw_block ?_
  refine aw_loop (fun gn gσ => ∃ (out : ByteArray) (i : Int), gn = ((list.length : Int) - i).toNat ∧ (0 ≤ i ∧ i ≤ (list.length : Int)) ∧ (out = jnB ⟨#[32]⟩ ((list.take i.toNat).map ftTx)) ∧ gσ = mkS [(0, slFeat false list), (3, Sv out), (4, I i)] []) (((list.length : Int) - 0).toNat) ⟨(⟨#[]⟩ : ByteArray), 0, rfl, (by omega), (by rfl), rfl⟩ (fun gn gσ hI => ?_)
  obtain ⟨out, i, rfl, hi0, hot, rfl⟩ := hI
  refine aw_seq ?_
  refine aw_seq ?_
  by_cases h1 : i < (list.length : Int)
  ·have hi : i.toNat < list.length := by omega
   have hof := okF_iff.1 (hb _ (at_mem hi))
   have hsz := fts_len hb hl i.toNat
   rw [← hot] at hsz
   have hsx := decB_size (n := (at_ list i.toNat).X) (by omega)
   have hsy := decB_size (n := (at_ list i.toNat).Y) (by omega)
   have hsd := decB_size (n := (at_ list i.toNat).D) (by omega)
   have hc1 : (⟨#[44]⟩ : ByteArray).size = 1 := rfl
   have hc2 : (⟨#[32]⟩ : ByteArray).size = 1 := rfl
   have hi1 : (i + 1).toNat = i.toNat + 1 := by omega
   refine aw_r [(3, .dec true)] [0, 3, 4, 8] [] [slFeat false list, Sv out, I i, Bv true] [] [i < (list.length : Int)] hB ⟨h1, trivial⟩ ?_
   refine ae_then ?_
   refine aw_true rfl ?_
   refine aw_skip ?_
   refine ae_then ?_
   refine aw_seq ?_
   refine aw_block ?_
   refine aw_seq ?_
   refine aw_seq ?_
   by_cases h2 : 0 < i
   ·have hst := fts_step hi (by omega)
    refine aw_r [(1, .dec true)] [0, 3, 4, 12] [] [slFeat false list, Sv out, I i, Bv true] [] [0 < i] hB ⟨h2, trivial⟩ ?_
    refine ae_then ?_
    refine aw_true rfl ?_
    refine aw_r [] [0, 3, 4] [] [slFeat false list, Sv (out ++ (⟨#[32]⟩ : ByteArray)), I i] [] [out.size + (⟨#[32]⟩ : ByteArray).size ≤ 9223372036854775807] hB ⟨(by (try simp only [ByteArray.size_append]); omega), trivial⟩ ?_
    refine ae_then ?_
    refine aw_r [(6, .call [(true, .any)] true (Sv (decB ((at_ list i.toNat).X)))), (13, .call [(true, .any)] true (Sv (decB ((at_ list i.toNat).Y)))), (21, .call [(true, .any)] true (Sv (decB ((at_ list i.toNat).D))))] [0, 3, 4] [] [slFeat false list, Sv ((out ++ (⟨#[32]⟩ : ByteArray)) ++ (((((decB ((at_ list i.toNat).X)) ++ (⟨#[44]⟩ : ByteArray)) ++ (decB ((at_ list i.toNat).Y))) ++ (⟨#[44]⟩ : ByteArray)) ++ (decB ((at_ list i.toNat).D)))), I i] [] [(0 : Int) ≤ i ∧ i < (list.length : Int), Con Tryz.prog 179 [I ((at_ list i.toNat).X)] true (Sv (decB ((at_ list i.toNat).X))) ∧ True, (decB ((at_ list i.toNat).X)).size + (⟨#[44]⟩ : ByteArray).size ≤ 9223372036854775807, (0 : Int) ≤ i ∧ i < (list.length : Int), Con Tryz.prog 179 [I ((at_ list i.toNat).Y)] true (Sv (decB ((at_ list i.toNat).Y))) ∧ True, ((decB ((at_ list i.toNat).X)) ++ (⟨#[44]⟩ : ByteArray)).size + (decB ((at_ list i.toNat).Y)).size ≤ 9223372036854775807, (((decB ((at_ list i.toNat).X)) ++ (⟨#[44]⟩ : ByteArray)) ++ (decB ((at_ list i.toNat).Y))).size + (⟨#[44]⟩ : ByteArray).size ≤ 9223372036854775807, (0 : Int) ≤ i ∧ i < (list.length : Int), Con Tryz.prog 179 [I ((at_ list i.toNat).D)] true (Sv (decB ((at_ list i.toNat).D))) ∧ True, ((((decB ((at_ list i.toNat).X)) ++ (⟨#[44]⟩ : ByteArray)) ++ (decB ((at_ list i.toNat).Y))) ++ (⟨#[44]⟩ : ByteArray)).size + (decB ((at_ list i.toNat).D)).size ≤ 9223372036854775807, (out ++ (⟨#[32]⟩ : ByteArray)).size + (((((decB ((at_ list i.toNat).X)) ++ (⟨#[44]⟩ : ByteArray)) ++ (decB ((at_ list i.toNat).Y))) ++ (⟨#[44]⟩ : ByteArray)) ++ (decB ((at_ list i.toNat).D))).size ≤ 9223372036854775807] hB ⟨⟨(by omega), (by omega)⟩, ⟨(l01Dec_ok ((at_ list i.toNat).X) (by omega)), trivial⟩, (by (try simp only [ByteArray.size_append]); omega), ⟨(by omega), (by omega)⟩, ⟨(l01Dec_ok ((at_ list i.toNat).Y) (by omega)), trivial⟩, (by (try simp only [ByteArray.size_append]); omega), (by (try simp only [ByteArray.size_append]); omega), ⟨(by omega), (by omega)⟩, ⟨(l01Dec_ok ((at_ list i.toNat).D) (by omega)), trivial⟩, (by (try simp only [ByteArray.size_append]); omega), (by (try simp only [ByteArray.size_append]); omega), trivial⟩ ?_
    refine ae_block 1 ?_
    refine ae_then ?_
    refine aw_r [] [0, 3, 4] [] [slFeat false list, Sv ((out ++ (⟨#[32]⟩ : ByteArray)) ++ (((((decB ((at_ list i.toNat).X)) ++ (⟨#[44]⟩ : ByteArray)) ++ (decB ((at_ list i.toNat).Y))) ++ (⟨#[44]⟩ : ByteArray)) ++ (decB ((at_ list i.toNat).D)))), I (i + 1)] [] [inR .i64 (i + 1)] hB ⟨(inR_i64 (by omega) (by omega)), trivial⟩ ?_
    exact ae_again _ (by omega) ⟨((out ++ (⟨#[32]⟩ : ByteArray)) ++ (((((decB ((at_ list i.toNat).X)) ++ (⟨#[44]⟩ : ByteArray)) ++ (decB ((at_ list i.toNat).Y))) ++ (⟨#[44]⟩ : ByteArray)) ++ (decB ((at_ list i.toNat).D)))), (i + 1), rfl, (by omega), (by rw [hi1]; first | (rw [hst, ← hot, ftTx, com3]; done) | (rw [hst, ← hot, ftTx, com3]; simp only [ByteArray.append_assoc]; done) | (rw [hi00, hon, hout, hi00, ftTx, com3, nil_ba]; simp only [ByteArray.append_assoc]; done) | (rw [hi00, hon, hout, ftTx, com3]; simp only [nil_ba, ByteArray.append_assoc]; done)), rfl⟩
   have hi00 : i.toNat = 0 := by omega
   have hon := fts_one (l := list) (by omega)
   have hout : out = ⟨#[]⟩ := by rw [hot, hi00]; rfl
   refine aw_r [(1, .dec false)] [0, 3, 4, 12] [] [slFeat false list, Sv out, I i, Bv false] [] [¬ (0 < i)] hB ⟨h2, trivial⟩ ?_
   refine ae_then ?_
   refine aw_false rfl ?_
   refine aw_skip ?_
   refine ae_then ?_
   refine aw_r [(6, .call [(true, .any)] true (Sv (decB ((at_ list i.toNat).X)))), (13, .call [(true, .any)] true (Sv (decB ((at_ list i.toNat).Y)))), (21, .call [(true, .any)] true (Sv (decB ((at_ list i.toNat).D))))] [0, 3, 4] [] [slFeat false list, Sv (out ++ (((((decB ((at_ list i.toNat).X)) ++ (⟨#[44]⟩ : ByteArray)) ++ (decB ((at_ list i.toNat).Y))) ++ (⟨#[44]⟩ : ByteArray)) ++ (decB ((at_ list i.toNat).D)))), I i] [] [(0 : Int) ≤ i ∧ i < (list.length : Int), Con Tryz.prog 179 [I ((at_ list i.toNat).X)] true (Sv (decB ((at_ list i.toNat).X))) ∧ True, (decB ((at_ list i.toNat).X)).size + (⟨#[44]⟩ : ByteArray).size ≤ 9223372036854775807, (0 : Int) ≤ i ∧ i < (list.length : Int), Con Tryz.prog 179 [I ((at_ list i.toNat).Y)] true (Sv (decB ((at_ list i.toNat).Y))) ∧ True, ((decB ((at_ list i.toNat).X)) ++ (⟨#[44]⟩ : ByteArray)).size + (decB ((at_ list i.toNat).Y)).size ≤ 9223372036854775807, (((decB ((at_ list i.toNat).X)) ++ (⟨#[44]⟩ : ByteArray)) ++ (decB ((at_ list i.toNat).Y))).size + (⟨#[44]⟩ : ByteArray).size ≤ 9223372036854775807, (0 : Int) ≤ i ∧ i < (list.length : Int), Con Tryz.prog 179 [I ((at_ list i.toNat).D)] true (Sv (decB ((at_ list i.toNat).D))) ∧ True, ((((decB ((at_ list i.toNat).X)) ++ (⟨#[44]⟩ : ByteArray)) ++ (decB ((at_ list i.toNat).Y))) ++ (⟨#[44]⟩ : ByteArray)).size + (decB ((at_ list i.toNat).D)).size ≤ 9223372036854775807, out.size + (((((decB ((at_ list i.toNat).X)) ++ (⟨#[44]⟩ : ByteArray)) ++ (decB ((at_ list i.toNat).Y))) ++ (⟨#[44]⟩ : ByteArray)) ++ (decB ((at_ list i.toNat).D))).size ≤ 9223372036854775807] hB ⟨⟨(by omega), (by omega)⟩, ⟨(l01Dec_ok ((at_ list i.toNat).X) (by omega)), trivial⟩, (by (try simp only [ByteArray.size_append]); omega), ⟨(by omega), (by omega)⟩, ⟨(l01Dec_ok ((at_ list i.toNat).Y) (by omega)), trivial⟩, (by (try simp only [ByteArray.size_append]); omega), (by (try simp only [ByteArray.size_append]); omega), ⟨(by omega), (by omega)⟩, ⟨(l01Dec_ok ((at_ list i.toNat).D) (by omega)), trivial⟩, (by (try simp only [ByteArray.size_append]); omega), (by (try simp only [ByteArray.size_append]); omega), trivial⟩ ?_
   refine ae_block 1 ?_
   refine ae_then ?_
   refine aw_r [] [0, 3, 4] [] [slFeat false list, Sv (out ++ (((((decB ((at_ list i.toNat).X)) ++ (⟨#[44]⟩ : ByteArray)) ++ (decB ((at_ list i.toNat).Y))) ++ (⟨#[44]⟩ : ByteArray)) ++ (decB ((at_ list i.toNat).D)))), I (i + 1)] [] [inR .i64 (i + 1)] hB ⟨(inR_i64 (by omega) (by omega)), trivial⟩ ?_
   exact ae_again _ (by omega) ⟨(out ++ (((((decB ((at_ list i.toNat).X)) ++ (⟨#[44]⟩ : ByteArray)) ++ (decB ((at_ list i.toNat).Y))) ++ (⟨#[44]⟩ : ByteArray)) ++ (decB ((at_ list i.toNat).D)))), (i + 1), rfl, (by omega), (by rw [hi1]; first | (rw [hst, ← hot, ftTx, com3]; done) | (rw [hst, ← hot, ftTx, com3]; simp only [ByteArray.append_assoc]; done) | (rw [hi00, hon, hout, hi00, ftTx, com3, nil_ba]; simp only [ByteArray.append_assoc]; done) | (rw [hi00, hon, hout, ftTx, com3]; simp only [nil_ba, ByteArray.append_assoc]; done)), rfl⟩
  have hie : i.toNat = list.length := by omega
  rw [hie, List.take_length] at hot
  refine aw_r [(3, .dec false)] [0, 3, 4, 8] [] [slFeat false list, Sv out, I i, Bv false] [] [¬ (i < (list.length : Int))] hB ⟨h1, trivial⟩ ?_
  refine ae_then ?_
  refine aw_false rfl ?_
  refine aw_exit ?_
  refine ae_exit_then ?_
  refine ae_exit_then ?_
  refine ae_exit_same ?_
  refine ae_then ?_
  refine aR [] [2] [] [Sv out] [] [] hB trivial ?_
  refine aw_ret ?_
  refine ae_ret hB (Sv out) (by kernel_rfl) (.inl (by rw [hot])) rfl (fun _ => trivial)


-- spec.l00Src).text
theorem text_ok (s : l00Src) (list : List ByteArray) (hs : okSrc s) (ha : s.atx ≤ 3999999999999999980) (hl : (0 < list.length ∧ list.length ≤ 1000) ∧ ∀ z ∈ list, z.size ≤ 16) : ∃ (v : ByteArray) (s' : l00Src), (v.size ≤ 16) ∧ (okSrc s') ∧ (s'.code = s.code) ∧ (s.atx + 0 ≤ s'.atx ∧ s'.atx ≤ s.atx + 2) ∧ (v ∈ list) ∧ CallOK Tryz.prog 125 [.ref 7001 0, slS false list] (lookO [(7001, bxl00Src s)]) true (Sv v) (lookO [(7001, bxl00Src s')]) := by
  have hh : ∃ r : ByteArray × l00Src, ((r.1.size ≤ 16) ∧ (okSrc r.2) ∧ (r.2.code = s.code) ∧ (s.atx + 0 ≤ r.2.atx ∧ r.2.atx ≤ s.atx + 2) ∧ (r.1 ∈ list) ∧ (True)) ∧ CallOK Tryz.prog 125 [.ref 7001 0, slS false list] (lookO [(7001, bxl00Src s)]) true (Sv r.1) (lookO [(7001, bxl00Src r.2)]) := by
    refine fn_okX (Φ := fun r : ByteArray × l00Src => (r.1.size ≤ 16) ∧ (okSrc r.2) ∧ (r.2.code = s.code) ∧ (s.atx + 0 ≤ r.2.atx ∧ r.2.atx ≤ s.atx + 2) ∧ (r.1 ∈ list) ∧ (True)) [(7001, bxl00Src s)] (fun r => [(7001, bxl00Src r.2)]) (fn := Tryz.f125) (nt := 12) Tryz.func125 rfl rfl (args := [.ref 7001 0, slS false list]) rfl (allcons (.inr trivial) (allcons (.inl ⟨rfl, tagS false _⟩) allnil)) (res := fun r => Sv r.1) ?_
    refine xR [] [0, 1] [7001] [.ref 7001 0, slS false list] [some (bxl00Src s)] [] trivial ?_
    refine x_seq ?_
    obtain ⟨v_1, s'_1, hx1_0, hx1_1, hx1_2, hx1_3, hc1⟩ := pick_ok s (list.length : Int) (by first | assumption | (simp only [okSrc] at *; simp_all; done)) (by omega)
    refine x_r [(4, .lend [(7001, bxl00Src s, bxl00Src s'_1)] [] [(true, .any), (true, .any)] true (I v_1))] [4] [7001] [Sv (at_ list v_1.toNat)] [some (bxl00Src s'_1)] [CallOK Tryz.prog 107 [.ref 7001 0, I (list.length : Int)] (lookO [(7001, bxl00Src s)]) true (I v_1) (lookO [(7001, bxl00Src s'_1)]) ∧ (((bxl00Src s : Ob) = bxl00Src s ∨ obLe noOb true (bxl00Src s) (bxl00Src s)) ∧ taggedO false (bxl00Src s)) ∧ True, (0 : Int) ≤ v_1 ∧ v_1 < (list.length : Int)] ⟨⟨hc1, ⟨.inl rfl, (by simp [taggedO, taggedL, tagged, tagU8])⟩, trivial⟩, ⟨(by omega), (by omega)⟩, trivial⟩ ?_
    refine xe_then ?_
    refine x_ret ?_
    refine xe_end ((at_ list v_1.toNat), s'_1) (show ((at_ list v_1.toNat).size ≤ 16) ∧ (okSrc s'_1) ∧ (s'_1.code = s.code) ∧ (s.atx + 0 ≤ s'_1.atx ∧ s'_1.atx ≤ s.atx + 2) ∧ ((at_ list v_1.toNat) ∈ list) ∧ (True) from ⟨(by first | omega | rfl | assumption | (dsimp only; first | omega | rfl | assumption) | (simp only [*]; done) | (exact at_mem (by omega)) | (exact hl.2 _ (at_mem (by omega))) | (simp_all; done)), (by first | omega | rfl | assumption | (dsimp only; first | omega | rfl | assumption) | (simp only [*]; done) | (exact at_mem (by omega)) | (exact hl.2 _ (at_mem (by omega))) | (simp_all; done)), (by first | omega | rfl | assumption | (dsimp only; first | omega | rfl | assumption) | (simp only [*]; done) | (exact at_mem (by omega)) | (exact hl.2 _ (at_mem (by omega))) | (simp_all; done)), (by first | omega | rfl | assumption | (dsimp only; first | omega | rfl | assumption) | (simp only [*]; done) | (exact at_mem (by omega)) | (exact hl.2 _ (at_mem (by omega))) | (simp_all; done)), (by first | omega | rfl | assumption | (dsimp only; first | omega | rfl | assumption) | (simp only [*]; done) | (exact at_mem (by omega)) | (exact hl.2 _ (at_mem (by omega))) | (simp_all; done)), trivial⟩) (⟨.inl rfl, trivial⟩) (Sv (at_ list v_1.toNat)) (by kernel_rfl) (.inl rfl) (fun _ => rfl) (fun _ => trivial)
  obtain ⟨⟨v, s'⟩, ⟨hh0, hh1, hh2, hh3, hh4, _⟩, hc⟩ := hh
  exact ⟨v, s', hh0, hh1, hh2, hh3, hh4, hc⟩


-- spec.l01Spoil
theorem l01Spoil_ok (s : l00Src) (t : ByteArray) (hs : okSrc s) (ha : s.atx ≤ 3999999999999999000) (ht : t.size ≤ 100000) : ∃ (v : ByteArray) (s' : l00Src), (okSrc s') ∧ (s'.code = s.code) ∧ (s.atx + 0 ≤ s'.atx ∧ s'.atx ≤ s.atx + 200) ∧ (v.size ≤ t.size + 64) ∧ CallOK Tryz.prog 106 [.ref 7001 0, Sv t] (lookO [(7001, bxl00Src s)]) true (Sv v) (lookO [(7001, bxl00Src s')]) := by
  have hh : ∃ r : ByteArray × l00Src, ((okSrc r.2) ∧ (r.2.code = s.code) ∧ (s.atx + 0 ≤ r.2.atx ∧ r.2.atx ≤ s.atx + 200) ∧ (r.1.size ≤ t.size + 64) ∧ (True)) ∧ CallOK Tryz.prog 106 [.ref 7001 0, Sv t] (lookO [(7001, bxl00Src s)]) true (Sv r.1) (lookO [(7001, bxl00Src r.2)]) := by
    refine fn_okX (Φ := fun r : ByteArray × l00Src => (okSrc r.2) ∧ (r.2.code = s.code) ∧ (s.atx + 0 ≤ r.2.atx ∧ r.2.atx ≤ s.atx + 200) ∧ (r.1.size ≤ t.size + 64) ∧ (True)) [(7001, bxl00Src s)] (fun r => [(7001, bxl00Src r.2)]) (fn := Tryz.f106) (nt := 44) Tryz.func106 rfl rfl (args := [.ref 7001 0, Sv t]) rfl (allcons (.inr trivial) (allcons (.inl ⟨rfl, trivial⟩) allnil)) (res := fun r => Sv r.1) ?_
    refine xR [] [0, 1] [7001] [.ref 7001 0, Sv t] [some (bxl00Src s)] [] trivial ?_
    refine x_seq ?_
    refine x_seq ?_
    obtain ⟨v_1, s'_1, hx1_0, hx1_1, hx1_2, hx1_3, hc1⟩ := pick_ok s 5 (by first | assumption | (simp only [okSrc] at *; simp_all; done)) (by omega)
    refine x_r [(1, .lend [(7001, bxl00Src s, bxl00Src s'_1)] [] [(true, .any), (true, .any)] true (I v_1))] [0, 1, 8] [7001] [.ref 7001 0, Sv t, I v_1] [some (bxl00Src s'_1)] [CallOK Tryz.prog 107 [.ref 7001 0, I 5] (lookO [(7001, bxl00Src s)]) true (I v_1) (lookO [(7001, bxl00Src s'_1)]) ∧ (((bxl00Src s : Ob) = bxl00Src s ∨ obLe noOb true (bxl00Src s) (bxl00Src s)) ∧ taggedO false (bxl00Src s)) ∧ True] ⟨⟨hc1, ⟨.inl rfl, (by simp [taggedO, taggedL, tagged, tagU8])⟩, trivial⟩, trivial⟩ ?_
    refine xe_then ?_
    refine x_block ?_
    refine x_seq ?_
    by_cases h1 : v_1 = 0
    ·refine x_r [(0, .dec true)] [0, 1, 8, 9] [7001] [.ref 7001 0, Sv t, I v_1, Bv true] [some (bxl00Src s'_1)] [v_1 = 0] ⟨h1, trivial⟩ ?_
     refine xe_then ?_
     refine x_true rfl ?_
     refine x_seq ?_
     obtain ⟨v_2, s'_2, hx2_0, hx2_1, hx2_2, hx2_3, hc2⟩ := pick_ok s'_1 ((t.size : Int) + 1) (by first | assumption | (simp only [okSrc] at *; simp_all; done)) (by omega)
     refine x_r [(4, .lend [(7001, bxl00Src s'_1, bxl00Src s'_2)] [] [(true, .any), (true, .any)] true (I v_2))] [0, 1, 5] [7001] [.ref 7001 0, Sv t, I v_2] [some (bxl00Src s'_2)] [inR .i64 ((t.size : Int) + 1), CallOK Tryz.prog 107 [.ref 7001 0, I ((t.size : Int) + 1)] (lookO [(7001, bxl00Src s'_1)]) true (I v_2) (lookO [(7001, bxl00Src s'_2)]) ∧ (((bxl00Src s'_1 : Ob) = bxl00Src s'_1 ∨ obLe noOb true (bxl00Src s'_1) (bxl00Src s'_1)) ∧ taggedO false (bxl00Src s'_1)) ∧ True] ⟨(inR_i64 (by omega) (by omega)), ⟨hc2, ⟨.inl rfl, (by simp [taggedO, taggedL, tagged, tagU8])⟩, trivial⟩, trivial⟩ ?_
     refine xe_then ?_
     obtain ⟨v_3, s'_3, hx3_0, hx3_1, hx3_2, hx3_3, hx3_4, hc3⟩ := text_ok s'_2 ([(⟨#[32]⟩ : ByteArray), (⟨#[48]⟩ : ByteArray), (⟨#[45]⟩ : ByteArray), (⟨#[120]⟩ : ByteArray), (⟨#[49]⟩ : ByteArray), (⟨#[57]⟩ : ByteArray), (⟨#[46]⟩ : ByteArray)]) (by first | assumption | (simp only [okSrc] at *; simp_all; done)) (by omega) (by decide)
     refine x_r [(4, .new 20), (5, .lend [(7001, bxl00Src s'_2, bxl00Src s'_3)] [] [(true, .any), (false, slS false ([(⟨#[32]⟩ : ByteArray), (⟨#[48]⟩ : ByteArray), (⟨#[45]⟩ : ByteArray), (⟨#[120]⟩ : ByteArray), (⟨#[49]⟩ : ByteArray), (⟨#[57]⟩ : ByteArray), (⟨#[46]⟩ : ByteArray)]))] true (Sv v_3))] [1] [7001] [Sv (((t.extract 0 v_2.toNat) ++ v_3) ++ (t.extract v_2.toNat (t.size : Int).toNat))] [some (bxl00Src s'_3)] [(0 : Int) ≤ 0 ∧ (0 : Int) ≤ v_2 ∧ v_2 ≤ (t.size : Int), CallOK Tryz.prog 125 [.ref 7001 0, slS false ([(⟨#[32]⟩ : ByteArray), (⟨#[48]⟩ : ByteArray), (⟨#[45]⟩ : ByteArray), (⟨#[120]⟩ : ByteArray), (⟨#[49]⟩ : ByteArray), (⟨#[57]⟩ : ByteArray), (⟨#[46]⟩ : ByteArray)])] (lookO [(7001, bxl00Src s'_2)]) true (Sv v_3) (lookO [(7001, bxl00Src s'_3)]) ∧ ((false = true → true = true) ∧ 1 = 1 ∧ 7 = (([(⟨#[32]⟩ : ByteArray), (⟨#[48]⟩ : ByteArray), (⟨#[45]⟩ : ByteArray), (⟨#[120]⟩ : ByteArray), (⟨#[49]⟩ : ByteArray), (⟨#[57]⟩ : ByteArray), (⟨#[46]⟩ : ByteArray)]).length) ∧ ∀ i_, i_ < (([(⟨#[32]⟩ : ByteArray), (⟨#[48]⟩ : ByteArray), (⟨#[45]⟩ : ByteArray), (⟨#[120]⟩ : ByteArray), (⟨#[49]⟩ : ByteArray), (⟨#[57]⟩ : ByteArray), (⟨#[46]⟩ : ByteArray)]).length) → (litF [Sv (⟨#[32]⟩ : ByteArray), Sv (⟨#[48]⟩ : ByteArray), Sv (⟨#[45]⟩ : ByteArray), Sv (⟨#[120]⟩ : ByteArray), Sv (⟨#[49]⟩ : ByteArray), Sv (⟨#[57]⟩ : ByteArray), Sv (⟨#[46]⟩ : ByteArray)] 1) i_ = (fS ([(⟨#[32]⟩ : ByteArray), (⟨#[48]⟩ : ByteArray), (⟨#[45]⟩ : ByteArray), (⟨#[120]⟩ : ByteArray), (⟨#[49]⟩ : ByteArray), (⟨#[57]⟩ : ByteArray), (⟨#[46]⟩ : ByteArray)])) i_ ∨ (AV.idsL ((fS ([(⟨#[32]⟩ : ByteArray), (⟨#[48]⟩ : ByteArray), (⟨#[45]⟩ : ByteArray), (⟨#[120]⟩ : ByteArray), (⟨#[49]⟩ : ByteArray), (⟨#[57]⟩ : ByteArray), (⟨#[46]⟩ : ByteArray)])) i_) = [] ∧ leL (fun _ => none) false ((litF [Sv (⟨#[32]⟩ : ByteArray), Sv (⟨#[48]⟩ : ByteArray), Sv (⟨#[45]⟩ : ByteArray), Sv (⟨#[120]⟩ : ByteArray), Sv (⟨#[49]⟩ : ByteArray), Sv (⟨#[57]⟩ : ByteArray), Sv (⟨#[46]⟩ : ByteArray)] 1) i_) ((fS ([(⟨#[32]⟩ : ByteArray), (⟨#[48]⟩ : ByteArray), (⟨#[45]⟩ : ByteArray), (⟨#[120]⟩ : ByteArray), (⟨#[49]⟩ : ByteArray), (⟨#[57]⟩ : ByteArray), (⟨#[46]⟩ : ByteArray)])) i_))) ∧ (((bxl00Src s'_2 : Ob) = bxl00Src s'_2 ∨ obLe noOb true (bxl00Src s'_2) (bxl00Src s'_2)) ∧ taggedO false (bxl00Src s'_2)) ∧ True, (t.extract 0 v_2.toNat).size + v_3.size ≤ 9223372036854775807, (0 : Int) ≤ v_2 ∧ v_2 ≤ (t.size : Int) ∧ (t.size : Int) ≤ (t.size : Int), ((t.extract 0 v_2.toNat) ++ v_3).size + (t.extract v_2.toNat (t.size : Int).toNat).size ≤ 9223372036854775807] ⟨⟨(by omega), (by omega), (by omega)⟩, ⟨hc3, ⟨(fun h => by cases h), rfl, (by first | rfl | (simp; done) | (simp; omega) | omega), fun i_ hi_ => .inl (match i_, hi_ with | 0, _ => rfl | 1, _ => rfl | 2, _ => rfl | 3, _ => rfl | 4, _ => rfl | 5, _ => rfl | 6, _ => rfl | (i + 7), h => absurd h (by simp))⟩, ⟨.inl rfl, (by simp [taggedO, taggedL, tagged, tagU8])⟩, trivial⟩, (by (try simp only [ByteArray.size_append, ByteArray.size_extract]); omega), ⟨(by omega), (by omega), (by omega)⟩, (by (try simp only [ByteArray.size_append, ByteArray.size_extract]); omega), trivial⟩ ?_
     refine xe_block 0 ?_
     refine xe_then ?_
     refine xR [] [4] [7001] [Sv (((t.extract 0 v_2.toNat) ++ v_3) ++ (t.extract v_2.toNat (t.size : Int).toNat))] [some (bxl00Src s'_3)] [] trivial ?_
     refine x_ret ?_
     refine xe_end ((((t.extract 0 v_2.toNat) ++ v_3) ++ (t.extract v_2.toNat (t.size : Int).toNat)), s'_3) (show (okSrc s'_3) ∧ (s'_3.code = s.code) ∧ (s.atx + 0 ≤ s'_3.atx ∧ s'_3.atx ≤ s.atx + 200) ∧ ((((t.extract 0 v_2.toNat) ++ v_3) ++ (t.extract v_2.toNat (t.size : Int).toNat)).size ≤ t.size + 64) ∧ (True) from ⟨(by first | omega | assumption | rfl | (simp only [ByteArray.size_append, ByteArray.size_extract]; omega) | (simp; done) | (simp; omega) | (simp_all; done)), (by first | omega | assumption | rfl | (simp only [ByteArray.size_append, ByteArray.size_extract]; omega) | (simp; done) | (simp; omega) | (simp_all; done)), (by first | omega | assumption | rfl | (simp only [ByteArray.size_append, ByteArray.size_extract]; omega) | (simp; done) | (simp; omega) | (simp_all; done)), (by first | omega | assumption | rfl | (simp only [ByteArray.size_append, ByteArray.size_extract]; omega) | (simp; done) | (simp; omega) | (simp_all; done)), trivial⟩) (⟨.inl rfl, trivial⟩) (Sv (((t.extract 0 v_2.toNat) ++ v_3) ++ (t.extract v_2.toNat (t.size : Int).toNat))) (by kernel_rfl) (.inl rfl) (fun _ => rfl) (fun _ => trivial)
    refine x_r [(0, .dec false)] [0, 1, 8, 9] [7001] [.ref 7001 0, Sv t, I v_1, Bv false] [some (bxl00Src s'_1)] [¬ (v_1 = 0)] ⟨h1, trivial⟩ ?_
    refine xe_then ?_
    refine x_false rfl ?_
    refine x_seq ?_
    by_cases h2 : v_1 = 1
    ·refine x_r [(0, .dec true)] [0, 1, 27] [7001] [.ref 7001 0, Sv t, Bv true] [some (bxl00Src s'_1)] [v_1 = 1] ⟨h2, trivial⟩ ?_
     refine xe_then ?_
     refine x_true rfl ?_
     refine x_seq ?_
     by_cases h3 : t = (⟨#[]⟩ : ByteArray)
     ·refine x_r [(1, .dec false)] [0, 1, 30] [7001] [.ref 7001 0, Sv t, Bv false] [some (bxl00Src s'_1)] [¬ (t ≠ (⟨#[]⟩ : ByteArray))] ⟨(fun hq => hq h3), trivial⟩ ?_
      refine xe_then ?_
      refine x_false rfl ?_
      refine x_skip ?_
      refine xe_block 0 ?_
      refine xe_then ?_
      refine xR [] [4] [7001] [Sv t] [some (bxl00Src s'_1)] [] trivial ?_
      refine x_ret ?_
      refine xe_end (t, s'_1) (show (okSrc s'_1) ∧ (s'_1.code = s.code) ∧ (s.atx + 0 ≤ s'_1.atx ∧ s'_1.atx ≤ s.atx + 200) ∧ (t.size ≤ t.size + 64) ∧ (True) from ⟨(by first | omega | assumption | rfl | (simp only [ByteArray.size_append, ByteArray.size_extract]; omega) | (simp; done) | (simp; omega) | (simp_all; done)), (by first | omega | assumption | rfl | (simp only [ByteArray.size_append, ByteArray.size_extract]; omega) | (simp; done) | (simp; omega) | (simp_all; done)), (by first | omega | assumption | rfl | (simp only [ByteArray.size_append, ByteArray.size_extract]; omega) | (simp; done) | (simp; omega) | (simp_all; done)), (by first | omega | assumption | rfl | (simp only [ByteArray.size_append, ByteArray.size_extract]; omega) | (simp; done) | (simp; omega) | (simp_all; done)), trivial⟩) (⟨.inl rfl, trivial⟩) (Sv t) (by kernel_rfl) (.inl rfl) (fun _ => rfl) (fun _ => trivial)
     have hs0 : 0 < t.size := Nat.pos_of_ne_zero (fun q => h3 (ByteArray.ext (Array.eq_empty_of_size_eq_zero q)))
     refine x_r [(1, .dec true)] [0, 1, 30] [7001] [.ref 7001 0, Sv t, Bv true] [some (bxl00Src s'_1)] [t ≠ (⟨#[]⟩ : ByteArray)] ⟨h3, trivial⟩ ?_
     refine xe_then ?_
     refine x_true rfl ?_
     refine x_seq ?_
     obtain ⟨v_4, s'_4, hx4_0, hx4_1, hx4_2, hx4_3, hc4⟩ := pick_ok s'_1 (t.size : Int) (by first | assumption | (simp only [okSrc] at *; simp_all; done)) (by omega)
     refine x_r [(3, .lend [(7001, bxl00Src s'_1, bxl00Src s'_4)] [] [(true, .any), (true, .any)] true (I v_4))] [1, 6] [7001] [Sv t, I v_4] [some (bxl00Src s'_4)] [CallOK Tryz.prog 107 [.ref 7001 0, I (t.size : Int)] (lookO [(7001, bxl00Src s'_1)]) true (I v_4) (lookO [(7001, bxl00Src s'_4)]) ∧ (((bxl00Src s'_1 : Ob) = bxl00Src s'_1 ∨ obLe noOb true (bxl00Src s'_1) (bxl00Src s'_1)) ∧ taggedO false (bxl00Src s'_1)) ∧ True] ⟨⟨hc4, ⟨.inl rfl, (by simp [taggedO, taggedL, tagged, tagU8])⟩, trivial⟩, trivial⟩ ?_
     refine xe_then ?_
     refine x_r [] [1] [7001] [Sv ((t.extract 0 v_4.toNat) ++ (t.extract (v_4 + 1).toNat (t.size : Int).toNat))] [some (bxl00Src s'_4)] [(0 : Int) ≤ 0 ∧ (0 : Int) ≤ v_4 ∧ v_4 ≤ (t.size : Int), inR .i64 (v_4 + 1), (0 : Int) ≤ (v_4 + 1) ∧ (v_4 + 1) ≤ (t.size : Int) ∧ (t.size : Int) ≤ (t.size : Int), (t.extract 0 v_4.toNat).size + (t.extract (v_4 + 1).toNat (t.size : Int).toNat).size ≤ 9223372036854775807] ⟨⟨(by omega), (by omega), (by omega)⟩, (inR_i64 (by omega) (by omega)), ⟨(by omega), (by omega), (by omega)⟩, (by (try simp only [ByteArray.size_append, ByteArray.size_extract]); omega), trivial⟩ ?_
     refine xe_block 0 ?_
     refine xe_then ?_
     refine xR [] [4] [7001] [Sv ((t.extract 0 v_4.toNat) ++ (t.extract (v_4 + 1).toNat (t.size : Int).toNat))] [some (bxl00Src s'_4)] [] trivial ?_
     refine x_ret ?_
     refine xe_end (((t.extract 0 v_4.toNat) ++ (t.extract (v_4 + 1).toNat (t.size : Int).toNat)), s'_4) (show (okSrc s'_4) ∧ (s'_4.code = s.code) ∧ (s.atx + 0 ≤ s'_4.atx ∧ s'_4.atx ≤ s.atx + 200) ∧ (((t.extract 0 v_4.toNat) ++ (t.extract (v_4 + 1).toNat (t.size : Int).toNat)).size ≤ t.size + 64) ∧ (True) from ⟨(by first | omega | assumption | rfl | (simp only [ByteArray.size_append, ByteArray.size_extract]; omega) | (simp; done) | (simp; omega) | (simp_all; done)), (by first | omega | assumption | rfl | (simp only [ByteArray.size_append, ByteArray.size_extract]; omega) | (simp; done) | (simp; omega) | (simp_all; done)), (by first | omega | assumption | rfl | (simp only [ByteArray.size_append, ByteArray.size_extract]; omega) | (simp; done) | (simp; omega) | (simp_all; done)), (by first | omega | assumption | rfl | (simp only [ByteArray.size_append, ByteArray.size_extract]; omega) | (simp; done) | (simp; omega) | (simp_all; done)), trivial⟩) (⟨.inl rfl, trivial⟩) (Sv ((t.extract 0 v_4.toNat) ++ (t.extract (v_4 + 1).toNat (t.size : Int).toNat))) (by kernel_rfl) (.inl rfl) (fun _ => rfl) (fun _ => trivial)
    refine x_r [(0, .dec false)] [0, 1, 27] [7001] [.ref 7001 0, Sv t, Bv false] [some (bxl00Src s'_1)] [¬ (v_1 = 1)] ⟨h2, trivial⟩ ?_
    refine xe_then ?_
    refine x_false rfl ?_
    refine x_skip ?_
    refine xe_block 0 ?_
    refine xe_then ?_
    refine xR [] [4] [7001] [Sv t] [some (bxl00Src s'_1)] [] trivial ?_
    refine x_ret ?_
    refine xe_end (t, s'_1) (show (okSrc s'_1) ∧ (s'_1.code = s.code) ∧ (s.atx + 0 ≤ s'_1.atx ∧ s'_1.atx ≤ s.atx + 200) ∧ (t.size ≤ t.size + 64) ∧ (True) from ⟨(by first | omega | assumption | rfl | (simp only [ByteArray.size_append, ByteArray.size_extract]; omega) | (simp; done) | (simp; omega) | (simp_all; done)), (by first | omega | assumption | rfl | (simp only [ByteArray.size_append, ByteArray.size_extract]; omega) | (simp; done) | (simp; omega) | (simp_all; done)), (by first | omega | assumption | rfl | (simp only [ByteArray.size_append, ByteArray.size_extract]; omega) | (simp; done) | (simp; omega) | (simp_all; done)), (by first | omega | assumption | rfl | (simp only [ByteArray.size_append, ByteArray.size_extract]; omega) | (simp; done) | (simp; omega) | (simp_all; done)), trivial⟩) (⟨.inl rfl, trivial⟩) (Sv t) (by kernel_rfl) (.inl rfl) (fun _ => rfl) (fun _ => trivial)
  obtain ⟨⟨v, s'⟩, ⟨hh0, hh1, hh2, hh3, _⟩, hc⟩ := hh
  exact ⟨v, s', hh0, hh1, hh2, hh3, hc⟩


theorem zf_ok (n : Nat) : ∀ f ∈ List.replicate n (⟨0, 0, 0⟩ : Feat), okF f = true := fun f h => by
  rw [(List.mem_replicate.1 h).2]; decide
theorem l08t_size {l : List Feat} (h : ∀ f ∈ l, okF f = true) (hl : l.length ≤ 400) : (jnB ⟨#[32]⟩ (l.map ftTx)).size ≤ 30000 := by
  have := fts_len h hl l.length
  rwa [List.take_length] at this

-- spec.DrawReadFeats
theorem DrawReadFeats_ok (code : List Int) (hc : (∀ j, j < code.length → 0 ≤ at_ code j ∧ at_ code j ≤ 255) ∧ code.length ≤ 4611686018427387904) : ∃ (v : ByteArray), (v.size ≤ 50000) ∧ Con Tryz.prog 41 [slU8 false code] true (Sv v) := by
  have hh : ∃ r : ByteArray, ((r.size ≤ 50000) ∧ (True)) ∧ CallOK Tryz.prog 41 [slU8 false code] (lookO []) true (Sv r) (lookO []) := by
    refine fn_okX (Φ := fun r : ByteArray => (r.size ≤ 50000) ∧ (True)) [] (fun r => []) (fn := Tryz.f41) (nt := 23) Tryz.func41 rfl rfl (args := [slU8 false code]) rfl (allcons (.inl ⟨rfl, tagU8 false _⟩) allnil) (res := fun r => Sv r) ?_
    refine xR [] [0] [] [slU8 false code] [] [] trivial ?_
    refine x_seq ?_
    obtain ⟨s'_1, hx1_0, hc1⟩ := l00From_ok code
    have hsrc : okSrc s'_1 := ⟨by rw [hx1_0.1]; exact hc.1, by rw [hx1_0.2]; decide, by rw [hx1_0.1]; exact hc.2⟩
    have hat0 := hx1_0.2
    refine x_r [(1, .lend [] [(7001, bxl00Src s'_1)] [(true, .any)] false (.ref 7001 0))] [3] [7001] [.ref 7001 0] [some (bxl00Src s'_1)] [CallOK Tryz.prog 65 [slU8 false code] (lookO []) false (.ref 7001 0) (lookO [(7001, bxl00Src s'_1)]) ∧ True] ⟨⟨hc1, trivial⟩, trivial⟩ ?_
    refine xe_then ?_
    refine x_seq ?_
    obtain ⟨s'_2, fs_2, hx2_0, hx2_1, hx2_2, hx2_3, hx2_4, hc2⟩ := l08Draw_ok s'_1 5 (by first | assumption | (simp only [okSrc] at *; simp_all; done)) (by omega) (by omega)
    have hdl := l08t_size (l := fs_2) hx2_4 (by omega)
    refine x_r [(1, .lend [(7001, bxl00Src s'_1, bxl00Src s'_2)] [(9301, tAFeat fs_2)] [(true, .any), (true, .any)] false (.arr 9301)), (2, .call [(false, slFeat false fs_2)] true (Sv (jnB ⟨#[32]⟩ (fs_2.map ftTx))))] [3, 4] [7001] [.ref 7001 0, Sv (jnB ⟨#[32]⟩ (fs_2.map ftTx))] [some (bxl00Src s'_2)] [CallOK Tryz.prog 105 [.ref 7001 0, I 5] (lookO [(7001, bxl00Src s'_1)]) false (.arr 9301) (lookO [(7001, bxl00Src s'_2), (9301, tAFeat fs_2)]) ∧ (((bxl00Src s'_1 : Ob) = bxl00Src s'_1 ∨ obLe noOb true (bxl00Src s'_1) (bxl00Src s'_1)) ∧ taggedO false (bxl00Src s'_1)) ∧ True, Con Tryz.prog 104 [slFeat false fs_2] true (Sv (jnB ⟨#[32]⟩ (fs_2.map ftTx))) ∧ ((false = true → true = true) ∧ 3 = 3 ∧ fs_2.length = fs_2.length ∧ ∀ i_, i_ < fs_2.length → (fFeat fs_2) i_ = (fFeat fs_2) i_ ∨ (AV.idsL ((fFeat fs_2) i_) = [] ∧ leL (fun _ => none) false ((fFeat fs_2) i_) ((fFeat fs_2) i_))) ∧ True] ⟨⟨hc2, ⟨.inl rfl, (by simp [taggedO, taggedL, tagged, tagU8])⟩, trivial⟩, ⟨(l08Text_ok fs_2 (by first | assumption | exact zf_ok _) (by first | omega | (rw [List.length_replicate]; omega))), ⟨(fun h => by cases h), rfl, rfl, fun i _ => .inl rfl⟩, trivial⟩, trivial⟩ ?_
    refine xe_then ?_
    refine x_seq ?_
    refine x_seq ?_
    obtain ⟨v_3, s'_3, hx3_0, hx3_1, hx3_2, hc3⟩ := one_ok s'_2 3 (by first | assumption | (simp only [okSrc] at *; simp_all; done)) (by omega)
    rcases Bool.eq_false_or_eq_true v_3 with h1 | h1
    ·subst h1
     refine x_r [(1, .lend [(7001, bxl00Src s'_2, bxl00Src s'_3)] [] [(true, .any), (true, .any)] true (Bv true))] [3, 4, 11] [7001] [.ref 7001 0, Sv (jnB ⟨#[32]⟩ (fs_2.map ftTx)), Bv true] [some (bxl00Src s'_3)] [CallOK Tryz.prog 66 [.ref 7001 0, I 3] (lookO [(7001, bxl00Src s'_2)]) true (Bv true) (lookO [(7001, bxl00Src s'_3)]) ∧ (((bxl00Src s'_2 : Ob) = bxl00Src s'_2 ∨ obLe noOb true (bxl00Src s'_2) (bxl00Src s'_2)) ∧ taggedO false (bxl00Src s'_2)) ∧ True] ⟨⟨hc3, ⟨.inl rfl, (by simp [taggedO, taggedL, tagged, tagU8])⟩, trivial⟩, trivial⟩ ?_
     refine xe_then ?_
     refine x_true rfl ?_
     refine x_seq ?_
     obtain ⟨v_4, s'_4, hx4_0, hx4_1, hx4_2, hx4_3, hc4⟩ := l01Spoil_ok s'_3 (jnB ⟨#[32]⟩ (fs_2.map ftTx)) (by first | assumption | (simp only [okSrc] at *; simp_all; done)) (by omega) (by omega)
     refine x_r [(2, .lend [(7001, bxl00Src s'_3, bxl00Src s'_4)] [] [(true, .any), (true, .any)] true (Sv v_4))] [2] [] [Sv v_4] [] [CallOK Tryz.prog 106 [.ref 7001 0, Sv (jnB ⟨#[32]⟩ (fs_2.map ftTx))] (lookO [(7001, bxl00Src s'_3)]) true (Sv v_4) (lookO [(7001, bxl00Src s'_4)]) ∧ (((bxl00Src s'_3 : Ob) = bxl00Src s'_3 ∨ obLe noOb true (bxl00Src s'_3) (bxl00Src s'_3)) ∧ taggedO false (bxl00Src s'_3)) ∧ True] ⟨⟨hc4, ⟨.inl rfl, (by simp [taggedO, taggedL, tagged, tagU8])⟩, trivial⟩, trivial⟩ ?_
     refine xe_then ?_
     refine x_ret ?_
     refine xe_ret_then ?_
     refine xe_end v_4 (show (v_4.size ≤ 50000) ∧ (True) from ⟨(by first | omega | assumption | (refine Nat.le_trans (l08t_size (zf_ok _) (by rw [List.length_replicate]; omega)) (by decide))), trivial⟩) (trivial) (Sv v_4) (by kernel_rfl) (.inl rfl) (fun _ => rfl) (fun _ => trivial)
    subst h1
    refine x_r [(1, .lend [(7001, bxl00Src s'_2, bxl00Src s'_3)] [] [(true, .any), (true, .any)] true (Bv false))] [3, 4, 11] [7001] [.ref 7001 0, Sv (jnB ⟨#[32]⟩ (fs_2.map ftTx)), Bv false] [some (bxl00Src s'_3)] [CallOK Tryz.prog 66 [.ref 7001 0, I 3] (lookO [(7001, bxl00Src s'_2)]) true (Bv false) (lookO [(7001, bxl00Src s'_3)]) ∧ (((bxl00Src s'_2 : Ob) = bxl00Src s'_2 ∨ obLe noOb true (bxl00Src s'_2) (bxl00Src s'_2)) ∧ taggedO false (bxl00Src s'_2)) ∧ True] ⟨⟨hc3, ⟨.inl rfl, (by simp [taggedO, taggedL, tagged, tagU8])⟩, trivial⟩, trivial⟩ ?_
    refine xe_then ?_
    refine x_false rfl ?_
    refine x_skip ?_
    refine xe_then ?_
    refine x_seq ?_
    refine x_seq ?_
    obtain ⟨v_5, s'_5, hx5_0, hx5_1, hx5_2, hc5⟩ := one_ok s'_3 20 (by first | assumption | (simp only [okSrc] at *; simp_all; done)) (by omega)
    rcases Bool.eq_false_or_eq_true v_5 with h2 | h2
    ·subst h2
     refine x_r [(1, .lend [(7001, bxl00Src s'_3, bxl00Src s'_5)] [] [(true, .any), (true, .any)] true (Bv true))] [3, 4, 16] [7001] [.ref 7001 0, Sv (jnB ⟨#[32]⟩ (fs_2.map ftTx)), Bv true] [some (bxl00Src s'_5)] [CallOK Tryz.prog 66 [.ref 7001 0, I 20] (lookO [(7001, bxl00Src s'_3)]) true (Bv true) (lookO [(7001, bxl00Src s'_5)]) ∧ (((bxl00Src s'_3 : Ob) = bxl00Src s'_3 ∨ obLe noOb true (bxl00Src s'_3) (bxl00Src s'_3)) ∧ taggedO false (bxl00Src s'_3)) ∧ True] ⟨⟨hc5, ⟨.inl rfl, (by simp [taggedO, taggedL, tagged, tagU8])⟩, trivial⟩, trivial⟩ ?_
     refine xe_then ?_
     refine x_true rfl ?_
     refine x_seq ?_
     obtain ⟨v_6, s'_6, hx6_0, hx6_1, hx6_2, hx6_3, hc6⟩ := pick_ok s'_5 2 (by first | assumption | (simp only [okSrc] at *; simp_all; done)) (by omega)
     refine x_r [(1, .lend [(7001, bxl00Src s'_5, bxl00Src s'_6)] [] [(true, .any), (true, .any)] true (I v_6)), (3, .new 20), (4, .call [(false, slFeat false (List.replicate ((384 + v_6).toNat) (Feat.mk 0 0 0)))] true (Sv (jnB ⟨#[32]⟩ ((List.replicate ((384 + v_6).toNat) (Feat.mk 0 0 0)).map ftTx))))] [2] [] [Sv (jnB ⟨#[32]⟩ ((List.replicate ((384 + v_6).toNat) (Feat.mk 0 0 0)).map ftTx))] [] [CallOK Tryz.prog 107 [.ref 7001 0, I 2] (lookO [(7001, bxl00Src s'_5)]) true (I v_6) (lookO [(7001, bxl00Src s'_6)]) ∧ (((bxl00Src s'_5 : Ob) = bxl00Src s'_5 ∨ obLe noOb true (bxl00Src s'_5) (bxl00Src s'_5)) ∧ taggedO false (bxl00Src s'_5)) ∧ True, inR .i64 (384 + v_6), (0 : Int) ≤ (384 + v_6) ∧ ((384 + v_6) : Int) ≤ (384 + v_6) ∧ (24 : Int) * (384 + v_6) ≤ 281474976710656 ∧ (384 + v_6) ≤ 9223372036854775807, Con Tryz.prog 104 [slFeat false (List.replicate ((384 + v_6).toNat) (Feat.mk 0 0 0))] true (Sv (jnB ⟨#[32]⟩ ((List.replicate ((384 + v_6).toNat) (Feat.mk 0 0 0)).map ftTx))) ∧ ((false = true → true = true) ∧ 3 = 3 ∧ ((384 + v_6).toNat) = ((List.replicate ((384 + v_6).toNat) (Feat.mk 0 0 0)).length) ∧ ∀ i_, i_ < ((List.replicate ((384 + v_6).toNat) (Feat.mk 0 0 0)).length) → (fun _ => [I 0, I 0, I 0]) i_ = (fFeat (List.replicate ((384 + v_6).toNat) (Feat.mk 0 0 0))) i_ ∨ (AV.idsL ((fFeat (List.replicate ((384 + v_6).toNat) (Feat.mk 0 0 0))) i_) = [] ∧ leL (fun _ => none) false ((fun _ => [I 0, I 0, I 0]) i_) ((fFeat (List.replicate ((384 + v_6).toNat) (Feat.mk 0 0 0))) i_))) ∧ True] ⟨⟨hc6, ⟨.inl rfl, (by simp [taggedO, taggedL, tagged, tagU8])⟩, trivial⟩, (inR_i64 (by omega) (by omega)), ⟨(by omega), (by omega), (by omega), (by omega)⟩, ⟨(l08Text_ok (List.replicate ((384 + v_6).toNat) (Feat.mk 0 0 0)) (by first | assumption | exact zf_ok _) (by first | omega | (rw [List.length_replicate]; omega))), ⟨(fun h => by cases h), rfl, (by first | rfl | (simp; done) | (simp; omega) | omega), fun i_ hi_ => .inl (const_enc (enc := cFeat) rfl i_ hi_)⟩, trivial⟩, trivial⟩ ?_
     refine xe_then ?_
     refine x_ret ?_
     refine xe_ret_then ?_
     refine xe_end (jnB ⟨#[32]⟩ ((List.replicate ((384 + v_6).toNat) (Feat.mk 0 0 0)).map ftTx)) (show ((jnB ⟨#[32]⟩ ((List.replicate ((384 + v_6).toNat) (Feat.mk 0 0 0)).map ftTx)).size ≤ 50000) ∧ (True) from ⟨(by first | omega | assumption | (refine Nat.le_trans (l08t_size (zf_ok _) (by rw [List.length_replicate]; omega)) (by decide))), trivial⟩) (trivial) (Sv (jnB ⟨#[32]⟩ ((List.replicate ((384 + v_6).toNat) (Feat.mk 0 0 0)).map ftTx))) (by kernel_rfl) (.inl rfl) (fun _ => rfl) (fun _ => trivial)
    subst h2
    refine x_r [(1, .lend [(7001, bxl00Src s'_3, bxl00Src s'_5)] [] [(true, .any), (true, .any)] true (Bv false))] [3, 4, 16] [7001] [.ref 7001 0, Sv (jnB ⟨#[32]⟩ (fs_2.map ftTx)), Bv false] [some (bxl00Src s'_5)] [CallOK Tryz.prog 66 [.ref 7001 0, I 20] (lookO [(7001, bxl00Src s'_3)]) true (Bv false) (lookO [(7001, bxl00Src s'_5)]) ∧ (((bxl00Src s'_3 : Ob) = bxl00Src s'_3 ∨ obLe noOb true (bxl00Src s'_3) (bxl00Src s'_3)) ∧ taggedO false (bxl00Src s'_3)) ∧ True] ⟨⟨hc5, ⟨.inl rfl, (by simp [taggedO, taggedL, tagged, tagU8])⟩, trivial⟩, trivial⟩ ?_
    refine xe_then ?_
    refine x_false rfl ?_
    refine x_skip ?_
    refine xe_then ?_
    refine xR [] [2] [] [Sv (jnB ⟨#[32]⟩ (fs_2.map ftTx))] [] [] trivial ?_
    refine x_ret ?_
    refine xe_end (jnB ⟨#[32]⟩ (fs_2.map ftTx)) (show ((jnB ⟨#[32]⟩ (fs_2.map ftTx)).size ≤ 50000) ∧ (True) from ⟨(by first | omega | assumption | (refine Nat.le_trans (l08t_size (zf_ok _) (by rw [List.length_replicate]; omega)) (by decide))), trivial⟩) (trivial) (Sv (jnB ⟨#[32]⟩ (fs_2.map ftTx))) (by kernel_rfl) (.inl rfl) (fun _ => rfl) (fun _ => trivial)
  obtain ⟨v, ⟨hh0, _⟩, hc⟩ := hh
  exact ⟨v, hh0, hc⟩


theorem bAt_at (s : ByteArray) (j : Nat) : bAt s j = (((s.data.toList.getD j 0).toNat : Nat) : Int) := rfl
theorem noB_ext {c : UInt8} {s : ByteArray} {a b : Nat} (hb : b ≤ s.size) (h : ∀ j, a ≤ j → j < b → ¬ bAt s j = ((c.toNat : Nat) : Int)) : noB c (s.extract a b) := fun hm => by
  rw [Lib.extract_data] at hm
  obtain ⟨i, hi, e⟩ := List.getElem_of_mem hm
  have hl : s.data.toList.length = s.size := by rw [Array.length_toList]; rfl
  simp only [List.length_take, List.length_drop] at hi
  refine h (a + i) (by omega) (by omega) ?_
  rw [bAt_at, List.getD_eq_getElem?_getD, List.getElem?_eq_getElem (by omega)]
  have e2 : s.data.toList[a + i]'(by omega) = c := by rw [← e]; simp
  rw [e2]; rfl
theorem ext_cut {c : UInt8} {s : ByteArray} {a i : Nat} (h1 : a ≤ i) (h2 : i < s.size) (hb : bAt s i = ((c.toNat : Nat) : Int)) : s.extract a s.size = (s.extract a i ++ ⟨#[c]⟩) ++ s.extract (i + 1) s.size := by
  have hl : s.data.toList.length = s.size := by rw [Array.length_toList]; rfl
  have hc : s.data.toList[i]'(by omega) = c := by
    rw [bAt_at, List.getD_eq_getElem?_getD, List.getElem?_eq_getElem (by omega)] at hb
    have hb : (s.data.toList[i]'(by omega)).toNat = c.toNat := by
      have : (((s.data.toList[i]'(by omega)).toNat : Nat) : Int) = ((c.toNat : Nat) : Int) := hb
      omega
    exact UInt8.toNat_inj.1 hb
  apply ByteArray.ext
  apply Array.ext'
  have e1 : ((s.extract a i ++ ⟨#[c]⟩) ++ s.extract (i + 1) s.size).data.toList = ((s.extract a i).data.toList ++ [c]) ++ (s.extract (i + 1) s.size).data.toList := by simp
  have hd : s.data.toList.drop a = (s.data.toList.drop a).take (i - a) ++ s.data.toList.drop i := by
    have q := List.take_append_drop (i - a) (s.data.toList.drop a)
    rw [List.drop_drop, show a + (i - a) = i from by omega] at q
    exact q.symm
  have hi : s.data.toList.drop i = c :: s.data.toList.drop (i + 1) := by rw [List.drop_eq_getElem_cons (by omega), hc]
  have t1 : (s.data.toList.drop a).take (s.size - a) = s.data.toList.drop a := List.take_of_length_le (by rw [List.length_drop]; omega)
  have t2 : (s.data.toList.drop (i + 1)).take (s.size - (i + 1)) = s.data.toList.drop (i + 1) := List.take_of_length_le (by rw [List.length_drop]; omega)
  rw [e1, Lib.extract_data, Lib.extract_data, Lib.extract_data, t1, t2, List.append_assoc]
  show _ = (s.data.toList.drop a).take (i - a) ++ (c :: s.data.toList.drop (i + 1))
  rw [← hi]
  exact hd
theorem spl_hit {c : UInt8} {s : ByteArray} {a i : Nat} (h1 : a ≤ i) (h2 : i < s.size) (hn : ∀ j, a ≤ j → j < i → ¬ bAt s j = ((c.toNat : Nat) : Int)) (hb : bAt s i = ((c.toNat : Nat) : Int)) : splC c (s.extract a s.size) = s.extract a i :: splC c (s.extract (i + 1) s.size) := by
  rw [ext_cut h1 h2 hb, spl_cons (noB_ext (by omega) hn)]
theorem spl_end {c : UInt8} {s : ByteArray} {a : Nat} (hn : ∀ j, a ≤ j → j < s.size → ¬ bAt s j = ((c.toNat : Nat) : Int)) : splC c (s.extract a s.size) = [s.extract a s.size] := spl_none (noB_ext (Nat.le_refl _) hn)
theorem ext_all (s : ByteArray) : s.extract 0 s.size = s := by
  apply ByteArray.ext
  apply Array.ext'
  rw [Lib.extract_data]
  have hl : s.data.toList.length = s.size := by rw [Array.length_toList]; rfl
  rw [List.drop_zero, List.take_of_length_le (by omega)]

-- spec.l01Split
theorem l01Split_ok (s : ByteArray) (by_ : Int) (hz : s.size ≤ 1000000) (hby : 0 ≤ by_ ∧ by_ ≤ 255) : ∃ (v : List ByteArray), (v = splB (⟨#[UInt8.ofNat by_.toNat]⟩ : ByteArray) s) ∧ Con Tryz.prog 182 [Sv s, .val (.int .u8 by_)] true (slS true v) := by
  have hcu : ((UInt8.ofNat by_.toNat).toNat : Int) = by_ := by rw [UInt8.toNat_ofNat']; omega
  have hh : ∃ r : (List ByteArray), ((r = splB (⟨#[UInt8.ofNat by_.toNat]⟩ : ByteArray) s) ∧ (True)) ∧ CallOK Tryz.prog 182 [Sv s, .val (.int .u8 by_)] (lookO []) true (slS true r) (lookO []) := by
    refine fn_okX (Φ := fun r : (List ByteArray) => (r = splB (⟨#[UInt8.ofNat by_.toNat]⟩ : ByteArray) s) ∧ (True)) [] (fun r => []) (fn := Tryz.f182) (nt := 35) Tryz.func182 rfl rfl (args := [Sv s, .val (.int .u8 by_)]) rfl (allcons (.inl ⟨rfl, trivial⟩) (allcons (.inl ⟨rfl, trivial⟩) allnil)) (res := fun r => slS true r) ?_
    refine xR [] [0, 1] [] [Sv s, .val (.int .u8 by_)] [] [] trivial ?_
    refine xR [(0, .new 8)] [0, 1, 5] [8] [Sv s, .val (.int .u8 by_), .arr 8] [some (.arr 1 0 (litF [] 1))] [] trivial ?_
    refine xR [] [0, 1, 5, 6] [8] [Sv s, .val (.int .u8 by_), .arr 8, I 0] [some (.arr 1 0 (litF [] 1))] [] trivial ?_
    refine x_seq ?_
    refine xR [] [0, 1, 5, 6, 7] [8] [Sv s, .val (.int .u8 by_), .arr 8, I 0, I 0] [some (.arr 1 0 (litF [] 1))] [] trivial ?_
    refine x_block ?_
    refine x_weak [] (T := [(0, Sv s), (1, .val (.int .u8 by_)), (5, .arr 8), (6, I 0), (7, I 0)]) (O := [(8, tAS ([] : List ByteArray))]) rfl (⟨.inl rfl, .inl rfl, .inl rfl, .inl rfl, .inl rfl, trivial⟩) (⟨.inr ⟨rfl, (by first | rfl | (simp; done) | (simp; omega) | omega), fun i_ hi_ => absurd hi_ (Nat.not_lt_zero _)⟩, trivial⟩) ?_
    refine x_loop (X := (List ByteArray) × Int × Int) (fun x => mkS [(0, Sv s), (1, .val (.int .u8 by_)), (5, .arr 8), (6, I x.2.1), (7, I x.2.2)] [(8, tAS x.1)]) (fun x => (0 ≤ x.2.2 ∧ x.2.2 ≤ (s.size : Int)) ∧ (0 ≤ x.2.1 ∧ x.2.1 ≤ x.2.2) ∧ (splC (UInt8.ofNat by_.toNat) s = x.1 ++ splC (UInt8.ofNat by_.toNat) (s.extract x.2.1.toNat s.size)) ∧ (∀ j, x.2.1.toNat ≤ j → j < x.2.2.toNat → ¬ bAt s j = ((UInt8.ofNat by_.toNat).toNat : Int)) ∧ (x.1.length ≤ x.2.2.toNat) ∧ True) (fun x => ((s.size : Int) - x.2.2).toNat) (([] : List ByteArray), 0, 0) rfl (show (0 ≤ (0 : Int) ∧ (0 : Int) ≤ (s.size : Int)) ∧ (0 ≤ (0 : Int) ∧ (0 : Int) ≤ (0 : Int)) ∧ (splC (UInt8.ofNat by_.toNat) s = ([] : List ByteArray) ++ splC (UInt8.ofNat by_.toNat) (s.extract (0 : Int).toNat s.size)) ∧ (∀ j, (0 : Int).toNat ≤ j → j < (0 : Int).toNat → ¬ bAt s j = ((UInt8.ofNat by_.toNat).toNat : Int)) ∧ (([] : List ByteArray).length ≤ (0 : Int).toNat) ∧ True from ⟨(by omega), (by omega), (by rw [show (0 : Int).toNat = 0 from rfl, ext_all]; rfl), (by intro j h1 h2; omega), (by simp), trivial⟩) (fun x hI => ?_)
    obtain ⟨out, from_, i⟩ := x
    obtain ⟨hi0, hf0, hsp, hns, hol, _⟩ : (0 ≤ i ∧ i ≤ (s.size : Int)) ∧ (0 ≤ from_ ∧ from_ ≤ i) ∧ (splC (UInt8.ofNat by_.toNat) s = out ++ splC (UInt8.ofNat by_.toNat) (s.extract from_.toNat s.size)) ∧ (∀ j, from_.toNat ≤ j → j < i.toNat → ¬ bAt s j = ((UInt8.ofNat by_.toNat).toNat : Int)) ∧ (out.length ≤ i.toNat) ∧ True := hI
    show XW _ _ _ _ (mkS [(0, Sv s), (1, .val (.int .u8 by_)), (5, .arr 8), (6, I from_), (7, I i)] [(8, tAS out)]) _ _
    refine x_seq ?_
    refine x_seq ?_
    by_cases h1 : i < (s.size : Int)
    ·have hi : i.toNat < s.size := by omega
     refine x_r [(3, .dec true)] [0, 1, 5, 6, 7, 12] [8] [Sv s, .val (.int .u8 by_), .arr 8, I from_, I i, Bv true] [some (tAS out)] [i < (s.size : Int)] ⟨h1, trivial⟩ ?_
     refine xe_then ?_
     refine x_true rfl ?_
     refine x_skip ?_
     refine xe_then ?_
     refine x_seq ?_
     refine x_block ?_
     refine x_seq ?_
     by_cases h2 : (bAt s i.toNat) = by_
     ·have hq : bAt s i.toNat = ((UInt8.ofNat by_.toNat).toNat : Int) := by rw [hcu]; exact h2
      have hcut := spl_hit (c := UInt8.ofNat by_.toNat) (s := s) (a := from_.toNat) (i := i.toNat) (by omega) hi (fun j h1 h2 => hns j h1 h2) hq
      refine x_r [(4, .dec true)] [0, 1, 5, 6, 7, 19] [8] [Sv s, .val (.int .u8 by_), .arr 8, I from_, I i, Bv true] [some (tAS out)] [(0 : Int) ≤ i ∧ i < (s.size : Int), (bAt s i.toNat) = by_] ⟨⟨(by omega), (by omega)⟩, h2, trivial⟩ ?_
      refine xe_then ?_
      refine x_true rfl ?_
      refine xR [(5, .new 25), (6, .new 26)] [0, 1, 5, 7] [26] [Sv s, .val (.int .u8 by_), .arr 26, I i] [some (.arr 1 (out.length + 1) (catF out.length (fS out) (litF [Sv (s.extract from_.toNat i.toNat)] 1)))] [(0 : Int) ≤ from_ ∧ from_ ≤ i ∧ i ≤ (s.size : Int), (out.length + 1) * 16 ≤ 140737488355328] ⟨⟨(by omega), (by omega), (by omega)⟩, (by omega), trivial⟩ ?_
      refine x_r [] [0, 1, 5, 6, 7] [26] [Sv s, .val (.int .u8 by_), .arr 26, I (i + 1), I i] [some (.arr 1 (out.length + 1) (catF out.length (fS out) (litF [Sv (s.extract from_.toNat i.toNat)] 1)))] [inR .i64 (i + 1)] ⟨(inR_i64 (by omega) (by omega)), trivial⟩ ?_
      refine xe_block 1 ?_
      refine xe_then ?_
      refine x_r [] [0, 1, 5, 6, 7] [26] [Sv s, .val (.int .u8 by_), .arr 26, I (i + 1), I (i + 1)] [some (.arr 1 (out.length + 1) (catF out.length (fS out) (litF [Sv (s.extract from_.toNat i.toNat)] 1)))] [inR .i64 (i + 1)] ⟨(inR_i64 (by omega) (by omega)), trivial⟩ ?_
      refine xe_weak [(8, 26)] (T := [(0, Sv s), (1, .val (.int .u8 by_)), (5, .arr 8), (6, I (i + 1)), (7, I (i + 1))]) (O := [(8, tAS (out ++ [(s.extract from_.toNat i.toNat)]))]) rfl (⟨.inl rfl, .inl rfl, .inl rfl, .inl rfl, .inl rfl, trivial⟩) (⟨.inr ⟨rfl, (by first | rfl | (simp; done) | (simp; omega) | omega), fun i_ hi_ => .inl (cat_snoc (enc := cS) (xs := out) rfl i_ hi_)⟩, trivial⟩) (xe_again ((out ++ [(s.extract from_.toNat i.toNat)]), (i + 1), (i + 1)) rfl (show (0 ≤ (i + 1) ∧ (i + 1) ≤ (s.size : Int)) ∧ (0 ≤ (i + 1) ∧ (i + 1) ≤ (i + 1)) ∧ (splC (UInt8.ofNat by_.toNat) s = (out ++ [(s.extract from_.toNat i.toNat)]) ++ splC (UInt8.ofNat by_.toNat) (s.extract (i + 1).toNat s.size)) ∧ (∀ j, (i + 1).toNat ≤ j → j < (i + 1).toNat → ¬ bAt s j = ((UInt8.ofNat by_.toNat).toNat : Int)) ∧ ((out ++ [(s.extract from_.toNat i.toNat)]).length ≤ (i + 1).toNat) ∧ True from ⟨(by omega), (by omega), (by first | exact hsp | (rw [hsp, hcut, show (i + 1).toNat = i.toNat + 1 from by omega]; simp; done)), (by intro j h1 h2; by_cases ej : j = i.toNat; (subst ej; first | exact hq | omega); exact hns j (by omega) (by omega)), (by first | omega | (simp; omega)), trivial⟩) (by first | (show (((s.size : Int) - (i + 1)).toNat : Nat) < ((s.size : Int) - i).toNat; omega) | (dsimp only; omega)))
     have hq : ¬ bAt s i.toNat = ((UInt8.ofNat by_.toNat).toNat : Int) := by rw [hcu]; exact h2
     refine x_r [(4, .dec false)] [0, 1, 5, 6, 7, 19] [8] [Sv s, .val (.int .u8 by_), .arr 8, I from_, I i, Bv false] [some (tAS out)] [(0 : Int) ≤ i ∧ i < (s.size : Int), ¬ ((bAt s i.toNat) = by_)] ⟨⟨(by omega), (by omega)⟩, h2, trivial⟩ ?_
     refine xe_then ?_
     refine x_false rfl ?_
     refine x_skip ?_
     refine xe_block 1 ?_
     refine xe_then ?_
     refine x_r [] [0, 1, 5, 6, 7] [8] [Sv s, .val (.int .u8 by_), .arr 8, I from_, I (i + 1)] [some (tAS out)] [inR .i64 (i + 1)] ⟨(inR_i64 (by omega) (by omega)), trivial⟩ ?_
     exact xe_again (out, from_, (i + 1)) rfl (show (0 ≤ (i + 1) ∧ (i + 1) ≤ (s.size : Int)) ∧ (0 ≤ from_ ∧ from_ ≤ (i + 1)) ∧ (splC (UInt8.ofNat by_.toNat) s = out ++ splC (UInt8.ofNat by_.toNat) (s.extract from_.toNat s.size)) ∧ (∀ j, from_.toNat ≤ j → j < (i + 1).toNat → ¬ bAt s j = ((UInt8.ofNat by_.toNat).toNat : Int)) ∧ (out.length ≤ (i + 1).toNat) ∧ True from ⟨(by omega), (by omega), (by first | exact hsp | (rw [hsp, hcut, show (i + 1).toNat = i.toNat + 1 from by omega]; simp; done)), (by intro j h1 h2; by_cases ej : j = i.toNat; (subst ej; first | exact hq | omega); exact hns j (by omega) (by omega)), (by first | omega | (simp; omega)), trivial⟩) (by first | (show (((s.size : Int) - (i + 1)).toNat : Nat) < ((s.size : Int) - i).toNat; omega) | (dsimp only; omega))
    have hie : i.toNat = s.size := by omega
    refine x_r [(3, .dec false)] [0, 1, 5, 6, 7, 12] [8] [Sv s, .val (.int .u8 by_), .arr 8, I from_, I i, Bv false] [some (tAS out)] [¬ (i < (s.size : Int))] ⟨h1, trivial⟩ ?_
    refine xe_then ?_
    refine x_false rfl ?_
    refine x_exit ?_
    refine xe_exit_then ?_
    refine xe_loop_exit ?_
    refine xe_exit_same ?_
    refine xe_then ?_
    refine xR [(4, .new 33), (5, .new 34)] [4] [34] [.arr 34] [some (.arr 1 (out.length + 1) (catF out.length (fS out) (litF [Sv (s.extract from_.toNat (s.size : Int).toNat)] 1)))] [(0 : Int) ≤ from_ ∧ from_ ≤ (s.size : Int) ∧ (s.size : Int) ≤ (s.size : Int), (out.length + 1) * 16 ≤ 140737488355328] ⟨⟨(by omega), (by omega), (by omega)⟩, (by omega), trivial⟩ ?_
    refine x_ret ?_
    refine xe_end (out ++ [(s.extract from_.toNat (s.size : Int).toNat)]) (show ((out ++ [(s.extract from_.toNat (s.size : Int).toNat)]) = splB (⟨#[UInt8.ofNat by_.toNat]⟩ : ByteArray) s) ∧ (True) from ⟨(by (show _ = splC _ s; rw [hsp, spl_end (fun j h1 h2 => hns j h1 (by omega))]; first | rfl | (rw [Int.toNat_natCast]; done))), trivial⟩) (trivial) (.arr 34) (by kernel_rfl) (.inr ⟨(fun _ => rfl), rfl, (by first | rfl | (simp; done) | (simp; omega) | omega), fun i_ hi_ => .inl (cat_snoc (enc := cS) (xs := out) rfl i_ hi_)⟩) (fun _ => rfl) (fun _ => (tagS true _))
  obtain ⟨v, ⟨hh0, _⟩, hc⟩ := hh
  exact ⟨v, hh0, hc⟩


-- spec.l01Digit
theorem l01Digit_ok (c : Int) : Con Tryz.prog 220 [.val (.int .u8 c)] true (Bv (inB c 48 57)) := by
  refine fn_ok (fn := Tryz.f220) (nt := 9) Tryz.func220 rfl rfl rfl rfl (by simp [taggedL, tagged]) fun B hB => ?_
  refine aR [] [0] [] [.val (.int .u8 c)] [] [] hB trivial ?_
  refine aw_seq ?_
  by_cases h1 : 48 ≤ c
  ·refine aw_r [(1, .dec true)] [2] [] [Bv (decide (c ≤ 57))] [] [48 ≤ c] hB ⟨h1, trivial⟩ ?_
   refine ae_then ?_
   refine aw_ret ?_
   refine ae_ret hB (Bv (decide (c ≤ 57))) (by kernel_rfl) (.inl (by first | rfl | (refine congrArg Bv ?_; simp [inB, *]; done) | (refine congrArg Bv ?_; simp [inB, *]; omega) | (refine congrArg Bv ?_; simp_all [inB]; done) | (refine congrArg Bv ?_; simp_all [inB]; omega))) rfl (fun _ => trivial)
  refine aw_r [(1, .dec false)] [2] [] [Bv false] [] [¬ (48 ≤ c)] hB ⟨h1, trivial⟩ ?_
  refine ae_then ?_
  refine aw_ret ?_
  refine ae_ret hB (Bv false) (by kernel_rfl) (.inl (by first | rfl | (refine congrArg Bv ?_; simp [inB, *]; done) | (refine congrArg Bv ?_; simp [inB, *]; omega) | (refine congrArg Bv ?_; simp_all [inB]; done) | (refine congrArg Bv ?_; simp_all [inB]; omega))) rfl (fun _ => trivial)


/-- The value of digits, behind others. -/
def valL (acc : Nat) (l : List UInt8) : Nat := l.foldl (fun a b => a * 10 + (b.toNat - 48)) acc
def allDig (l : List UInt8) : Prop := ∀ b ∈ l, 48 ≤ b.toNat ∧ b.toNat ≤ 57
theorem puM_digits (M : Nat) : ∀ (l : List UInt8) (acc v : Nat), Lib.parseUintM M acc l = .ok v → allDig l
  | [], _, _, _ => by intro b hb; cases hb
  | c :: l, acc, v, h => by
    rw [Lib.parseUintM] at h
    split at h
    · rename_i hc
      split at h
      · cases h
      · split at h
        · cases h
        · intro b hb
          rcases List.mem_cons.1 hb with rfl | hb
          · exact hc
          · exact puM_digits M l _ v h b hb
    · cases h
theorem valL_lt : ∀ (l : List UInt8) (acc k : Nat), allDig l → acc < 10 ^ k → valL acc l < 10 ^ (k + l.length)
  | [], acc, k, _, h => by simpa [valL] using h
  | c :: l, acc, k, hd, h => by
    have hc := hd c (by simp)
    have := valL_lt l (acc * 10 + (c.toNat - 48)) (k + 1) (fun b hb => hd b (by simp [hb])) (by rw [Nat.pow_succ]; omega)
    rw [List.length_cons, show k + (l.length + 1) = k + 1 + l.length from by omega]
    exact this
theorem puM_val {M : Nat} (hM : 1000000000000000000 ≤ M) : ∀ (l : List UInt8) (acc k : Nat), allDig l → acc < 10 ^ k → k + l.length ≤ 18 → Lib.parseUintM M acc l = .ok (valL acc l)
  | [], acc, k, _, _, _ => rfl
  | c :: l, acc, k, hd, h, hk => by
    have hc := hd c (by simp)
    rw [List.length_cons] at hk
    have h1 : acc * 10 + (c.toNat - 48) < 10 ^ (k + 1) := by rw [Nat.pow_succ]; omega
    have h2 : 10 ^ (k + 1) ≤ 10 ^ 18 := Nat.pow_le_pow_right (by decide) (by omega)
    have h3 : (10 : Nat) ^ 18 = 1000000000000000000 := by decide
    have h4 : 10 ^ k ≤ 10 ^ 17 := Nat.pow_le_pow_right (by decide) (by omega)
    have h5 : (10 : Nat) ^ 17 = 100000000000000000 := by decide
    rw [Lib.parseUintM, if_pos hc, if_neg (by omega), if_neg (by omega)]
    exact puM_val hM l _ (k + 1) (fun b hb => hd b (by simp [hb])) h1 (by omega)
/-- A sign ahead. -/
def sgnI (neg : Bool) (n : Int) : Int := if neg = true then -n else n
theorem parse_neg {r : List UInt8} (hd : allDig r) (h : 1 ≤ r.length ∧ r.length ≤ 18) : Lib.parseIntB 64 (45 :: r) = .ok (-((valL 0 r : Nat) : Int)) := by
  have hv := valL_lt r 0 0 hd (by decide)
  have h2 : 10 ^ (0 + r.length) ≤ 10 ^ 18 := Nat.pow_le_pow_right (by decide) (by omega)
  have h3 : (10 : Nat) ^ 18 = 1000000000000000000 := by decide
  rw [Lib.parseIntB_minus]
  unfold Lib.parseUintB
  rw [if_neg (fun e => by rw [e] at h; exact absurd h.1 (by decide)), puM_val (by decide) r 0 0 hd (by decide) (by omega)]
  simp only [Lib.signedC]
  rw [if_neg (by omega)]
theorem parse_pos {r : List UInt8} (hd : allDig r) (h : 1 ≤ r.length ∧ r.length ≤ 18) : Lib.parseIntB 64 r = .ok ((valL 0 r : Nat) : Int) := by
  have hv := valL_lt r 0 0 hd (by decide)
  have h2 : 10 ^ (0 + r.length) ≤ 10 ^ 18 := Nat.pow_le_pow_right (by decide) (by omega)
  have h3 : (10 : Nat) ^ 18 = 1000000000000000000 := by decide
  obtain ⟨c, q, rfl⟩ : ∃ c q, r = c :: q := by
    cases r with
    | nil => exact absurd h.1 (by decide)
    | cons c q => exact ⟨c, q, rfl⟩
  have hc := hd c (by simp)
  rw [Lib.parseIntB_plain 64 c q (by omega) (by omega)]
  unfold Lib.parseUintB
  rw [if_neg (by simp), puM_val (by decide) _ 0 0 hd (by decide) (by omega)]
  simp only [Lib.signlessC]
  rw [if_neg (by omega)]
theorem parse_nodig {r : List UInt8} (hd : ¬ allDig r) (n : Int) : Lib.parseIntB 64 (45 :: r) ≠ .ok n := fun h => by
  rw [Lib.parseIntB_minus] at h
  unfold Lib.parseUintB at h
  by_cases e : r = []
  · subst e; exact hd (fun b hb => by cases hb)
  · rw [if_neg e] at h
    cases hq : Lib.parseUintM (2 ^ 64 - 1) 0 r with
    | ok v => exact hd (puM_digits _ _ _ _ hq)
    | «syntax» => rw [hq] at h; cases h
    | range => rw [hq] at h; cases h

/-- t is s without its sign. -/
def unS (s t : ByteArray) : Prop := s.data.toList = 45 :: t.data.toList ∨ (t = s ∧ ∀ r, s.data.toList ≠ 45 :: r)
theorem ba_len (s : ByteArray) : s.data.toList.length = s.size := by rw [Array.length_toList]; rfl
theorem unS_trim {s t : ByteArray} (h : unS s t) : Lib.trimPrefix s.data.toList [45] = t.data.toList := by
  rcases h with h | ⟨rfl, h⟩
  · rw [h]; simp [Lib.trimPrefix, Lib.hasPrefix]
  · cases hq : t.data.toList with
    | nil => simp [Lib.trimPrefix, Lib.hasPrefix]
    | cons c r =>
      have : ¬ (45 : UInt8) = c := fun e => h r (by rw [hq, e])
      simp [Lib.trimPrefix, Lib.hasPrefix, this]
theorem unS_size {s t : ByteArray} (h : unS s t) : (t.size < s.size ↔ s.data.toList = 45 :: t.data.toList) ∧ t.size ≤ s.size := by
  have e1 := ba_len s
  have e2 := ba_len t
  rcases h with h | ⟨rfl, h⟩
  · have := congrArg List.length h
    rw [List.length_cons] at this
    exact ⟨⟨fun _ => h, fun _ => by omega⟩, by omega⟩
  · exact ⟨⟨fun q => absurd q (Nat.lt_irrefl _), fun q => absurd q (h _)⟩, Nat.le_refl _⟩
theorem unS_neg {s : ByteArray} (h0 : 0 < s.size) (h : bAt s 0 = 45) : unS s (s.extract 1 s.size) := by
  have hl := ba_len s
  refine .inl ?_
  rw [Lib.extract_data, List.take_of_length_le (by rw [List.length_drop]; omega)]
  cases hq : s.data.toList with
  | nil => rw [hq] at hl; simp at hl; omega
  | cons c r =>
    have : c = 45 := by
      rw [bAt_at, hq] at h
      have h : ((c.toNat : Nat) : Int) = 45 := h
      exact UInt8.toNat_inj.1 (show c.toNat = (45 : UInt8).toNat from by have : (45 : UInt8).toNat = 45 := rfl; omega)
    subst this
    rfl
theorem unS_pos {s : ByteArray} (h : s.size = 0 ∨ ¬ bAt s 0 = 45) : unS s s := by
  refine .inr ⟨rfl, fun r hr => ?_⟩
  have hl := ba_len s
  rcases h with h | h
  · rw [hr] at hl; simp at hl; omega
  · exact h (by rw [bAt_at, hr]; rfl)
theorem valL_take {l : List UInt8} {k : Nat} (h : k < l.length) : valL 0 (l.take (k + 1)) = valL 0 (l.take k) * 10 + ((l[k]).toNat - 48) := by
  rw [List.take_succ_eq_append_getElem h]
  unfold valL
  rw [List.foldl_append]
  rfl
theorem dcB_dig {s t : ByteArray} (hu : unS s t) (h : dcB s = true) : allDig t.data.toList := by
  unfold dcB at h
  split at h
  · rename_i n hp
    have q := (of_decide_eq_true h).2
    have hs : s.data.toList = Lib.itoa n := by rw [← q]; simp [decB]
    unfold Lib.itoa at hs
    split at hs
    · rcases hu with hu | ⟨rfl, hu⟩
      · rw [hs] at hu
        have : t.data.toList = Lib.decDigits n.natAbs := (List.cons.inj hu).2.symm
        rw [this]; exact decDigits_bytes _ _ (Nat.lt_succ_self _)
      · exact absurd hs (hu _)
    · have hd : allDig s.data.toList := by rw [hs]; exact decDigits_bytes _ _ (Nat.lt_succ_self _)
      rcases hu with hu | ⟨rfl, hu⟩
      · have := hd 45 (by rw [hu]; simp)
        exact absurd this (by decide)
      · exact hd
  · cases h
theorem dcB_nodig {s t : ByteArray} (hu : unS s t) (h : ¬ allDig t.data.toList) : dcB s = false ∧ dcN s = 0 := by
  have e : dcB s = false := by
    cases q : dcB s with
    | false => rfl
    | true => exact absurd (dcB_dig hu q) h
  exact ⟨e, by rw [dcN, e]; rfl⟩
theorem unS_parse {s t : ByteArray} (hu : unS s t) (hd : allDig t.data.toList) (hl : 1 ≤ t.size ∧ t.size ≤ 18) : Lib.parseIntB 64 s.data.toList = .ok (if t.size < s.size then -((valL 0 t.data.toList : Nat) : Int) else ((valL 0 t.data.toList : Nat) : Int)) := by
  have e2 := ba_len t
  rcases hu with h | ⟨rfl, h⟩
  · rw [if_pos ((unS_size (.inl h)).1.2 h), h, parse_neg hd (by omega)]
  · rw [if_neg (Nat.lt_irrefl _), parse_pos hd (by omega)]

theorem bAt_nat {t : ByteArray} {j : Nat} (h : j < t.size) : bAt t j = (((t.data.toList[j]'(by rw [ba_len]; exact h)).toNat : Nat) : Int) := by
  rw [bAt_at, List.getD_eq_getElem?_getD, List.getElem?_eq_getElem (by rw [ba_len]; exact h)]
  rfl
theorem allDig_take {t : ByteArray} {k : Nat} (hk : k ≤ t.size) (h : ∀ j, j < k → 48 ≤ bAt t j ∧ bAt t j ≤ 57) : allDig (t.data.toList.take k) := fun b hb => by
  obtain ⟨j, hj, e⟩ := List.getElem_of_mem hb
  have hl := ba_len t
  simp only [List.length_take] at hj
  have q := h j (by omega)
  rw [bAt_nat (by omega)] at q
  have e2 : t.data.toList[j]'(by omega) = b := by rw [← e]; simp
  rw [e2] at q
  omega
theorem valL_bd {t : ByteArray} {k : Nat} (h : ∀ j, j < k → 48 ≤ bAt t j ∧ bAt t j ≤ 57) (hk : k < t.size) (hl : t.size ≤ 18) : valL 0 (t.data.toList.take k) < 100000000000000000 := by
  have q := valL_lt _ 0 0 (allDig_take (by omega) h) (by decide)
  have hl2 := ba_len t
  have h2 : 10 ^ (0 + (t.data.toList.take k).length) ≤ 10 ^ 17 := Nat.pow_le_pow_right (by decide) (by rw [List.length_take]; omega)
  have h3 : (10 : Nat) ^ 17 = 100000000000000000 := by decide
  omega
theorem valL_all {t : ByteArray} (h : allDig t.data.toList) (hl : t.size ≤ 18) : valL 0 t.data.toList < 1000000000000000000 := by
  have q := valL_lt _ 0 0 h (by decide)
  have hl2 := ba_len t
  have h2 : 10 ^ (0 + t.data.toList.length) ≤ 10 ^ 18 := Nat.pow_le_pow_right (by decide) (by omega)
  have h3 : (10 : Nat) ^ 18 = 1000000000000000000 := by decide
  omega
theorem valL_step {t : ByteArray} {k : Nat} (hk : k < t.size) (hd : 48 ≤ bAt t k) : ((valL 0 (t.data.toList.take (k + 1)) : Nat) : Int) = 10 * ((valL 0 (t.data.toList.take k) : Nat) : Int) + (bAt t k - 48) := by
  rw [valL_take (by rw [ba_len]; exact hk)]
  rw [bAt_nat hk] at *
  omega
theorem ba_zero {s : ByteArray} (h : s.size = 0) : s = ⟨#[]⟩ := by
  apply ByteArray.ext
  exact Array.eq_empty_of_size_eq_zero h

-- spec.l01Number
theorem l01Number_ok (s : ByteArray) (hz : s.size ≤ 1000000) : ∃ (v : Int) (c : Bool), (v = dcN s) ∧ (c = dcB s) ∧ Con Tryz.prog 183 [Sv s] true (.tup [I v, Bv c]) := by
  have hh : ∃ r : Int × Bool, ((r.1 = dcN s) ∧ (r.2 = dcB s) ∧ (True)) ∧ CallOK Tryz.prog 183 [Sv s] (lookO []) true (.tup [I r.1, Bv r.2]) (lookO []) := by
    refine fn_okX (Φ := fun r : Int × Bool => (r.1 = dcN s) ∧ (r.2 = dcB s) ∧ (True)) [] (fun r => []) (fn := Tryz.f183) (nt := 56) Tryz.func183 rfl rfl (args := [Sv s]) rfl (allcons (.inl ⟨rfl, trivial⟩) allnil) (res := fun r => .tup [I r.1, Bv r.2]) ?_
    refine xR [] [0] [] [Sv s] [] [] trivial ?_
    refine xR [] [0, 4] [] [Sv s, Sv s] [] [] trivial ?_
    refine x_cut (X := ByteArray) (fun x => mkS [(0, Sv s), (4, Sv x)] []) (fun x => (unS s x) ∧ (x.size ≤ s.size) ∧ True) ?_ (fun x hI => ?_)
    ·refine x_seq ?_
     by_cases h1 : s = (⟨#[]⟩ : ByteArray)
     ·have hs0 : s.size = 0 := by rw [h1]; rfl
      refine x_r [(1, .dec false)] [0, 4, 14] [] [Sv s, Sv s, Bv false] [] [¬ (s ≠ (⟨#[]⟩ : ByteArray))] ⟨(fun hq => hq h1), trivial⟩ ?_
      refine xe_then ?_
      refine x_false rfl ?_
      refine x_skip ?_
      refine xe_weak [] (T := [(0, Sv s), (4, Sv s)]) (O := []) rfl (⟨.inl rfl, .inl rfl, trivial⟩) (trivial) (xe_cut s rfl (show (unS s s) ∧ (s.size ≤ s.size) ∧ True from ⟨(by first | exact unS_neg (by omega) (by assumption) | exact unS_pos (.inl (by omega)) | exact unS_pos (.inr (by assumption))), (by first | omega | (rw [ByteArray.size_extract]; omega)), trivial⟩))
     have hs0 : 0 < s.size := Nat.pos_of_ne_zero (fun q => h1 (ba_zero q))
     by_cases h2 : (bAt s 0) = 45
     ·refine x_r [(1, .dec true), (5, .dec true)] [0, 4, 14] [] [Sv s, Sv s, Bv true] [] [s ≠ (⟨#[]⟩ : ByteArray), (0 : Int) ≤ 0 ∧ 0 < (s.size : Int), (bAt s 0) = 45] ⟨h1, ⟨(by omega), (by omega)⟩, h2, trivial⟩ ?_
      refine xe_then ?_
      refine x_true rfl ?_
      refine x_r [] [0, 4] [] [Sv s, Sv (s.extract 1 (s.size : Int).toNat)] [] [(0 : Int) ≤ 1 ∧ (1 : Int) ≤ (s.size : Int) ∧ (s.size : Int) ≤ (s.size : Int)] ⟨⟨(by omega), (by omega), (by omega)⟩, trivial⟩ ?_
      exact xe_cut (s.extract 1 (s.size : Int).toNat) rfl (show (unS s (s.extract 1 (s.size : Int).toNat)) ∧ ((s.extract 1 (s.size : Int).toNat).size ≤ s.size) ∧ True from ⟨(by first | exact unS_neg (by omega) (by assumption) | exact unS_pos (.inl (by omega)) | exact unS_pos (.inr (by assumption))), (by first | omega | (rw [ByteArray.size_extract]; omega)), trivial⟩)
     refine x_r [(1, .dec true), (5, .dec false)] [0, 4, 14] [] [Sv s, Sv s, Bv false] [] [s ≠ (⟨#[]⟩ : ByteArray), (0 : Int) ≤ 0 ∧ 0 < (s.size : Int), ¬ ((bAt s 0) = 45)] ⟨h1, ⟨(by omega), (by omega)⟩, h2, trivial⟩ ?_
     refine xe_then ?_
     refine x_false rfl ?_
     refine x_skip ?_
     refine xe_weak [] (T := [(0, Sv s), (4, Sv s)]) (O := []) rfl (⟨.inl rfl, .inl rfl, trivial⟩) (trivial) (xe_cut s rfl (show (unS s s) ∧ (s.size ≤ s.size) ∧ True from ⟨(by first | exact unS_neg (by omega) (by assumption) | exact unS_pos (.inl (by omega)) | exact unS_pos (.inr (by assumption))), (by first | omega | (rw [ByteArray.size_extract]; omega)), trivial⟩))
    obtain ⟨t, hxx⟩ : ∃ t : ByteArray, t = x := ⟨x, rfl⟩
    subst hxx
    obtain ⟨hu, htz, _⟩ : (unS s t) ∧ (t.size ≤ s.size) ∧ True := hI
    show XW _ _ _ _ (mkS [(0, Sv s), (4, Sv t)] []) _ _
    refine x_seq ?_
    refine x_seq ?_
    by_cases h3 : (t.size : Int) < 1
    ·have hst := dcB_len (s := s) (by rw [unS_trim hu, ba_len]; omega)
     refine x_r [(2, .dec true)] [0, 4, 24] [] [Sv s, Sv t, Bv true] [] [(t.size : Int) < 1] ⟨h3, trivial⟩ ?_
     refine xe_then ?_
     refine x_true rfl ?_
     refine xR [] [2, 3] [] [I 0, Bv false] [] [] trivial ?_
     refine x_ret ?_
     refine xe_ret_then ?_
     refine xe_end (0, false) (show (0 = dcN s) ∧ (false = dcB s) ∧ (True) from ⟨(by first | (rw [hst.2]; done) | (rw [hst.1]; done) | exact hst.2.symm | exact hst.1.symm), (by first | (rw [hst.2]; done) | (rw [hst.1]; done) | exact hst.2.symm | exact hst.1.symm), trivial⟩) (trivial) (.tup [I 0, Bv false]) (by kernel_rfl) (.inl rfl) (fun _ => rfl) (fun _ => (by simp [tagged, taggedL]))
    by_cases h4 : 18 < (t.size : Int)
    ·have hst := dcB_len (s := s) (by rw [unS_trim hu, ba_len]; omega)
     refine x_r [(2, .dec false), (6, .dec true)] [0, 4, 24] [] [Sv s, Sv t, Bv true] [] [¬ ((t.size : Int) < 1), 18 < (t.size : Int)] ⟨h3, h4, trivial⟩ ?_
     refine xe_then ?_
     refine x_true rfl ?_
     refine xR [] [2, 3] [] [I 0, Bv false] [] [] trivial ?_
     refine x_ret ?_
     refine xe_ret_then ?_
     refine xe_end (0, false) (show (0 = dcN s) ∧ (false = dcB s) ∧ (True) from ⟨(by first | (rw [hst.2]; done) | (rw [hst.1]; done) | exact hst.2.symm | exact hst.1.symm), (by first | (rw [hst.2]; done) | (rw [hst.1]; done) | exact hst.2.symm | exact hst.1.symm), trivial⟩) (trivial) (.tup [I 0, Bv false]) (by kernel_rfl) (.inl rfl) (fun _ => rfl) (fun _ => (by simp [tagged, taggedL]))
    refine x_r [(2, .dec false), (6, .dec false)] [0, 4, 24] [] [Sv s, Sv t, Bv false] [] [¬ ((t.size : Int) < 1), ¬ (18 < (t.size : Int))] ⟨h3, h4, trivial⟩ ?_
    refine xe_then ?_
    refine x_false rfl ?_
    refine x_skip ?_
    refine xe_then ?_
    refine xR [] [0, 4, 5] [] [Sv s, Sv t, I 0] [] [] trivial ?_
    refine x_seq ?_
    refine xR [] [0, 4, 5, 6] [] [Sv s, Sv t, I 0, I 0] [] [] trivial ?_
    refine x_block ?_
    refine x_loop (X := Int × Int) (fun x => mkS [(0, Sv s), (4, Sv t), (5, I x.1), (6, I x.2)] []) (fun x => (0 ≤ x.2 ∧ x.2 ≤ (t.size : Int)) ∧ (x.1 = ((valL 0 (t.data.toList.take x.2.toNat) : Nat) : Int)) ∧ (∀ j, j < x.2.toNat → 48 ≤ bAt t j ∧ bAt t j ≤ 57) ∧ True) (fun x => ((t.size : Int) - x.2).toNat) (0, 0) rfl (show (0 ≤ (0 : Int) ∧ (0 : Int) ≤ (t.size : Int)) ∧ ((0 : Int) = ((valL 0 (t.data.toList.take (0 : Int).toNat) : Nat) : Int)) ∧ (∀ j, j < (0 : Int).toNat → 48 ≤ bAt t j ∧ bAt t j ≤ 57) ∧ True from ⟨(by omega), (by rfl), (by intro j hj; omega), trivial⟩) (fun x hI => ?_)
    obtain ⟨n, i⟩ := x
    obtain ⟨hi0, hnv, hdg, _⟩ : (0 ≤ i ∧ i ≤ (t.size : Int)) ∧ (n = ((valL 0 (t.data.toList.take i.toNat) : Nat) : Int)) ∧ (∀ j, j < i.toNat → 48 ≤ bAt t j ∧ bAt t j ≤ 57) ∧ True := hI
    show XW _ _ _ _ (mkS [(0, Sv s), (4, Sv t), (5, I n), (6, I i)] []) _ _
    refine x_seq ?_
    refine x_seq ?_
    by_cases h5 : i < (t.size : Int)
    ·have hi : i.toNat < t.size := by omega
     have hbd := valL_bd hdg hi (by omega)
     have hi1 : (i + 1).toNat = i.toNat + 1 := by omega
     refine x_r [(3, .dec true)] [0, 4, 5, 6, 28] [] [Sv s, Sv t, I n, I i, Bv true] [] [i < (t.size : Int)] ⟨h5, trivial⟩ ?_
     refine xe_then ?_
     refine x_true rfl ?_
     refine x_skip ?_
     refine xe_then ?_
     refine x_seq ?_
     refine x_block ?_
     refine x_seq ?_
     refine x_seq ?_
     rcases Bool.eq_false_or_eq_true (inB (bAt t i.toNat) 48 57) with h6 | h6
     ·have hdq := inB_iff.1 h6
      have hvs := valL_step hi hdq.1
      refine x_r [(3, .call [(true, .any)] true (Bv true))] [0, 4, 5, 6, 35] [] [Sv s, Sv t, I n, I i, Bv false] [] [(0 : Int) ≤ i ∧ i < (t.size : Int), Con Tryz.prog 220 [.val (.int .u8 (bAt t i.toNat))] true (Bv true) ∧ True] ⟨⟨(by omega), (by omega)⟩, ⟨(con_bool h6 (l01Digit_ok (bAt t i.toNat))), trivial⟩, trivial⟩ ?_
      refine xe_then ?_
      refine x_false rfl ?_
      refine x_skip ?_
      refine xe_then ?_
      refine x_r [] [0, 4, 5, 6] [] [Sv s, Sv t, I ((10 * n) + ((bAt t i.toNat) - 48)), I i] [] [inR .i64 (10 * n), (0 : Int) ≤ i ∧ i < (t.size : Int), inR .u8 ((bAt t i.toNat) - 48), inR .i64 ((bAt t i.toNat) - 48), inR .i64 ((10 * n) + ((bAt t i.toNat) - 48))] ⟨(inR_i64 (by omega) (by omega)), ⟨(by omega), (by omega)⟩, (inR_u8 (by omega) (by omega)), (inR_i64 (by omega) (by omega)), (inR_i64 (by omega) (by omega)), trivial⟩ ?_
      refine xe_block 1 ?_
      refine xe_then ?_
      refine x_r [] [0, 4, 5, 6] [] [Sv s, Sv t, I ((10 * n) + ((bAt t i.toNat) - 48)), I (i + 1)] [] [inR .i64 (i + 1)] ⟨(inR_i64 (by omega) (by omega)), trivial⟩ ?_
      exact xe_again (((10 * n) + ((bAt t i.toNat) - 48)), (i + 1)) rfl (show (0 ≤ (i + 1) ∧ (i + 1) ≤ (t.size : Int)) ∧ (((10 * n) + ((bAt t i.toNat) - 48)) = ((valL 0 (t.data.toList.take (i + 1).toNat) : Nat) : Int)) ∧ (∀ j, j < (i + 1).toNat → 48 ≤ bAt t j ∧ bAt t j ≤ 57) ∧ True from ⟨(by omega), (by rw [hi1, hvs, ← hnv]), (by intro j hj; by_cases ej : j = i.toNat; (subst ej; exact hdq); exact hdg j (by omega)), trivial⟩) (by first | (show (((t.size : Int) - (i + 1)).toNat : Nat) < ((t.size : Int) - i).toNat; omega) | (dsimp only; omega))
     have hst := dcB_nodig hu (fun q => by have z := q (t.data.toList[i.toNat]'(by rw [ba_len]; exact hi)) (List.getElem_mem _); have y := bAt_nat hi; have w : inB (bAt t i.toNat) 48 57 = true := inB_iff.2 (by omega); rw [h6] at w; cases w)
     refine x_r [(3, .call [(true, .any)] true (Bv false))] [0, 4, 5, 6, 35] [] [Sv s, Sv t, I n, I i, Bv true] [] [(0 : Int) ≤ i ∧ i < (t.size : Int), Con Tryz.prog 220 [.val (.int .u8 (bAt t i.toNat))] true (Bv false) ∧ True] ⟨⟨(by omega), (by omega)⟩, ⟨(con_bool h6 (l01Digit_ok (bAt t i.toNat))), trivial⟩, trivial⟩ ?_
     refine xe_then ?_
     refine x_true rfl ?_
     refine xR [] [2, 3] [] [I 0, Bv false] [] [] trivial ?_
     refine x_ret ?_
     refine xe_ret_then (xe_ret_block (xe_ret_then (xe_loop_ret (xe_ret_block (xe_ret_then ?_)))))
     refine xe_end (0, false) (show (0 = dcN s) ∧ (false = dcB s) ∧ (True) from ⟨(by first | (rw [hst.2]; done) | (rw [hst.1]; done) | exact hst.2.symm | exact hst.1.symm), (by first | (rw [hst.2]; done) | (rw [hst.1]; done) | exact hst.2.symm | exact hst.1.symm), trivial⟩) (trivial) (.tup [I 0, Bv false]) (by kernel_rfl) (.inl rfl) (fun _ => rfl) (fun _ => (by simp [tagged, taggedL]))
    have hie : i.toNat = t.size := by omega
    have hall : allDig t.data.toList := by have q := allDig_take (k := t.size) (Nat.le_refl _) (fun j hj => hdg j (by omega)); rwa [← ba_len, List.take_length] at q
    have hav := valL_all hall (by omega)
    rw [hie, ← ba_len, List.take_length] at hnv
    have hp := unS_parse hu hall ⟨by omega, by omega⟩
    have hlt : 1 ≤ (Lib.trimPrefix s.data.toList [45]).length ∧ (Lib.trimPrefix s.data.toList [45]).length ≤ 18 := by rw [unS_trim hu, ba_len]; omega
    refine x_r [(3, .dec false)] [0, 4, 5, 6, 28] [] [Sv s, Sv t, I n, I i, Bv false] [] [¬ (i < (t.size : Int))] ⟨h5, trivial⟩ ?_
    refine xe_then ?_
    refine x_false rfl ?_
    refine x_exit ?_
    refine xe_exit_then ?_
    refine xe_loop_exit ?_
    refine xe_exit_same ?_
    refine xe_then ?_
    refine x_seq ?_
    refine x_seq ?_
    by_cases h7 : (t.size : Int) < (s.size : Int)
    ·rw [if_pos (by omega), ← hnv] at hp
     refine x_r [(4, .dec true)] [0, 5, 48] [] [Sv s, I n, Bv true] [] [(t.size : Int) < (s.size : Int)] ⟨h7, trivial⟩ ?_
     refine xe_then ?_
     refine x_true rfl ?_
     refine x_r [] [0, 5] [] [Sv s, I (-n)] [] [inR .i64 (-n)] ⟨(inR_i64 (by omega) (by omega)), trivial⟩ ?_
     refine xe_then ?_
     refine x_seq ?_
     refine x_seq ?_
     by_cases h8 : (decB (-n)) = s
     ·have hst := dcB_yes hp hlt h8
      refine x_r [(1, .call [(true, .any)] true (Sv (decB (-n)))), (3, .dec false)] [5, 54] [] [I (-n), Bv false] [] [Con Tryz.prog 179 [I (-n)] true (Sv (decB (-n))) ∧ True, ¬ ((decB (-n)) ≠ s)] ⟨⟨(l01Dec_ok (-n) (by omega)), trivial⟩, (fun hq => hq h8), trivial⟩ ?_
      refine xe_then ?_
      refine x_false rfl ?_
      refine x_skip ?_
      refine xe_then ?_
      refine xR [] [2, 3] [] [I (-n), Bv true] [] [] trivial ?_
      refine x_ret ?_
      refine xe_end ((-n), true) (show ((-n) = dcN s) ∧ (true = dcB s) ∧ (True) from ⟨(by first | (rw [hst.2]; done) | (rw [hst.1]; done) | exact hst.2.symm | exact hst.1.symm), (by first | (rw [hst.2]; done) | (rw [hst.1]; done) | exact hst.2.symm | exact hst.1.symm), trivial⟩) (trivial) (.tup [I (-n), Bv true]) (by kernel_rfl) (.inl rfl) (fun _ => rfl) (fun _ => (by simp [tagged, taggedL]))
     have hst := dcB_ne hp h8
     refine x_r [(1, .call [(true, .any)] true (Sv (decB (-n)))), (3, .dec true)] [5, 54] [] [I (-n), Bv true] [] [Con Tryz.prog 179 [I (-n)] true (Sv (decB (-n))) ∧ True, (decB (-n)) ≠ s] ⟨⟨(l01Dec_ok (-n) (by omega)), trivial⟩, h8, trivial⟩ ?_
     refine xe_then ?_
     refine x_true rfl ?_
     refine xR [] [2, 3] [] [I 0, Bv false] [] [] trivial ?_
     refine x_ret ?_
     refine xe_ret_then ?_
     refine xe_end (0, false) (show (0 = dcN s) ∧ (false = dcB s) ∧ (True) from ⟨(by first | (rw [hst.2]; done) | (rw [hst.1]; done) | exact hst.2.symm | exact hst.1.symm), (by first | (rw [hst.2]; done) | (rw [hst.1]; done) | exact hst.2.symm | exact hst.1.symm), trivial⟩) (trivial) (.tup [I 0, Bv false]) (by kernel_rfl) (.inl rfl) (fun _ => rfl) (fun _ => (by simp [tagged, taggedL]))
    rw [if_neg (by omega), ← hnv] at hp
    refine x_r [(4, .dec false)] [0, 5, 48] [] [Sv s, I n, Bv false] [] [¬ ((t.size : Int) < (s.size : Int))] ⟨h7, trivial⟩ ?_
    refine xe_then ?_
    refine x_false rfl ?_
    refine x_skip ?_
    refine xe_then ?_
    refine x_seq ?_
    refine x_seq ?_
    by_cases h9 : (decB n) = s
    ·have hst := dcB_yes hp hlt h9
     refine x_r [(1, .call [(true, .any)] true (Sv (decB n))), (3, .dec false)] [5, 54] [] [I n, Bv false] [] [Con Tryz.prog 179 [I n] true (Sv (decB n)) ∧ True, ¬ ((decB n) ≠ s)] ⟨⟨(l01Dec_ok n (by omega)), trivial⟩, (fun hq => hq h9), trivial⟩ ?_
     refine xe_then ?_
     refine x_false rfl ?_
     refine x_skip ?_
     refine xe_then ?_
     refine xR [] [2, 3] [] [I n, Bv true] [] [] trivial ?_
     refine x_ret ?_
     refine xe_end (n, true) (show (n = dcN s) ∧ (true = dcB s) ∧ (True) from ⟨(by first | (rw [hst.2]; done) | (rw [hst.1]; done) | exact hst.2.symm | exact hst.1.symm), (by first | (rw [hst.2]; done) | (rw [hst.1]; done) | exact hst.2.symm | exact hst.1.symm), trivial⟩) (trivial) (.tup [I n, Bv true]) (by kernel_rfl) (.inl rfl) (fun _ => rfl) (fun _ => (by simp [tagged, taggedL]))
    have hst := dcB_ne hp h9
    refine x_r [(1, .call [(true, .any)] true (Sv (decB n))), (3, .dec true)] [5, 54] [] [I n, Bv true] [] [Con Tryz.prog 179 [I n] true (Sv (decB n)) ∧ True, (decB n) ≠ s] ⟨⟨(l01Dec_ok n (by omega)), trivial⟩, h9, trivial⟩ ?_
    refine xe_then ?_
    refine x_true rfl ?_
    refine xR [] [2, 3] [] [I 0, Bv false] [] [] trivial ?_
    refine x_ret ?_
    refine xe_ret_then ?_
    refine xe_end (0, false) (show (0 = dcN s) ∧ (false = dcB s) ∧ (True) from ⟨(by first | (rw [hst.2]; done) | (rw [hst.1]; done) | exact hst.2.symm | exact hst.1.symm), (by first | (rw [hst.2]; done) | (rw [hst.1]; done) | exact hst.2.symm | exact hst.1.symm), trivial⟩) (trivial) (.tup [I 0, Bv false]) (by kernel_rfl) (.inl rfl) (fun _ => rfl) (fun _ => (by simp [tagged, taggedL]))
  obtain ⟨⟨v, c⟩, ⟨hh0, hh1, _⟩, hc⟩ := hh
  exact ⟨v, c, hh0, hh1, hc⟩


def ftOk (w : ByteArray) : Bool := decide ((splB ⟨#[44]⟩ w).length = 3) && (dcB (at_ (splB ⟨#[44]⟩ w) 0) && (dcB (at_ (splB ⟨#[44]⟩ w) 1) && dcB (at_ (splB ⟨#[44]⟩ w) 2)))
def l8R (s : ByteArray) : List Feat × Bool := if allN (splB ⟨#[32]⟩ s).length (fun j => ftOk (at_ (splB ⟨#[32]⟩ s) j)) = true then ((splB ⟨#[32]⟩ s).map (fun w => rdFt (dcsN w)), okFeats ((splB ⟨#[32]⟩ s).map (fun w => rdFt (dcsN w))) 384) else ([], false)
theorem at_mapB {α β : Type} [Inhabited α] [Inhabited β] {xs : List α} {f : α → β} {k : Nat} (h : k < xs.length) : at_ (xs.map f) k = f (at_ xs k) := by simp [at_, h]
theorem rdFt_at {w : ByteArray} (h : (splB ⟨#[44]⟩ w).length = 3) : rdFt (dcsN w) = ⟨dcN (at_ (splB ⟨#[44]⟩ w) 0), dcN (at_ (splB ⟨#[44]⟩ w) 1), dcN (at_ (splB ⟨#[44]⟩ w) 2)⟩ := by
  unfold rdFt dcsN
  rw [at_mapB (by omega), at_mapB (by omega), at_mapB (by omega)]
theorem l8_yes {s : ByteArray} (h : allN (splB ⟨#[32]⟩ s).length (fun j => ftOk (at_ (splB ⟨#[32]⟩ s) j)) = true) : l8R s = ((splB ⟨#[32]⟩ s).map (fun w => rdFt (dcsN w)), okFeats ((splB ⟨#[32]⟩ s).map (fun w => rdFt (dcsN w))) 384) := if_pos h
theorem l8_no {s : ByteArray} (h : allN (splB ⟨#[32]⟩ s).length (fun j => ftOk (at_ (splB ⟨#[32]⟩ s) j)) = false) : l8R s = ([], false) := by simp [l8R, h]
def rdfS (s : ByteArray) : List Feat × Bool := if (l8R s).2 = true then ((l8R s).1, true) else ([], false)

-- spec.l08Read
theorem l08Read_ok (s : ByteArray) (hz : s.size ≤ 100000) : ∃ (v : List Feat) (c : Bool), (v = (l8R s).1) ∧ (c = (l8R s).2) ∧ Con Tryz.prog 108 [Sv s] true (.tup [slFeat true v, Bv c]) := by
  have hh : ∃ r : (List Feat) × Bool, ((r.1 = (l8R s).1) ∧ (r.2 = (l8R s).2) ∧ (True)) ∧ CallOK Tryz.prog 108 [Sv s] (lookO []) true (.tup [slFeat true r.1, Bv r.2]) (lookO []) := by
    refine fn_okX (Φ := fun r : (List Feat) × Bool => (r.1 = (l8R s).1) ∧ (r.2 = (l8R s).2) ∧ (True)) [] (fun r => []) (fn := Tryz.f108) (nt := 72) Tryz.func108 rfl rfl (args := [Sv s]) rfl (allcons (.inl ⟨rfl, trivial⟩) allnil) (res := fun r => .tup [slFeat true r.1, Bv r.2]) ?_
    refine xR [] [0] [] [Sv s] [] [] trivial ?_
    refine x_seq ?_
    obtain ⟨v_1, hx1_0, hc1⟩ := l01Split_ok s 32 (by omega) (by omega)
    have hwv : v_1 = splB ⟨#[32]⟩ s := hx1_0
    refine x_r [(1, .call [(true, .any), (true, .any)] true (slS true v_1))] [4] [] [slS true v_1] [] [Con Tryz.prog 182 [Sv s, .val (.int .u8 32)] true (slS true v_1) ∧ True] ⟨⟨hc1, trivial⟩, trivial⟩ ?_
    refine xe_then ?_
    refine xR [(0, .new 16)] [4, 5] [16] [slS true v_1, .arr 16] [some (.arr 3 0 (litF [] 3))] [] trivial ?_
    refine x_seq ?_
    refine xR [] [4, 5, 6] [16] [slS true v_1, .arr 16, I 0] [some (.arr 3 0 (litF [] 3))] [] trivial ?_
    refine x_block ?_
    refine x_weak [] (T := [(4, slS true v_1), (5, .arr 16), (6, I 0)]) (O := [(16, tAFeat ([] : List Feat))]) rfl (⟨.inl rfl, .inl rfl, .inl rfl, trivial⟩) (⟨.inr ⟨rfl, (by first | rfl | (simp; done) | (simp; omega) | omega), fun i_ hi_ => absurd hi_ (Nat.not_lt_zero _)⟩, trivial⟩) ?_
    refine x_loop (X := (List Feat) × Int) (fun x => mkS [(4, slS true v_1), (5, .arr 16), (6, I x.2)] [(16, tAFeat x.1)]) (fun x => (0 ≤ x.2 ∧ x.2 ≤ ((splB ⟨#[32]⟩ s).length : Int)) ∧ (∀ j : Nat, (j : Int) < x.2 → ftOk (at_ (splB ⟨#[32]⟩ s) j) = true) ∧ (x.1 = ((splB ⟨#[32]⟩ s).take x.2.toNat).map fun w => rdFt (dcsN w)) ∧ True) (fun x => (((splB ⟨#[32]⟩ s).length : Int) - x.2).toNat) (([] : List Feat), 0) rfl (show (0 ≤ (0 : Int) ∧ (0 : Int) ≤ ((splB ⟨#[32]⟩ s).length : Int)) ∧ (∀ j : Nat, (j : Int) < (0 : Int) → ftOk (at_ (splB ⟨#[32]⟩ s) j) = true) ∧ (([] : List Feat) = ((splB ⟨#[32]⟩ s).take (0 : Int).toNat).map fun w => rdFt (dcsN w)) ∧ True from ⟨(by omega), (by intro j hj; omega), (by rfl), trivial⟩) (fun x hI => ?_)
    obtain ⟨out, i⟩ := x
    obtain ⟨hi0, hall0, hs0, _⟩ : (0 ≤ i ∧ i ≤ ((splB ⟨#[32]⟩ s).length : Int)) ∧ (∀ j : Nat, (j : Int) < i → ftOk (at_ (splB ⟨#[32]⟩ s) j) = true) ∧ (out = ((splB ⟨#[32]⟩ s).take i.toNat).map fun w => rdFt (dcsN w)) ∧ True := hI
    show XW _ _ _ _ (mkS [(4, slS true v_1), (5, .arr 16), (6, I i)] [(16, tAFeat out)]) _ _
    refine x_seq ?_
    refine x_seq ?_
    by_cases h1 : i < (v_1.length : Int)
    ·have hi : i.toNat < (splB ⟨#[32]⟩ s).length := by rw [← hwv]; omega
     have hiw : i.toNat < v_1.length := by omega
     have hwm : (at_ v_1 i.toNat).size ≤ s.size := by rw [hwv]; exact splB_piece (at_mem hi)
     have hbb : out.length = i.toNat := by rw [hs0]; simp; omega
     have hsl := splB_len 32 s
     refine x_r [(3, .dec true)] [4, 5, 6, 20] [16] [slS true v_1, .arr 16, I i, Bv true] [some (tAFeat out)] [i < (v_1.length : Int)] ⟨h1, trivial⟩ ?_
     refine xe_then ?_
     refine x_true rfl ?_
     refine x_skip ?_
     refine xe_then ?_
     refine x_seq ?_
     refine x_block ?_
     refine x_seq ?_
     obtain ⟨v_2, hx2_0, hc2⟩ := l01Split_ok (at_ v_1 i.toNat) 44 (by omega) (by omega)
     have hpv : v_2 = splB ⟨#[44]⟩ (at_ (splB ⟨#[32]⟩ s) i.toNat) := by rw [hx2_0, hwv]; rfl
     refine x_r [(4, .call [(true, .any), (true, .any)] true (slS true v_2))] [4, 5, 6, 7] [16] [slS true v_1, .arr 16, I i, slS true v_2] [some (tAFeat out)] [(0 : Int) ≤ i ∧ i < (v_1.length : Int), Con Tryz.prog 182 [Sv (at_ v_1 i.toNat), .val (.int .u8 44)] true (slS true v_2) ∧ True] ⟨⟨(by omega), (by omega)⟩, ⟨hc2, trivial⟩, trivial⟩ ?_
     refine xe_then ?_
     refine x_seq ?_
     refine x_seq ?_
     by_cases h2 : (v_2.length : Int) = 3
     ·refine x_r [(2, .dec false)] [4, 5, 6, 7, 30] [16] [slS true v_1, .arr 16, I i, slS true v_2, Bv false] [some (tAFeat out)] [¬ ((v_2.length : Int) ≠ 3)] ⟨(fun hq => hq h2), trivial⟩ ?_
      refine xe_then ?_
      refine x_false rfl ?_
      refine x_skip ?_
      refine xe_then ?_
      refine x_seq ?_
      obtain ⟨v_3, c_3, hx3_0, hx3_1, hc3⟩ := l01Number_ok (at_ v_2 0) (by have hq : at_ v_2 0 ∈ splB ⟨#[44]⟩ (at_ (splB ⟨#[32]⟩ s) i.toNat) := (by rw [← hpv]; exact at_mem (by omega)); have hq2 := splB_piece hq; rw [hwv] at hwm; omega)
      refine x_r [(3, .call [(true, .any)] true (.tup [I v_3, Bv c_3]))] [4, 5, 6, 7, 8, 9] [16] [slS true v_1, .arr 16, I i, slS true v_2, I v_3, Bv c_3] [some (tAFeat out)] [(0 : Int) ≤ 0 ∧ 0 < (v_2.length : Int), Con Tryz.prog 183 [Sv (at_ v_2 0)] true (.tup [I v_3, Bv c_3]) ∧ True] ⟨⟨(by omega), (by omega)⟩, ⟨hc3, trivial⟩, trivial⟩ ?_
      refine xe_then ?_
      refine x_seq ?_
      obtain ⟨v_4, c_4, hx4_0, hx4_1, hc4⟩ := l01Number_ok (at_ v_2 1) (by have hq : at_ v_2 1 ∈ splB ⟨#[44]⟩ (at_ (splB ⟨#[32]⟩ s) i.toNat) := (by rw [← hpv]; exact at_mem (by omega)); have hq2 := splB_piece hq; rw [hwv] at hwm; omega)
      refine x_r [(3, .call [(true, .any)] true (.tup [I v_4, Bv c_4]))] [4, 5, 6, 7, 8, 9, 10, 11] [16] [slS true v_1, .arr 16, I i, slS true v_2, I v_3, Bv c_3, I v_4, Bv c_4] [some (tAFeat out)] [(0 : Int) ≤ 1 ∧ 1 < (v_2.length : Int), Con Tryz.prog 183 [Sv (at_ v_2 1)] true (.tup [I v_4, Bv c_4]) ∧ True] ⟨⟨(by omega), (by omega)⟩, ⟨hc4, trivial⟩, trivial⟩ ?_
      refine xe_then ?_
      refine x_seq ?_
      obtain ⟨v_5, c_5, hx5_0, hx5_1, hc5⟩ := l01Number_ok (at_ v_2 2) (by have hq : at_ v_2 2 ∈ splB ⟨#[44]⟩ (at_ (splB ⟨#[32]⟩ s) i.toNat) := (by rw [← hpv]; exact at_mem (by omega)); have hq2 := splB_piece hq; rw [hwv] at hwm; omega)
      refine x_r [(3, .call [(true, .any)] true (.tup [I v_5, Bv c_5]))] [4, 5, 6, 8, 9, 10, 11, 12, 13] [16] [slS true v_1, .arr 16, I i, I v_3, Bv c_3, I v_4, Bv c_4, I v_5, Bv c_5] [some (tAFeat out)] [(0 : Int) ≤ 2 ∧ 2 < (v_2.length : Int), Con Tryz.prog 183 [Sv (at_ v_2 2)] true (.tup [I v_5, Bv c_5]) ∧ True] ⟨⟨(by omega), (by omega)⟩, ⟨hc5, trivial⟩, trivial⟩ ?_
      refine xe_then ?_
      refine x_seq ?_
      refine x_seq ?_
      rcases Bool.eq_false_or_eq_true c_3 with h3 | h3
      ·subst h3
       rcases Bool.eq_false_or_eq_true c_4 with h4 | h4
       ·subst h4
        rcases Bool.eq_false_or_eq_true c_5 with h5 | h5
        ·subst h5
         refine x_r [] [4, 5, 6, 8, 10, 12, 61] [16] [slS true v_1, .arr 16, I i, I v_3, I v_4, I v_5, Bv false] [some (tAFeat out)] [] trivial ?_
         refine xe_then ?_
         refine x_false rfl ?_
         refine x_skip ?_
         refine xe_then ?_
         refine x_r [(5, .new 67), (6, .new 68)] [4, 5, 6] [68] [slS true v_1, .arr 68, I i] [some (.arr 3 (out.length + 1) (catF out.length (fFeat out) (litF [I v_3, I v_4, I v_5] 3)))] [(out.length + 1) * 24 ≤ 140737488355328] ⟨(by omega), trivial⟩ ?_
         refine xe_block 1 ?_
         refine xe_then ?_
         refine x_r [] [4, 5, 6] [68] [slS true v_1, .arr 68, I (i + 1)] [some (.arr 3 (out.length + 1) (catF out.length (fFeat out) (litF [I v_3, I v_4, I v_5] 3)))] [inR .i64 (i + 1)] ⟨(inR_i64 (by omega) (by omega)), trivial⟩ ?_
         have h3 : (splB ⟨#[44]⟩ (at_ (splB ⟨#[32]⟩ s) i.toNat)).length = 3 := by rw [← hpv]; omega
         have hokj : ftOk (at_ (splB ⟨#[32]⟩ s) i.toNat) = true := by rw [ftOk, ← hpv]; rw [decide_eq_true (by omega)]; simp [← hx3_1, ← hx4_1, ← hx5_1]
         refine xe_weak [(16, 68)] (T := [(4, slS true v_1), (5, .arr 16), (6, I (i + 1))]) (O := [(16, tAFeat (out ++ [(Feat.mk v_3 v_4 v_5)]))]) rfl (⟨.inl rfl, .inl rfl, .inl rfl, trivial⟩) (⟨.inr ⟨rfl, (by first | rfl | (simp; done) | (simp; omega) | omega), fun i_ hi_ => .inl (cat_snoc (enc := cFeat) (xs := out) rfl i_ hi_)⟩, trivial⟩) (xe_again ((out ++ [(Feat.mk v_3 v_4 v_5)]), (i + 1)) rfl (show (0 ≤ (i + 1) ∧ (i + 1) ≤ ((splB ⟨#[32]⟩ s).length : Int)) ∧ (∀ j : Nat, (j : Int) < (i + 1) → ftOk (at_ (splB ⟨#[32]⟩ s) j) = true) ∧ ((out ++ [(Feat.mk v_3 v_4 v_5)]) = ((splB ⟨#[32]⟩ s).take (i + 1).toNat).map fun w => rdFt (dcsN w)) ∧ True from ⟨(by omega), (by intro j hj; by_cases ej : j = i.toNat; (subst ej; exact hokj); exact hall0 j (by omega)), (by rw [hs0]; exact (mapTake_succ (by omega) hi (by rw [rdFt_at h3, ← hpv]; simp only [*])).symm), trivial⟩) (by first | (show ((((splB ⟨#[32]⟩ s).length : Int) - (i + 1)).toNat : Nat) < (((splB ⟨#[32]⟩ s).length : Int) - i).toNat; omega) | (dsimp only; omega)))
        subst h5
        refine x_r [] [4, 5, 6, 8, 10, 12, 61] [16] [slS true v_1, .arr 16, I i, I v_3, I v_4, I v_5, Bv true] [some (tAFeat out)] [] trivial ?_
        refine xe_then ?_
        refine x_true rfl ?_
        refine xR [] [2, 3] [] [nilA, Bv false] [] [] trivial ?_
        refine x_ret ?_
        refine xe_ret_then (xe_ret_block (xe_ret_then (xe_loop_ret (xe_ret_block (xe_ret_then ?_)))))
        refine xe_end (([] : List Feat), false) (show (([] : List Feat) = (l8R s).1) ∧ (false = (l8R s).2) ∧ (True) from ⟨(by first | (rw [hst]; done) | (rw [hst]; exact hfin) | (rw [hst, hfin]; done) | (rw [l8_no (allN_not hi (by rw [ftOk, ← hpv]; rw [decide_eq_false (by omega)]; rfl))]; done) | (rw [l8_no (allN_not hi (by rw [ftOk, ← hpv]; simp_all))]; done)), (by first | (rw [hst]; done) | (rw [hst]; exact hfin) | (rw [hst, hfin]; done) | (rw [l8_no (allN_not hi (by rw [ftOk, ← hpv]; rw [decide_eq_false (by omega)]; rfl))]; done) | (rw [l8_no (allN_not hi (by rw [ftOk, ← hpv]; simp_all))]; done)), trivial⟩) (trivial) (.tup [nilA, Bv false]) (by kernel_rfl) (.inr ⟨⟨rfl, rfl⟩, ⟨rfl, rfl⟩⟩) (fun _ => rfl) (fun _ => (by simp [tagged, taggedL, tagFeat]))
       subst h4
       refine x_r [] [4, 5, 6, 8, 10, 12, 61] [16] [slS true v_1, .arr 16, I i, I v_3, I v_4, I v_5, Bv true] [some (tAFeat out)] [] trivial ?_
       refine xe_then ?_
       refine x_true rfl ?_
       refine xR [] [2, 3] [] [nilA, Bv false] [] [] trivial ?_
       refine x_ret ?_
       refine xe_ret_then (xe_ret_block (xe_ret_then (xe_loop_ret (xe_ret_block (xe_ret_then ?_)))))
       refine xe_end (([] : List Feat), false) (show (([] : List Feat) = (l8R s).1) ∧ (false = (l8R s).2) ∧ (True) from ⟨(by first | (rw [hst]; done) | (rw [hst]; exact hfin) | (rw [hst, hfin]; done) | (rw [l8_no (allN_not hi (by rw [ftOk, ← hpv]; rw [decide_eq_false (by omega)]; rfl))]; done) | (rw [l8_no (allN_not hi (by rw [ftOk, ← hpv]; simp_all))]; done)), (by first | (rw [hst]; done) | (rw [hst]; exact hfin) | (rw [hst, hfin]; done) | (rw [l8_no (allN_not hi (by rw [ftOk, ← hpv]; rw [decide_eq_false (by omega)]; rfl))]; done) | (rw [l8_no (allN_not hi (by rw [ftOk, ← hpv]; simp_all))]; done)), trivial⟩) (trivial) (.tup [nilA, Bv false]) (by kernel_rfl) (.inr ⟨⟨rfl, rfl⟩, ⟨rfl, rfl⟩⟩) (fun _ => rfl) (fun _ => (by simp [tagged, taggedL, tagFeat]))
      subst h3
      refine x_r [] [4, 5, 6, 8, 10, 12, 61] [16] [slS true v_1, .arr 16, I i, I v_3, I v_4, I v_5, Bv true] [some (tAFeat out)] [] trivial ?_
      refine xe_then ?_
      refine x_true rfl ?_
      refine xR [] [2, 3] [] [nilA, Bv false] [] [] trivial ?_
      refine x_ret ?_
      refine xe_ret_then (xe_ret_block (xe_ret_then (xe_loop_ret (xe_ret_block (xe_ret_then ?_)))))
      refine xe_end (([] : List Feat), false) (show (([] : List Feat) = (l8R s).1) ∧ (false = (l8R s).2) ∧ (True) from ⟨(by first | (rw [hst]; done) | (rw [hst]; exact hfin) | (rw [hst, hfin]; done) | (rw [l8_no (allN_not hi (by rw [ftOk, ← hpv]; rw [decide_eq_false (by omega)]; rfl))]; done) | (rw [l8_no (allN_not hi (by rw [ftOk, ← hpv]; simp_all))]; done)), (by first | (rw [hst]; done) | (rw [hst]; exact hfin) | (rw [hst, hfin]; done) | (rw [l8_no (allN_not hi (by rw [ftOk, ← hpv]; rw [decide_eq_false (by omega)]; rfl))]; done) | (rw [l8_no (allN_not hi (by rw [ftOk, ← hpv]; simp_all))]; done)), trivial⟩) (trivial) (.tup [nilA, Bv false]) (by kernel_rfl) (.inr ⟨⟨rfl, rfl⟩, ⟨rfl, rfl⟩⟩) (fun _ => rfl) (fun _ => (by simp [tagged, taggedL, tagFeat]))
     refine x_r [(2, .dec true)] [4, 5, 6, 7, 30] [16] [slS true v_1, .arr 16, I i, slS true v_2, Bv true] [some (tAFeat out)] [(v_2.length : Int) ≠ 3] ⟨h2, trivial⟩ ?_
     refine xe_then ?_
     refine x_true rfl ?_
     refine xR [] [2, 3] [] [nilA, Bv false] [] [] trivial ?_
     refine x_ret ?_
     refine xe_ret_then (xe_ret_block (xe_ret_then (xe_loop_ret (xe_ret_block (xe_ret_then ?_)))))
     refine xe_end (([] : List Feat), false) (show (([] : List Feat) = (l8R s).1) ∧ (false = (l8R s).2) ∧ (True) from ⟨(by first | (rw [hst]; done) | (rw [hst]; exact hfin) | (rw [hst, hfin]; done) | (rw [l8_no (allN_not hi (by rw [ftOk, ← hpv]; rw [decide_eq_false (by omega)]; rfl))]; done) | (rw [l8_no (allN_not hi (by rw [ftOk, ← hpv]; simp_all))]; done)), (by first | (rw [hst]; done) | (rw [hst]; exact hfin) | (rw [hst, hfin]; done) | (rw [l8_no (allN_not hi (by rw [ftOk, ← hpv]; rw [decide_eq_false (by omega)]; rfl))]; done) | (rw [l8_no (allN_not hi (by rw [ftOk, ← hpv]; simp_all))]; done)), trivial⟩) (trivial) (.tup [nilA, Bv false]) (by kernel_rfl) (.inr ⟨⟨rfl, rfl⟩, ⟨rfl, rfl⟩⟩) (fun _ => rfl) (fun _ => (by simp [tagged, taggedL, tagFeat]))
    have hok : allN (splB ⟨#[32]⟩ s).length (fun j => ftOk (at_ (splB ⟨#[32]⟩ s) j)) = true := allN_at (fun j hj => hall0 j (by rw [hwv] at *; omega))
    have hst := l8_yes hok
    have hfin : out = (splB ⟨#[32]⟩ s).map fun w => rdFt (dcsN w) := by rw [hs0]; exact map_all (by rw [← hwv]; omega)
    refine x_r [(3, .dec false)] [4, 5, 6, 20] [16] [slS true v_1, .arr 16, I i, Bv false] [some (tAFeat out)] [¬ (i < (v_1.length : Int))] ⟨h1, trivial⟩ ?_
    refine xe_then ?_
    refine x_false rfl ?_
    refine x_exit ?_
    refine xe_exit_then ?_
    refine xe_loop_exit ?_
    refine xe_exit_same ?_
    refine xe_then ?_
    refine xR [(2, .call [(false, slFeat false out)] true (Bv (okFeats out 384)))] [2, 3] [16] [.arr 16, Bv (okFeats out 384)] [some (tAFeat out)] [Con Tryz.prog 99 [slFeat false out] true (Bv (okFeats out 384)) ∧ ((false = true → true = true) ∧ 3 = 3 ∧ out.length = out.length ∧ ∀ i_, i_ < out.length → (fFeat out) i_ = (fFeat out) i_ ∨ (AV.idsL ((fFeat out) i_) = [] ∧ leL (fun _ => none) false ((fFeat out) i_) ((fFeat out) i_))) ∧ True] ⟨⟨(l08Ok_ok out), ⟨(fun h => by cases h), rfl, rfl, fun i _ => .inl rfl⟩, trivial⟩, trivial⟩ ?_
    refine x_ret ?_
    refine xe_end (out, okFeats out 384) (show (out = (l8R s).1) ∧ ((okFeats out 384) = (l8R s).2) ∧ (True) from ⟨(by first | (rw [hst]; done) | (rw [hst]; exact hfin) | (rw [hst, hfin]; done) | (rw [l8_no (allN_not hi (by rw [ftOk, ← hpv]; rw [decide_eq_false (by omega)]; rfl))]; done) | (rw [l8_no (allN_not hi (by rw [ftOk, ← hpv]; simp_all))]; done)), (by first | (rw [hst]; done) | (rw [hst]; exact hfin) | (rw [hst, hfin]; done) | (rw [l8_no (allN_not hi (by rw [ftOk, ← hpv]; rw [decide_eq_false (by omega)]; rfl))]; done) | (rw [l8_no (allN_not hi (by rw [ftOk, ← hpv]; simp_all))]; done)), trivial⟩) (trivial) (.tup [.arr 16, Bv (okFeats out 384)]) (by kernel_rfl) (.inr ⟨⟨(fun _ => rfl), rfl, rfl, fun i _ => .inl rfl⟩, ⟨rfl, rfl⟩⟩) (fun _ => rfl) (fun _ => (by simp [tagged, taggedL, tagFeat]))
  obtain ⟨⟨v, c⟩, ⟨hh0, hh1, _⟩, hc⟩ := hh
  exact ⟨v, c, hh0, hh1, hc⟩


-- spec.ReadFeats
theorem specReadFeats_ok (s : ByteArray) (hz : s.size ≤ 100000) : ∃ (v : List Feat) (c : Bool), (v = (rdfS s).1) ∧ (c = (rdfS s).2) ∧ Con Tryz.prog 42 [Sv s] true (.tup [slFeat true v, Bv c]) := by
  have hh : ∃ r : (List Feat) × Bool, ((r.1 = (rdfS s).1) ∧ (r.2 = (rdfS s).2) ∧ (True)) ∧ CallOK Tryz.prog 42 [Sv s] (lookO []) true (.tup [slFeat true r.1, Bv r.2]) (lookO []) := by
    refine fn_okX (Φ := fun r : (List Feat) × Bool => (r.1 = (rdfS s).1) ∧ (r.2 = (rdfS s).2) ∧ (True)) [] (fun r => []) (fn := Tryz.f42) (nt := 14) Tryz.func42 rfl rfl (args := [Sv s]) rfl (allcons (.inl ⟨rfl, trivial⟩) allnil) (res := fun r => .tup [slFeat true r.1, Bv r.2]) ?_
    refine xR [] [0] [] [Sv s] [] [] trivial ?_
    refine x_seq ?_
    obtain ⟨v_1, c_1, hx1_0, hx1_1, hc1⟩ := l08Read_ok s (by omega)
    refine x_r [(1, .call [(true, .any)] true (.tup [slFeat true v_1, Bv c_1]))] [4, 5] [] [slFeat true v_1, Bv c_1] [] [Con Tryz.prog 108 [Sv s] true (.tup [slFeat true v_1, Bv c_1]) ∧ True] ⟨⟨hc1, trivial⟩, trivial⟩ ?_
    refine xe_then ?_
    refine x_seq ?_
    refine x_seq ?_
    rcases Bool.eq_false_or_eq_true c_1 with h1 | h1
    ·subst h1
     refine x_r [] [4, 12] [] [slFeat true v_1, Bv false] [] [] trivial ?_
     refine xe_then ?_
     refine x_false rfl ?_
     refine x_skip ?_
     refine xe_then ?_
     refine xR [] [2, 3] [] [slFeat true v_1, Bv true] [] [] trivial ?_
     refine x_ret ?_
     refine xe_end (v_1, true) (show (v_1 = (rdfS s).1) ∧ (true = (rdfS s).2) ∧ (True) from ⟨(by first | (rw [rdfS, if_pos hx1_1.symm]; exact hx1_0) | (rw [rdfS, if_pos hx1_1.symm]; done) | (rw [rdfS, if_neg (by rw [← hx1_1]; decide)]; done)), (by first | (rw [rdfS, if_pos hx1_1.symm]; exact hx1_0) | (rw [rdfS, if_pos hx1_1.symm]; done) | (rw [rdfS, if_neg (by rw [← hx1_1]; decide)]; done)), trivial⟩) (trivial) (.tup [slFeat true v_1, Bv true]) (by kernel_rfl) (.inl rfl) (fun _ => rfl) (fun _ => (by simp [tagged, taggedL, tagFeat]))
    subst h1
    refine x_r [] [4, 12] [] [slFeat true v_1, Bv true] [] [] trivial ?_
    refine xe_then ?_
    refine x_true rfl ?_
    refine xR [] [2, 3] [] [nilA, Bv false] [] [] trivial ?_
    refine x_ret ?_
    refine xe_ret_then ?_
    refine xe_end (([] : List Feat), false) (show (([] : List Feat) = (rdfS s).1) ∧ (false = (rdfS s).2) ∧ (True) from ⟨(by first | (rw [rdfS, if_pos hx1_1.symm]; exact hx1_0) | (rw [rdfS, if_pos hx1_1.symm]; done) | (rw [rdfS, if_neg (by rw [← hx1_1]; decide)]; done)), (by first | (rw [rdfS, if_pos hx1_1.symm]; exact hx1_0) | (rw [rdfS, if_pos hx1_1.symm]; done) | (rw [rdfS, if_neg (by rw [← hx1_1]; decide)]; done)), trivial⟩) (trivial) (.tup [nilA, Bv false]) (by kernel_rfl) (.inr ⟨⟨rfl, rfl⟩, ⟨rfl, rfl⟩⟩) (fun _ => rfl) (fun _ => (by simp [tagged, taggedL, tagFeat]))
  obtain ⟨⟨v, c⟩, ⟨hh0, hh1, _⟩, hc⟩ := hh
  exact ⟨v, c, hh0, hh1, hc⟩


theorem feat_ext {a b : Feat} (h1 : a.X = b.X) (h2 : a.Y = b.Y) (h3 : a.D = b.D) : a = b := by
  cases a; cases b; simp_all

-- spec.l08Same
theorem l08Same_ok (a : List Feat) (b : List Feat) : Con Tryz.prog 109 [slFeat false a, slFeat false b] true (Bv (sameL a b)) := by
  refine fn_ok (fn := Tryz.f109) (nt := 26) Tryz.func109 rfl rfl rfl rfl (by simp [taggedL, tagged, tagFeat]) fun B hB => ?_
  refine aw_lens (x := slFeat false a) 0 rfl (fun len_a => ?_)
  simp [LenOK, LenL, cFeat, fFeat, slFeat] at len_a
  refine aw_lens (x := slFeat false b) 1 rfl (fun len_b => ?_)
  simp [LenOK, LenL, cFeat, fFeat, slFeat] at len_b
  refine aR [] [0, 1] [] [slFeat false a, slFeat false b] [] [] hB trivial ?_
  refine aw_seq ?_
  refine aw_seq ?_
  by_cases h1 : (a.length : Int) = (b.length : Int)
  ·have hlen : a.length = b.length := by omega
   refine aw_r [(4, .dec false)] [0, 1, 10] [] [slFeat false a, slFeat false b, Bv false] [] [¬ ((a.length : Int) ≠ (b.length : Int))] hB ⟨(fun hq => hq h1), trivial⟩ ?_
   refine ae_then ?_
   refine aw_false rfl ?_
   refine aw_skip ?_
   refine ae_then ?_
   refine aw_seq ?_
   refine aR [] [0, 1, 5] [] [slFeat false a, slFeat false b, I 0] [] [] hB trivial ?_
   refine aw_block ?_
   refine aw_loop (fun gn gσ => ∃ (i : Int), gn = ((a.length : Int) - i).toNat ∧ (0 ≤ i ∧ i ≤ (a.length : Int)) ∧ (∀ j : Nat, (j : Int) < i → decide (at_ a j = at_ b j) = true) ∧ gσ = mkS [(0, slFeat false a), (1, slFeat false b), (5, I i)] []) (((a.length : Int) - 0).toNat) ⟨0, rfl, (by omega), (by intro j hj; omega), rfl⟩ (fun gn gσ hI => ?_)
   obtain ⟨i, rfl, hi0, hall0, rfl⟩ := hI
   refine aw_seq ?_
   refine aw_seq ?_
   by_cases h2 : i < (a.length : Int)
   ·have hi : i.toNat < a.length := by omega
    refine aw_r [(3, .dec true)] [0, 1, 5, 14] [] [slFeat false a, slFeat false b, I i, Bv true] [] [i < (a.length : Int)] hB ⟨h2, trivial⟩ ?_
    refine ae_then ?_
    refine aw_true rfl ?_
    refine aw_skip ?_
    refine ae_then ?_
    refine aw_seq ?_
    refine aw_block ?_
    refine aw_seq ?_
    by_cases h3 : ((at_ a i.toNat).X) = ((at_ b i.toNat).X) ∧ ((at_ a i.toNat).Y) = ((at_ b i.toNat).Y) ∧ ((at_ a i.toNat).D) = ((at_ b i.toNat).D) ∧ True
    ·have hok : decide (at_ a i.toNat = at_ b i.toNat) = true := decide_eq_true (feat_ext h3.1 h3.2.1 h3.2.2.1)
     refine aw_r [(8, .dec false)] [0, 1, 5, 25] [] [slFeat false a, slFeat false b, I i, Bv false] [] [(0 : Int) ≤ i ∧ i < (a.length : Int), (0 : Int) ≤ i ∧ i < (b.length : Int), ¬ (¬ (((at_ a i.toNat).X) = ((at_ b i.toNat).X) ∧ ((at_ a i.toNat).Y) = ((at_ b i.toNat).Y) ∧ ((at_ a i.toNat).D) = ((at_ b i.toNat).D) ∧ True))] hB ⟨⟨(by omega), (by omega)⟩, ⟨(by omega), (by omega)⟩, (fun hq => hq h3), trivial⟩ ?_
     refine ae_then ?_
     refine aw_false rfl ?_
     refine aw_skip ?_
     refine ae_block 1 ?_
     refine ae_then ?_
     refine aw_r [] [0, 1, 5] [] [slFeat false a, slFeat false b, I (i + 1)] [] [inR .i64 (i + 1)] hB ⟨(inR_i64 (by omega) (by omega)), trivial⟩ ?_
     exact ae_again _ (by omega) ⟨(i + 1), rfl, (by omega), (by intro j hj; by_cases ej : j = i.toNat; (subst ej; first | assumption | exact hok); exact hall0 j (by omega)), rfl⟩
    have hall : allN a.length (fun j => decide (at_ a j = at_ b j)) = false := allN_not hi (decide_eq_false (fun e => h3 ⟨by rw [e], by rw [e], by rw [e], trivial⟩))
    refine aw_r [(8, .dec true)] [0, 1, 5, 25] [] [slFeat false a, slFeat false b, I i, Bv true] [] [(0 : Int) ≤ i ∧ i < (a.length : Int), (0 : Int) ≤ i ∧ i < (b.length : Int), ¬ (((at_ a i.toNat).X) = ((at_ b i.toNat).X) ∧ ((at_ a i.toNat).Y) = ((at_ b i.toNat).Y) ∧ ((at_ a i.toNat).D) = ((at_ b i.toNat).D) ∧ True)] hB ⟨⟨(by omega), (by omega)⟩, ⟨(by omega), (by omega)⟩, h3, trivial⟩ ?_
    refine ae_then ?_
    refine aw_true rfl ?_
    refine aR [] [4] [] [Bv false] [] [] hB trivial ?_
    refine aw_ret ?_
    refine ae_ret_block (ae_ret_then (ae_ret_then (ae_ret_block (ae_ret_then ?_))))
    refine ae_ret hB (Bv false) (by kernel_rfl) (.inl (by first | (simp [sameL, hlen]; done) | (unfold sameL; rw [hall]; simp [hlen]))) rfl (fun _ => trivial)
   have hall : allN a.length (fun j => decide (at_ a j = at_ b j)) = true := allN_at (fun j hj => hall0 j (by omega))
   refine aw_r [(3, .dec false)] [0, 1, 5, 14] [] [slFeat false a, slFeat false b, I i, Bv false] [] [¬ (i < (a.length : Int))] hB ⟨h2, trivial⟩ ?_
   refine ae_then ?_
   refine aw_false rfl ?_
   refine aw_exit ?_
   refine ae_exit_then ?_
   refine ae_exit_then ?_
   refine ae_exit_same ?_
   refine ae_then ?_
   refine aR [] [4] [] [Bv true] [] [] hB trivial ?_
   refine aw_ret ?_
   refine ae_ret hB (Bv true) (by kernel_rfl) (.inl (by first | (simp [sameL, hlen]; done) | (unfold sameL; rw [hall]; simp [hlen]))) rfl (fun _ => trivial)
  have hlen : ¬ a.length = b.length := by omega
  refine aw_r [(4, .dec true)] [0, 1, 10] [] [slFeat false a, slFeat false b, Bv true] [] [(a.length : Int) ≠ (b.length : Int)] hB ⟨h1, trivial⟩ ?_
  refine ae_then ?_
  refine aw_true rfl ?_
  refine aR [] [4] [] [Bv false] [] [] hB trivial ?_
  refine aw_ret ?_
  refine ae_ret_then ?_
  refine ae_ret hB (Bv false) (by kernel_rfl) (.inl (by first | (simp [sameL, hlen]; done) | (unfold sameL; rw [hall]; simp [hlen]))) rfl (fun _ => trivial)


-- spec.SameFeats
theorem specSameFeats_ok (a : List Feat) (b : List Feat) : Con Tryz.prog 43 [slFeat false a, slFeat false b] true (Bv (sameL a b)) := by
  refine fn_ok (fn := Tryz.f43) (nt := 8) Tryz.func43 rfl rfl rfl rfl (by simp [taggedL, tagged, tagFeat]) fun B hB => ?_
  refine aw_lens (x := slFeat false a) 0 rfl (fun len_a => ?_)
  simp [LenOK, LenL, cFeat, fFeat, slFeat] at len_a
  refine aw_lens (x := slFeat false b) 1 rfl (fun len_b => ?_)
  simp [LenOK, LenL, cFeat, fFeat, slFeat] at len_b
  refine aR [] [0, 1] [] [slFeat false a, slFeat false b] [] [] hB trivial ?_
  refine aR [(2, .call [(true, .any), (true, .any)] true (Bv (sameL a b)))] [4] [] [Bv (sameL a b)] [] [Con Tryz.prog 109 [slFeat false a, slFeat false b] true (Bv (sameL a b)) ∧ True] hB ⟨⟨(l08Same_ok a b), trivial⟩, trivial⟩ ?_
  refine aw_ret ?_
  refine ae_ret hB (Bv (sameL a b)) (by kernel_rfl) (.inl rfl) rfl (fun _ => trivial)


-- laws.f6ints
theorem f6ints_ok (a : List Int) (b : List Int) : Con Tryz.prog 44 [slI false a, slI false b] true (Bv (sameL a b)) := by
  refine fn_ok (fn := Tryz.f44) (nt := 26) Tryz.func44 rfl rfl rfl rfl (by simp [taggedL, tagged, tagI]) fun B hB => ?_
  refine aw_lens (x := slI false a) 0 rfl (fun len_a => ?_)
  simp [LenOK, LenL, cI, fI, slI] at len_a
  refine aw_lens (x := slI false b) 1 rfl (fun len_b => ?_)
  simp [LenOK, LenL, cI, fI, slI] at len_b
  refine aR [] [0, 1] [] [slI false a, slI false b] [] [] hB trivial ?_
  refine aw_seq ?_
  refine aw_seq ?_
  by_cases h1 : (a.length : Int) = (b.length : Int)
  ·have hlen : a.length = b.length := by omega
   refine aw_r [(4, .dec false)] [0, 1, 10] [] [slI false a, slI false b, Bv false] [] [¬ ((a.length : Int) ≠ (b.length : Int))] hB ⟨(fun hq => hq h1), trivial⟩ ?_
   refine ae_then ?_
   refine aw_false rfl ?_
   refine aw_skip ?_
   refine ae_then ?_
   refine aw_seq ?_
   refine aR [] [0, 1, 5] [] [slI false a, slI false b, I 0] [] [] hB trivial ?_
   refine aw_block ?_
   refine aw_loop (fun gn gσ => ∃ (i : Int), gn = ((a.length : Int) - i).toNat ∧ (0 ≤ i ∧ i ≤ (a.length : Int)) ∧ (∀ j : Nat, (j : Int) < i → decide (at_ a j = at_ b j) = true) ∧ gσ = mkS [(0, slI false a), (1, slI false b), (5, I i)] []) (((a.length : Int) - 0).toNat) ⟨0, rfl, (by omega), (by intro j hj; omega), rfl⟩ (fun gn gσ hI => ?_)
   obtain ⟨i, rfl, hi0, hall0, rfl⟩ := hI
   refine aw_seq ?_
   refine aw_seq ?_
   by_cases h2 : i < (a.length : Int)
   ·have hi : i.toNat < a.length := by omega
    refine aw_r [(3, .dec true)] [0, 1, 5, 14] [] [slI false a, slI false b, I i, Bv true] [] [i < (a.length : Int)] hB ⟨h2, trivial⟩ ?_
    refine ae_then ?_
    refine aw_true rfl ?_
    refine aw_skip ?_
    refine ae_then ?_
    refine aw_seq ?_
    refine aw_block ?_
    refine aw_seq ?_
    by_cases h3 : (at_ a i.toNat) = (at_ b i.toNat)
    ·have hok : decide (at_ a i.toNat = at_ b i.toNat) = true := decide_eq_true h3
     refine aw_r [(8, .dec false)] [0, 1, 5, 25] [] [slI false a, slI false b, I i, Bv false] [] [(0 : Int) ≤ i ∧ i < (a.length : Int), (0 : Int) ≤ i ∧ i < (b.length : Int), ¬ ((at_ a i.toNat) ≠ (at_ b i.toNat))] hB ⟨⟨(by omega), (by omega)⟩, ⟨(by omega), (by omega)⟩, (fun hq => hq h3), trivial⟩ ?_
     refine ae_then ?_
     refine aw_false rfl ?_
     refine aw_skip ?_
     refine ae_block 1 ?_
     refine ae_then ?_
     refine aw_r [] [0, 1, 5] [] [slI false a, slI false b, I (i + 1)] [] [inR .i64 (i + 1)] hB ⟨(inR_i64 (by omega) (by omega)), trivial⟩ ?_
     exact ae_again _ (by omega) ⟨(i + 1), rfl, (by omega), (by intro j hj; by_cases ej : j = i.toNat; (subst ej; first | assumption | exact hok); exact hall0 j (by omega)), rfl⟩
    have hall : allN a.length (fun j => decide (at_ a j = at_ b j)) = false := allN_not hi (decide_eq_false h3)
    refine aw_r [(8, .dec true)] [0, 1, 5, 25] [] [slI false a, slI false b, I i, Bv true] [] [(0 : Int) ≤ i ∧ i < (a.length : Int), (0 : Int) ≤ i ∧ i < (b.length : Int), (at_ a i.toNat) ≠ (at_ b i.toNat)] hB ⟨⟨(by omega), (by omega)⟩, ⟨(by omega), (by omega)⟩, h3, trivial⟩ ?_
    refine ae_then ?_
    refine aw_true rfl ?_
    refine aR [] [4] [] [Bv false] [] [] hB trivial ?_
    refine aw_ret ?_
    refine ae_ret_block (ae_ret_then (ae_ret_then (ae_ret_block (ae_ret_then ?_))))
    refine ae_ret hB (Bv false) (by kernel_rfl) (.inl (by first | (simp [sameL, hlen]; done) | (unfold sameL; rw [hall]; simp [hlen]))) rfl (fun _ => trivial)
   have hall : allN a.length (fun j => decide (at_ a j = at_ b j)) = true := allN_at (fun j hj => hall0 j (by omega))
   refine aw_r [(3, .dec false)] [0, 1, 5, 14] [] [slI false a, slI false b, I i, Bv false] [] [¬ (i < (a.length : Int))] hB ⟨h2, trivial⟩ ?_
   refine ae_then ?_
   refine aw_false rfl ?_
   refine aw_exit ?_
   refine ae_exit_then ?_
   refine ae_exit_then ?_
   refine ae_exit_same ?_
   refine ae_then ?_
   refine aR [] [4] [] [Bv true] [] [] hB trivial ?_
   refine aw_ret ?_
   refine ae_ret hB (Bv true) (by kernel_rfl) (.inl (by first | (simp [sameL, hlen]; done) | (unfold sameL; rw [hall]; simp [hlen]))) rfl (fun _ => trivial)
  have hlen : ¬ a.length = b.length := by omega
  refine aw_r [(4, .dec true)] [0, 1, 10] [] [slI false a, slI false b, Bv true] [] [(a.length : Int) ≠ (b.length : Int)] hB ⟨h1, trivial⟩ ?_
  refine ae_then ?_
  refine aw_true rfl ?_
  refine aR [] [4] [] [Bv false] [] [] hB trivial ?_
  refine aw_ret ?_
  refine ae_ret_then ?_
  refine ae_ret hB (Bv false) (by kernel_rfl) (.inl (by first | (simp [sameL, hlen]; done) | (unfold sameL; rw [hall]; simp [hlen]))) rfl (fun _ => trivial)


-- spec.FeatsText
theorem specFeatsText_ok (list : List Feat) : Con Tryz.prog 45 [slFeat false list] true (Sv (ftsTx list)) := by
  refine fn_ok (fn := Tryz.f45) (nt := 8) Tryz.func45 rfl rfl rfl rfl (by simp [taggedL, tagged, tagFeat]) fun B hB => ?_
  refine aw_lens (x := slFeat false list) 0 rfl (fun len_list => ?_)
  simp [LenOK, LenL, cFeat, fFeat, slFeat] at len_list
  refine aR [] [0] [] [slFeat false list] [] [] hB trivial ?_
  refine aw_seq ?_
  refine aw_seq ?_
  rcases Bool.eq_false_or_eq_true (okFeats list 384) with h1 | h1
  ·have hok := h1
   have hfn := okFeats_n hok
   have hst : ftsTx list = jnB ⟨#[32]⟩ (list.map ftTx) := if_pos hok
   refine aw_r [(1, .call [(true, .any)] true (Bv true))] [0, 5] [] [slFeat false list, Bv false] [] [Con Tryz.prog 99 [slFeat false list] true (Bv true) ∧ True] hB ⟨⟨(con_bool h1 (l08Ok_ok list)), trivial⟩, trivial⟩ ?_
   refine ae_then ?_
   refine aw_false rfl ?_
   refine aw_skip ?_
   refine ae_then ?_
   refine aR [(1, .call [(true, .any)] true (Sv (jnB ⟨#[32]⟩ (list.map ftTx))))] [2] [] [Sv (jnB ⟨#[32]⟩ (list.map ftTx))] [] [Con Tryz.prog 104 [slFeat false list] true (Sv (jnB ⟨#[32]⟩ (list.map ftTx))) ∧ True] hB ⟨⟨(l08Text_ok list (okFeats_mem hok) (by first | omega | (rw [List.length_replicate]; omega))), trivial⟩, trivial⟩ ?_
   refine aw_ret ?_
   refine ae_ret hB (Sv (jnB ⟨#[32]⟩ (list.map ftTx))) (by kernel_rfl) (.inl (by (rw [hst]))) rfl (fun _ => trivial)
  have hst : ftsTx list = ⟨#[]⟩ := by rw [ftsTx, if_neg (by simp [*])]
  refine aw_r [(1, .call [(true, .any)] true (Bv false))] [0, 5] [] [slFeat false list, Bv true] [] [Con Tryz.prog 99 [slFeat false list] true (Bv false) ∧ True] hB ⟨⟨(con_bool h1 (l08Ok_ok list)), trivial⟩, trivial⟩ ?_
  refine ae_then ?_
  refine aw_true rfl ?_
  refine aR [] [2] [] [Sv (⟨#[]⟩ : ByteArray)] [] [] hB trivial ?_
  refine aw_ret ?_
  refine ae_ret_then ?_
  refine ae_ret hB (Sv (⟨#[]⟩ : ByteArray)) (by kernel_rfl) (.inl (by (rw [hst]))) rfl (fun _ => trivial)


theorem splC_ne (c : UInt8) (s : ByteArray) : splC c s ≠ [] := fun e => by
  have h := splB_length (sep := ⟨#[c]⟩) (s := s) rfl
  have h2 : (Lib.splitB ⟨#[c]⟩ 0 (Lib.countB s ⟨#[c]⟩) s).length = 0 := by show (splC c s).length = 0; rw [e]; rfl
  omega
theorem jn_splC (c : UInt8) : ∀ (n : Nat) (s : ByteArray), s.size ≤ n → jnB ⟨#[c]⟩ (splC c s) = s := by
  intro n
  induction n with
  | zero => intro s h; have := ba_zero (s := s) (by omega); subst this; rw [spl_none noB_nil, jnB, jrest, ba_nilT]
  | succ n ih =>
    intro s h
    by_cases hc : noB c s
    · rw [spl_none hc, jnB, jrest, ba_nilT]
    · obtain ⟨a, b, e, ha⟩ := List.eq_append_cons_of_mem (Classical.not_not.1 hc)
      have hs : s = ((⟨a.toArray⟩ : ByteArray) ++ ⟨#[c]⟩) ++ (⟨b.toArray⟩ : ByteArray) := by
        apply ByteArray.ext
        apply Array.ext'
        rw [e]; simp
      have hl := congrArg List.length e
      rw [ba_len, List.length_append, List.length_cons] at hl
      have hb : (⟨b.toArray⟩ : ByteArray).size ≤ n := by show b.toArray.size ≤ n; rw [List.size_toArray]; omega
      have q := ih ⟨b.toArray⟩ hb
      have hx : splC c s = (⟨a.toArray⟩ : ByteArray) :: splC c ⟨b.toArray⟩ := by
        rw [hs]; exact spl_cons (by unfold noB; simpa using ha)
      rw [hx]
      obtain ⟨y, l, hy⟩ : ∃ y l, splC c (⟨b.toArray⟩ : ByteArray) = y :: l := by
        cases hq : splC c (⟨b.toArray⟩ : ByteArray) with
        | nil => exact absurd hq (splC_ne _ _)
        | cons y l => exact ⟨y, l, rfl⟩
      rw [hy] at q ⊢
      have e2 : jnB ⟨#[c]⟩ ((⟨a.toArray⟩ : ByteArray) :: y :: l) = ((⟨a.toArray⟩ : ByteArray) ++ ⟨#[c]⟩) ++ jnB ⟨#[c]⟩ (y :: l) := by simp only [jnB, jrest, ByteArray.append_assoc]
      rw [e2, q, ← hs]

theorem dcB_dec {s : ByteArray} (h : dcB s = true) : decB (dcN s) = s := by
  have hN : dcN s = dcV s := if_pos h
  unfold dcB at h
  split at h
  · rename_i n hp
    have q := of_decide_eq_true h
    rw [hN]
    unfold dcV
    rw [hp]
    exact q.2
  · cases h
theorem ft_back {w : ByteArray} (h : ftOk w = true) : ftTx (rdFt (dcsN w)) = w := by
  simp only [ftOk, Bool.and_eq_true, decide_eq_true_eq] at h
  obtain ⟨h3, h0, h1, h2⟩ := h
  have hj := jn_splC 44 w.size w (Nat.le_refl _)
  rw [rdFt_at h3]
  have e : splB ⟨#[44]⟩ w = [at_ (splB ⟨#[44]⟩ w) 0, at_ (splB ⟨#[44]⟩ w) 1, at_ (splB ⟨#[44]⟩ w) 2] := by
    match hq : splB ⟨#[44]⟩ w, h3 with
    | [a, b, c], _ => rfl
  show jnB ⟨#[44]⟩ [decB (dcN _), decB (dcN _), decB (dcN _)] = w
  rw [dcB_dec h0, dcB_dec h1, dcB_dec h2, ← e]
  exact hj

theorem dcB_num {n : Int} (h : -1000000000000000000 < n ∧ n < 1000000000000000000) : dcB (decB n) = true := (dcB_yes (parse_dec h) (trp_dec h) rfl).1
theorem ftOk_tx {f : Feat} (h : okF f = true) : ftOk (ftTx f) = true := by
  have hs : splB ⟨#[44]⟩ (ftTx f) = [decB f.X, decB f.Y, decB f.D] := com_split (xs := [f.X, f.Y, f.D]) (by simp)
  have hb := okF_iff.1 h
  simp only [ftOk, hs]
  show (decide (3 = 3) && (dcB (decB f.X) && (dcB (decB f.Y) && dcB (decB f.D)))) = true
  rw [dcB_num (by omega), dcB_num (by omega), dcB_num (by omega)]
  rfl
theorem fts_split {l : List Feat} (h : okFeats l 384 = true) : splB ⟨#[32]⟩ (ftsTx l) = l.map ftTx := by
  have hn := okFeats_n h
  have e : ftsTx l = jnB ⟨#[32]⟩ (l.map ftTx) := if_pos h
  rw [e]
  refine spl_join (c := 32) (fun q => ?_) fun y hy => ?_
  · have : (l.map ftTx).length = 0 := by rw [q]; rfl
    rw [List.length_map] at this; omega
  · obtain ⟨f, _, rfl⟩ := List.mem_map.1 hy
    exact com_noB (by decide) _
theorem rfw_of {ws : List ByteArray} (h : allN ws.length (fun j => ftOk (at_ ws j)) = true) : rfwOk ws = true := by
  refine allN_at fun j hj => ?_
  have := allN_get h hj
  simp only [ftOk, Bool.and_eq_true] at this
  exact this.1
theorem map_back {ws : List ByteArray} (h : allN ws.length (fun j => ftOk (at_ ws j)) = true) : (ws.map fun w => rdFt (dcsN w)).map ftTx = ws := by
  rw [List.map_map]
  conv => rhs; rw [← List.map_id ws]
  refine List.map_congr_left fun w hw => ?_
  obtain ⟨j, hj, e⟩ := List.getElem_of_mem hw
  have := allN_get h hj
  rw [at_eq hj, e] at this
  exact ft_back this
theorem rdf_eq (s : ByteArray) : rdfI s = rdfS s := by
  cases hA : allN (splB ⟨#[32]⟩ s).length (fun j => ftOk (at_ (splB ⟨#[32]⟩ s) j)) with
  | true =>
    have e1 := l8_yes hA
    have e2 := rfw_yes (rfw_of hA)
    unfold rdfI rdfS
    rw [e1, e2]
    cases hk : okFeats ((splB ⟨#[32]⟩ s).map fun w => rdFt (dcsN w)) 384 with
    | true =>
      have h2 : ftsTx ((splB ⟨#[32]⟩ s).map fun w => rdFt (dcsN w)) = jnB ⟨#[32]⟩ (((splB ⟨#[32]⟩ s).map fun w => rdFt (dcsN w)).map ftTx) := if_pos hk
      have h3 : ftsTx ((splB ⟨#[32]⟩ s).map fun w => rdFt (dcsN w)) = s := by
        rw [h2, map_back hA]
        exact jn_splC 32 s.size s (Nat.le_refl _)
      rw [if_pos rfl, if_pos ⟨rfl, rfl, h3⟩]
    | false =>
      rw [if_neg (fun q => Bool.false_ne_true q.2.1), if_neg Bool.false_ne_true]
  | false =>
    have e1 := l8_no hA
    have e3 : rdfS s = ([], false) := by unfold rdfS; rw [e1]; exact if_neg (by decide)
    rw [e3]
    refine rdf_no fun q => ?_
    have hf := okFeats_mem q.2.1
    have hs := fts_split q.2.1
    rw [q.2.2] at hs
    have : allN (splB ⟨#[32]⟩ s).length (fun j => ftOk (at_ (splB ⟨#[32]⟩ s) j)) = true := by
      refine allN_at fun j hj => ?_
      have hm := at_mem hj
      rw [hs] at hm
      rw [hs]
      obtain ⟨f, hf2, e⟩ := List.mem_map.1 hm
      rw [← e]
      exact ftOk_tx (hf f hf2)
    rw [this] at hA
    cases hA
theorem rdf_tx {l : List Feat} (h : okFeats l 384 = true) : rdfI (ftsTx l) = (l, true) := by
  have hs := fts_split h
  have hf := okFeats_mem h
  have hA : allN (splB ⟨#[32]⟩ (ftsTx l)).length (fun j => ftOk (at_ (splB ⟨#[32]⟩ (ftsTx l)) j)) = true := by
    refine allN_at fun j hj => ?_
    have hm := at_mem hj
    rw [hs] at hm ⊢
    obtain ⟨f, hf2, e⟩ := List.mem_map.1 hm
    rw [← e]
    exact ftOk_tx (hf f hf2)
  have hl : (splB ⟨#[32]⟩ (ftsTx l)).map (fun w => rdFt (dcsN w)) = l := by
    rw [hs, List.map_map]
    conv => rhs; rw [← List.map_id l]
    refine List.map_congr_left fun f hf2 => ?_
    have hb := okF_iff.1 (hf f hf2)
    have h3 : splB ⟨#[44]⟩ (ftTx f) = [decB f.X, decB f.Y, decB f.D] := com_split (xs := [f.X, f.Y, f.D]) (by simp)
    show rdFt (dcsN (ftTx f)) = f
    unfold dcsN
    rw [h3]
    show (⟨dcN (decB f.X), dcN (decB f.Y), dcN (decB f.D)⟩ : Feat) = f
    rw [(dcB_yes (parse_dec (n := f.X) (by omega)) (trp_dec (by omega)) rfl).2, (dcB_yes (parse_dec (n := f.Y) (by omega)) (trp_dec (by omega)) rfl).2, (dcB_yes (parse_dec (n := f.D) (by omega)) (trp_dec (by omega)) rfl).2]
  rw [rdf_eq]
  unfold rdfS
  rw [l8_yes hA, hl, if_pos h, h]
theorem rdf_no0 : rdfI ⟨#[]⟩ = ([], false) := by
  rw [rdf_eq]
  have hs : splB ⟨#[32]⟩ ⟨#[]⟩ = [⟨#[]⟩] := spl_none noB_nil
  have ht : splB ⟨#[44]⟩ (⟨#[]⟩ : ByteArray) = [⟨#[]⟩] := spl_none noB_nil
  have hA : allN (splB ⟨#[32]⟩ ⟨#[]⟩).length (fun j => ftOk (at_ (splB ⟨#[32]⟩ ⟨#[]⟩) j)) = false := by
    refine allN_not (k := 0) (by rw [hs]; decide) ?_
    rw [hs]
    show ftOk ⟨#[]⟩ = false
    simp [ftOk, ht]
  unfold rdfS
  rw [l8_no hA]
  exact if_neg (by decide)

theorem bck_ok {f : Feat} (h : okF f = true) : okF (bckF f) = true ∧ bckF (bckF f) = f := by
  have := okF_iff.1 h
  refine ⟨okF_iff.2 ⟨this.1, this.2.1, ?_⟩, ?_⟩
  · show 0 ≤ (f.D + 4) % 8 ∧ (f.D + 4) % 8 ≤ 7; omega
  · show (⟨f.X, f.Y, ((f.D + 4) % 8 + 4) % 8⟩ : Feat) = f
    rw [show ((f.D + 4) % 8 + 4) % 8 = f.D from by omega]
theorem mir_ok {f : Feat} (h : okF f = true) : okF (mirF f) = true ∧ mirF (mirF f) = f := by
  have := okF_iff.1 h
  refine ⟨okF_iff.2 ⟨?_, this.2.1, ?_⟩, ?_⟩
  · show 0 ≤ 255 - f.X ∧ 255 - f.X ≤ 255; omega
  · show 0 ≤ ((4 - f.D) + 8) % 8 ∧ ((4 - f.D) + 8) % 8 ≤ 7; omega
  · show (⟨255 - (255 - f.X), f.Y, ((4 - ((4 - f.D) + 8) % 8) + 8) % 8⟩ : Feat) = f
    rw [show ((4 - ((4 - f.D) + 8) % 8) + 8) % 8 = f.D from by omega, show 255 - (255 - f.X) = f.X from by omega]
theorem okFeats_of {l : List Feat} {m : Int} (hl : 1 ≤ (l.length : Int) ∧ (l.length : Int) ≤ m) (h : ∀ f ∈ l, okF f = true) : okFeats l m = true := by
  unfold okFeats
  rw [decide_eq_true hl, Bool.true_and]
  exact allN_at fun j hj => h _ (at_mem hj)
theorem map_idl {α : Type} {f : α → α} {l : List α} (h : ∀ x ∈ l, f x = x) : l.map f = l := by
  conv => rhs; rw [← List.map_id l]
  exact List.map_congr_left h
theorem mir_mir {l : List Feat} (h : okFeats l 384 = true) : mirR (mirR l).1 = (l, 0) ∧ okFeats (mirR l).1 384 = true := by
  have hn := okFeats_n h
  have hf := okFeats_mem h
  rw [mir_yes h]
  have h2 : okFeats (l.map mirF) 384 = true := okFeats_of (by rw [List.length_map]; omega) fun g hg => by
    obtain ⟨f, hf2, rfl⟩ := List.mem_map.1 hg
    exact (mir_ok (hf f hf2)).1
  refine ⟨?_, h2⟩
  rw [mir_yes h2, List.map_map, map_idl (f := mirF ∘ mirF) fun f hf2 => (mir_ok (hf f hf2)).2]
theorem bck_bck {l : List Feat} (h : okFeats l 384 = true) : bckR (bckR l).1 = (l, 0) := by
  have hn := okFeats_n h
  have hf := okFeats_mem h
  rw [bck_yes h]
  have h2 : okFeats (l.map bckF).reverse 384 = true := okFeats_of (by rw [List.length_reverse, List.length_map]; omega) fun g hg => by
    obtain ⟨f, hf2, rfl⟩ := List.mem_map.1 (List.mem_reverse.1 hg)
    exact (bck_ok (hf f hf2)).1
  rw [bck_yes h2, List.map_reverse, List.reverse_reverse, List.map_map, map_idl (f := bckF ∘ bckF) fun f hf2 => (bck_ok (hf f hf2)).2]
theorem dirC_mir (l : List Feat) (h : ∀ j, j < l.length → okF (at_ l j) = true) (d : Int) (hd : 0 ≤ d ∧ d < 8) : ∀ k, k ≤ l.length → at_ (dirC (l.map mirF) k) (((4 - d) + 8) % 8).toNat = at_ (dirC l k) d.toNat
  | 0, _ => by
    have : d = 0 ∨ d = 1 ∨ d = 2 ∨ d = 3 ∨ d = 4 ∨ d = 5 ∨ d = 6 ∨ d = 7 := by omega
    rcases this with rfl | rfl | rfl | rfl | rfl | rfl | rfl | rfl <;> rfl
  | k + 1, hk => by
    have q := dirC_mir l h d hd k (by omega)
    have hb := okF_iff.1 (h k (by omega))
    have e : at_ (l.map mirF) k = mirF (at_ l k) := at_mapB (by omega)
    show at_ ((dirC (l.map mirF) k).set (at_ (l.map mirF) k).D.toNat (at_ (dirC (l.map mirF) k) (at_ (l.map mirF) k).D.toNat + 1)) _ = at_ ((dirC l k).set (at_ l k).D.toNat (at_ (dirC l k) (at_ l k).D.toNat + 1)) d.toNat
    have eD : (at_ (l.map mirF) k).D = ((4 - (at_ l k).D) + 8) % 8 := by rw [e]; rfl
    rw [eD, at_setD (by rw [dirC_len]; omega), at_setD (by rw [dirC_len]; omega)]
    by_cases he : (at_ l k).D = d
    · rw [if_pos (by rw [he]), if_pos (by rw [he]), he, q]
    · rw [if_neg (by omega), if_neg (by omega), q]
theorem dir_mir {l : List Feat} (h : okFeats l 384 = true) : dirR (mirR l).1 = (dirC (l.map mirF) l.length, 0) := by
  have h2 := (mir_mir h).2
  rw [mir_yes h] at h2 ⊢
  rw [dir_yes h2, List.length_map]
theorem mir_c (l : List Feat) : ((mirR l).2 = 0 ↔ okFeats l 384 = true) ∧ (bckR l).2 = (mirR l).2 := by
  unfold mirR bckR
  cases okFeats l 384 <;> simp
theorem fts_ne {l : List Feat} : (okFeats l 384 = true ∧ 0 < (ftsTx l).size) ∨ (okFeats l 384 = false ∧ ftsTx l = ⟨#[]⟩) := by
  cases h : okFeats l 384 with
  | false => exact .inr ⟨rfl, by unfold ftsTx; rw [h]; exact if_neg (by decide)⟩
  | true =>
    refine .inl ⟨rfl, Nat.pos_of_ne_zero fun e => ?_⟩
    have q := rdf_tx h
    rw [ba_zero e, rdf_no0] at q
    have := congrArg Prod.snd q
    cases this

theorem fts_le (l : List Feat) : (ftsTx l).size ≤ 100000 := by
  unfold ftsTx
  split
  · rename_i h
    have hn := okFeats_n h
    have := fts_len (okFeats_mem h) (show l.length ≤ 400 by omega) l.length
    rw [List.take_length] at this
    omega
  · exact Nat.zero_le _
end Go.Proofs.YthlghckgnanlpaaGreatDoor.Ax
