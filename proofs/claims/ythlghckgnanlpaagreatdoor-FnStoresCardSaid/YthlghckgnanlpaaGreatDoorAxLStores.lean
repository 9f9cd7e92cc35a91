/- The statement FnStores: contracts of what it reaches, and its proof. No conditions. -/
import Derived.Test.YthlghckgnanlpaaGreatDoorAxLStores2
import Derived.LaidMore
import Derived.Lay
import Derived.Lib.IndexBytes
import Derived.Lib.ItoaNum
import Derived.Lib.ParseIntBCases
import Derived.Lib.ParseIntBTie
import Derived.Lib.SplitLaws
import Derived.OpenShut
import Derived.SevenTiedAt
import Derived.Stop.Joined
import Derived.Test.YthlghckgnanlpaaGreatDoorAxBd
import Derived.Test.YthlghckgnanlpaaGreatDoorAxGr
import Derived.Test.YthlghckgnanlpaaGreatDoorAxR
import Derived.Test.YthlghckgnanlpaaGreatDoorAxS
import Derived.Test.YthlghckgnanlpaaGreatDoorAxV
namespace Go.Proofs.YthlghckgnanlpaaGreatDoor.Ax
open Go.RowKit Go.ChangeShapes Go.WideShapes
set_option linter.unusedVariables false
set_option linter.unusedSimpArgs false


-- impl.ReadStore
theorem ReadStore_ok (s : ByteArray) (ok : ∃ st, okStore' st = true ∧ s = stTx st) : ∃ (v : Store) (c : Bool), (v = rdSt s) ∧ (c = true) ∧ Con Tryz.prog 51 [Sv s] true (.tup [agStoreT v, Bv c]) := by
  obtain ⟨st, hok, hsi⟩ := ok
  have hrd : rdSt s = st := by rw [hsi]; exact st_rd hok
  have hsz := okSt_sz hok
  have h40 := (okStore_iff.1 hok).2.1
  have hq_ := st_lines hok
  have hls : linB s = stLns st := by have q := hq_; rw [← hsi] at q; unfold lnR at q; unfold linB; split at q; (have q2 := congrArg Prod.fst q; simp only at q2; exact absurd (congrArg List.length q2) (by simp [stLns])); (rename_i h0_; split at q; (rw [if_neg h0_]; exact congrArg Prod.fst q); (exact absurd (congrArg Prod.snd q) (by simp)))
  have hlo : linOk s := by refine ⟨?_, ?_⟩; (rw [hsi]; have e : stTx st = linesX (stLns st) (st.Templates.length + 1) := if_pos hok; rw [e]; exact Nat.le_trans (stL_size hok (Nat.le_refl _)) (by decide)); (have q := hq_; rw [← hsi] at q; unfold lnR at q; split at q; (exact .inl (by assumption)); (split at q; (exact .inr (by assumption)); (exact absurd (congrArg Prod.snd q) (by simp))))
  have hh : ∃ r : Store × Bool, ((r.1 = rdSt s) ∧ (r.2 = true) ∧ (True)) ∧ CallOK Tryz.prog 51 [Sv s] (lookO []) true (.tup [agStoreT r.1, Bv r.2]) (lookO []) := by
    refine fn_okX (Φ := fun r : Store × Bool => (r.1 = rdSt s) ∧ (r.2 = true) ∧ (True)) [] (fun r => []) (fn := Tryz.f51) (nt := 85) Tryz.func51 rfl rfl (args := [Sv s]) rfl (allcons (.inl ⟨rfl, trivial⟩) allnil) (res := fun r => .tup [agStoreT r.1, Bv r.2]) ?_
    refine xR [(0, .new 2)] [0, 2] [2] [Sv s, .ref 2 0] [some (.box [I 0, nilA])] [] trivial ?_
    refine x_seq ?_
    obtain ⟨ls_1, k_1, hx1_0, hx1_1, hc1⟩ := linesOf_ok s hlo
    have hlv : ls_1 = stLns st := by rw [hx1_0, hls]
    have hlk := hx1_1
    have hll : ls_1.length = st.Templates.length + 1 := by rw [hlv]; simp [stLns]
    refine x_r [(1, .call [(true, .any)] true (.tup [slS true ls_1, Bv k_1]))] [0, 2, 4, 5] [2] [Sv s, .ref 2 0, slS true ls_1, Bv k_1] [some (.box [I 0, nilA])] [Con Tryz.prog 69 [Sv s] true (.tup [slS true ls_1, Bv k_1]) ∧ True] ⟨⟨hc1, trivial⟩, trivial⟩ ?_
    refine xe_then ?_
    refine x_seq ?_
    refine x_seq ?_
    obtain rfl : k_1 = true := hlk
    refine x_r [] [0, 2, 4, 18] [2] [Sv s, .ref 2 0, slS true ls_1, Bv false] [some (.box [I 0, nilA])] [] trivial ?_
    refine xe_then ?_
    refine x_false rfl ?_
    refine x_skip ?_
    refine xe_then ?_
    refine xR [(0, .new 6)] [0, 2, 4, 6] [2, 6] [Sv s, .ref 2 0, slS true ls_1, .ref 6 0] [some (.box [I 0, nilA]), some (.box [I 0, nilA])] [] trivial ?_
    refine x_seq ?_
    refine xR [] [0, 2, 6, 20, 21, 22] [2, 6] [Sv s, .ref 2 0, .ref 6 0, slS true ls_1, I (ls_1.length : Int), I 0] [some (.box [I 0, nilA]), some (.box [I 0, nilA])] [] trivial ?_
    refine x_block ?_
    refine x_nilC 6 1 761 2 (fun _ => []) rfl (by kernel_rfl) ?_
    refine x_weak [] (T := [(0, Sv s), (2, .ref 2 0), (6, .ref 6 0), (20, slS true ls_1), (21, I (ls_1.length : Int)), (22, I 0)]) (O := [(2, .box [I 0, nilA]), (6, .box [I 0, .arr 761]), (761, tATemplate true ([] : List Template))]) rfl (⟨.inl rfl, .inl rfl, .inl rfl, .inl rfl, .inl rfl, .inl rfl, trivial⟩) (⟨.inl rfl, .inl rfl, .inr ⟨rfl, (by first | rfl | (simp; done) | (simp; omega) | omega), fun i_ hi_ => absurd hi_ (Nat.not_lt_zero _)⟩, trivial⟩) ?_
    refine x_loop (X := Int × Int × (List Template)) (fun x => mkS [(0, Sv s), (2, .ref 2 0), (6, .ref 6 0), (20, slS true ls_1), (21, I (ls_1.length : Int)), (22, I x.1)] [(2, .box [I 0, nilA]), (6, .box [I x.2.1, .arr 761]), (761, tATemplate true x.2.2)]) (fun x => (0 ≤ x.1 ∧ x.1 ≤ (ls_1.length : Int)) ∧ ((x.2.2.length : Int) ≤ x.1) ∧ ((x.1 = 0 ∧ x.2.2 = []) ∨ (1 ≤ x.1 ∧ x.2.1 = st.Band ∧ x.2.2 = st.Templates.take (x.1.toNat - 1))) ∧ True) (fun x => ((ls_1.length : Int) - x.1).toNat) (0, 0, ([] : List Template)) rfl (show (0 ≤ (0 : Int) ∧ (0 : Int) ≤ (ls_1.length : Int)) ∧ ((([] : List Template).length : Int) ≤ (0 : Int)) ∧ (((0 : Int) = 0 ∧ ([] : List Template) = []) ∨ (1 ≤ (0 : Int) ∧ (0 : Int) = st.Band ∧ ([] : List Template) = st.Templates.take ((0 : Int).toNat - 1))) ∧ True from ⟨(by omega), (by simp), (by exact .inl ⟨rfl, rfl⟩), trivial⟩) (fun x hI => ?_)
    obtain ⟨k, bd, ts⟩ := x
    obtain ⟨hi0, htl, hst_, _⟩ : (0 ≤ k ∧ k ≤ (ls_1.length : Int)) ∧ ((ts.length : Int) ≤ k) ∧ ((k = 0 ∧ ts = []) ∨ (1 ≤ k ∧ bd = st.Band ∧ ts = st.Templates.take (k.toNat - 1))) ∧ True := hI
    show XW _ _ _ _ (mkS [(0, Sv s), (2, .ref 2 0), (6, .ref 6 0), (20, slS true ls_1), (21, I (ls_1.length : Int)), (22, I k)] [(2, .box [I 0, nilA]), (6, .box [I bd, .arr 761]), (761, tATemplate true ts)]) _ _
    refine x_seq ?_
    by_cases h1 : k < (ls_1.length : Int)
    ·have hi : k.toNat < ls_1.length := by omega
     have hlz : (at_ ls_1 k.toNat).size ≤ 5000 := by rw [hlv]; exact stLns_size hok _ (at_mem (by rw [← hlv]; exact hi))
     have hwl := splB_len 32 (at_ ls_1 k.toNat)
     have hw0 : k = 0 → (splB ⟨#[32]⟩ (at_ ls_1 k.toNat)) = [wS, decB st.Band] := fun q => by rw [hlv, q]; exact hd_words _
     have hw1 : 1 ≤ k → (splB ⟨#[32]⟩ (at_ ls_1 k.toNat)) = wT :: (at_ st.Templates (k.toNat - 1)).Label :: (at_ st.Templates (k.toNat - 1)).Feats.map ftTx := fun q => by rw [hlv, show k.toNat = (k.toNat - 1) + 1 from by omega, stLns_at (by omega), Nat.add_sub_cancel]; exact tm_words ((okStore_iff.1 hok).2.2 _ (by omega))
     have hwp := splB_pos 32 (at_ ls_1 k.toNat)
     refine x_r [(0, .dec true)] [0, 2, 6, 20, 21, 22, 23] [2, 6, 761] [Sv s, .ref 2 0, .ref 6 0, slS true ls_1, I (ls_1.length : Int), I k, Bv true] [some (.box [I 0, nilA]), some (.box [I bd, .arr 761]), some (tATemplate true ts)] [k < (ls_1.length : Int)] ⟨h1, trivial⟩ ?_
     refine xe_then ?_
     refine x_seq ?_
     refine x_true rfl ?_
     refine x_skip ?_
     refine xe_then ?_
     refine x_seq ?_
     refine x_block ?_
     refine xR [] [0, 2, 6, 8, 20, 21, 22] [2, 6, 761] [Sv s, .ref 2 0, .ref 6 0, Sv (at_ ls_1 k.toNat), slS true ls_1, I (ls_1.length : Int), I k] [some (.box [I 0, nilA]), some (.box [I bd, .arr 761]), some (tATemplate true ts)] [(0 : Int) ≤ k ∧ k < (ls_1.length : Int)] ⟨⟨(by omega), (by omega)⟩, trivial⟩ ?_
     refine xR [(1, .call [(true, .any)] true (slS true (splB ⟨#[32]⟩ (at_ ls_1 k.toNat))))] [0, 2, 6, 9, 20, 21, 22] [2, 6, 761] [Sv s, .ref 2 0, .ref 6 0, slS true (splB ⟨#[32]⟩ (at_ ls_1 k.toNat)), slS true ls_1, I (ls_1.length : Int), I k] [some (.box [I 0, nilA]), some (.box [I bd, .arr 761]), some (tATemplate true ts)] [Con Tryz.prog 70 [Sv (at_ ls_1 k.toNat)] true (slS true (splB ⟨#[32]⟩ (at_ ls_1 k.toNat))) ∧ True] ⟨⟨(wordsOf_ok (at_ ls_1 k.toNat) (by first | omega | (refine ⟨?_, trivial⟩; omega))), trivial⟩, trivial⟩ ?_
     refine x_block ?_
     refine x_seq ?_
     by_cases h2 : (at_ (splB ⟨#[32]⟩ (at_ ls_1 k.toNat)) 0) = (⟨#[115, 116, 111, 114, 101]⟩ : ByteArray)
     ·have hk0 : k = 0 := by apply Classical.byContradiction; intro q_; have e := h2; rw [hw1 (by omega)] at e; exact absurd (show wT = wS from e) (by decide)
      have hwS := hw0 hk0
      have hwn : (splB ⟨#[32]⟩ (at_ ls_1 k.toNat)).length = 2 := by rw [hwS]; rfl
      have hd1 : at_ (splB ⟨#[32]⟩ (at_ ls_1 k.toNat)) 1 = decB st.Band := by rw [hwS]; rfl
      have hdz : (at_ (splB ⟨#[32]⟩ (at_ ls_1 k.toNat)) 1).size ≤ 5000 := Nat.le_trans (splB_piece (at_mem (by omega))) hlz
      refine x_r [(3, .dec true), (7, .dec true)] [0, 2, 6, 9, 20, 21, 22, 29] [2, 6, 761] [Sv s, .ref 2 0, .ref 6 0, slS true (splB ⟨#[32]⟩ (at_ ls_1 k.toNat)), slS true ls_1, I (ls_1.length : Int), I k, Bv true] [some (.box [I 0, nilA]), some (.box [I bd, .arr 761]), some (tATemplate true ts)] [(0 : Int) ≤ 0 ∧ 0 < (((splB ⟨#[32]⟩ (at_ ls_1 k.toNat)).length) : Int), (at_ (splB ⟨#[32]⟩ (at_ ls_1 k.toNat)) 0) = (⟨#[115, 116, 111, 114, 101]⟩ : ByteArray), (((splB ⟨#[32]⟩ (at_ ls_1 k.toNat)).length) : Int) = 2] ⟨⟨(by omega), (by omega)⟩, h2, (by omega), trivial⟩ ?_
      refine xe_then ?_
      refine x_true rfl ?_
      refine x_r [(3, .call [(true, .any)] true (.tup [I (dcN (at_ (splB ⟨#[32]⟩ (at_ ls_1 k.toNat)) 1)), Bv (dcB (at_ (splB ⟨#[32]⟩ (at_ ls_1 k.toNat)) 1))]))] [0, 2, 6, 20, 21, 22] [2, 6, 761] [Sv s, .ref 2 0, .ref 6 0, slS true ls_1, I (ls_1.length : Int), I k] [some (.box [I 0, nilA]), some (.box [I (dcN (at_ (splB ⟨#[32]⟩ (at_ ls_1 k.toNat)) 1)), .arr 761]), some (tATemplate true ts)] [(0 : Int) ≤ 1 ∧ 1 < (((splB ⟨#[32]⟩ (at_ ls_1 k.toNat)).length) : Int), Con Tryz.prog 120 [Sv (at_ (splB ⟨#[32]⟩ (at_ ls_1 k.toNat)) 1)] true (.tup [I (dcN (at_ (splB ⟨#[32]⟩ (at_ ls_1 k.toNat)) 1)), Bv (dcB (at_ (splB ⟨#[32]⟩ (at_ ls_1 k.toNat)) 1))]) ∧ True] ⟨⟨(by omega), (by omega)⟩, ⟨(readDecT_ok (at_ (splB ⟨#[32]⟩ (at_ ls_1 k.toNat)) 1) (by first | omega | (refine ⟨?_, trivial⟩; omega))), trivial⟩, trivial⟩ ?_
      refine xe_block 2 ?_
      refine xe_block 1 ?_
      refine xe_then ?_
      refine x_r [] [0, 2, 6, 20, 21, 22] [2, 6, 761] [Sv s, .ref 2 0, .ref 6 0, slS true ls_1, I (ls_1.length : Int), I (k + 1)] [some (.box [I 0, nilA]), some (.box [I (dcN (at_ (splB ⟨#[32]⟩ (at_ ls_1 k.toNat)) 1)), .arr 761]), some (tATemplate true ts)] [inR .i64 (k + 1)] ⟨(inR_i64 (by omega) (by omega)), trivial⟩ ?_
      exact xe_again ((k + 1), (dcN (at_ (splB ⟨#[32]⟩ (at_ ls_1 k.toNat)) 1)), ts) rfl (show (0 ≤ (k + 1) ∧ (k + 1) ≤ (ls_1.length : Int)) ∧ ((ts.length : Int) ≤ (k + 1)) ∧ (((k + 1) = 0 ∧ ts = []) ∨ (1 ≤ (k + 1) ∧ (dcN (at_ (splB ⟨#[32]⟩ (at_ ls_1 k.toNat)) 1)) = st.Band ∧ ts = st.Templates.take ((k + 1).toNat - 1))) ∧ True from ⟨(by omega), (by first | omega | (simp; omega)), (by first | (refine .inr ⟨by omega, (by have hb_ := (okStore_iff.1 hok).1; rw [hd1, dcN_num (by omega)]), ?_⟩; rcases hst_ with q | q; (rw [q.2, hk0]; rfl); omega) | (rcases hst_ with q | q; (omega); (refine .inr ⟨by omega, q.2.1, ?_⟩; rw [q.2.2, hd1, hrf, show (k + 1).toNat - 1 = (k.toNat - 1) + 1 from by omega, List.take_succ_eq_append_getElem (by omega), at_eq (by omega)]))), trivial⟩) (by first | (show (((ls_1.length : Int) - (k + 1)).toNat : Nat) < ((ls_1.length : Int) - k).toNat; omega) | (dsimp only; omega))
     have hk1 : 1 ≤ k := by apply Classical.byContradiction; intro q_; exact h2 (by rw [hw0 (by omega)]; rfl)
     have hwT := hw1 hk1
     have htm := (okStore_iff.1 hok).2.2 (k.toNat - 1) (by omega)
     have htq := okTm_iff'.1 htm
     have hfm := okFeats_mem htq.2
     have hfn := okFeats_n htq.2
     have hwn : (splB ⟨#[32]⟩ (at_ ls_1 k.toNat)).length = (at_ st.Templates (k.toNat - 1)).Feats.length + 2 := by rw [hwT]; simp
     have hd1 : at_ (splB ⟨#[32]⟩ (at_ ls_1 k.toNat)) 1 = (at_ st.Templates (k.toNat - 1)).Label := by rw [hwT]; rfl
     refine x_r [(3, .dec false)] [0, 2, 6, 9, 20, 21, 22, 29] [2, 6, 761] [Sv s, .ref 2 0, .ref 6 0, slS true (splB ⟨#[32]⟩ (at_ ls_1 k.toNat)), slS true ls_1, I (ls_1.length : Int), I k, Bv false] [some (.box [I 0, nilA]), some (.box [I bd, .arr 761]), some (tATemplate true ts)] [(0 : Int) ≤ 0 ∧ 0 < (((splB ⟨#[32]⟩ (at_ ls_1 k.toNat)).length) : Int), ¬ ((at_ (splB ⟨#[32]⟩ (at_ ls_1 k.toNat)) 0) = (⟨#[115, 116, 111, 114, 101]⟩ : ByteArray))] ⟨⟨(by omega), (by omega)⟩, h2, trivial⟩ ?_
     refine xe_then ?_
     refine x_false rfl ?_
     refine xR [(3, .dec true), (7, .dec true)] [0, 2, 6, 9, 20, 21, 22, 47] [2, 6, 761] [Sv s, .ref 2 0, .ref 6 0, slS true (splB ⟨#[32]⟩ (at_ ls_1 k.toNat)), slS true ls_1, I (ls_1.length : Int), I k, Bv true] [some (.box [I 0, nilA]), some (.box [I bd, .arr 761]), some (tATemplate true ts)] [(0 : Int) ≤ 0 ∧ 0 < (((splB ⟨#[32]⟩ (at_ ls_1 k.toNat)).length) : Int), (at_ (splB ⟨#[32]⟩ (at_ ls_1 k.toNat)) 0) = (⟨#[116, 101, 109, 112, 108, 97, 116, 101]⟩ : ByteArray), 2 < (((splB ⟨#[32]⟩ (at_ ls_1 k.toNat)).length) : Int)] ⟨⟨(by omega), (by omega)⟩, (by rw [hwT]; rfl), (by omega), trivial⟩ ?_
     refine x_true rfl ?_
     refine x_seq ?_
     obtain ⟨v_2, c_2, hx2_0, hx2_1, hc2⟩ := readFeatWords_ok ((splB ⟨#[32]⟩ (at_ ls_1 k.toNat)).drop 2) (fun w hw => by have q := splB_piece (List.mem_of_mem_drop hw); omega) (by rw [List.length_drop]; omega)
     have hrf : v_2 = (at_ st.Templates (k.toNat - 1)).Feats := by rw [hx2_0, hwT, List.drop_succ_cons, List.drop_succ_cons, List.drop_zero, fts_rd hfm]
     refine x_r [(2, .call [(false, slS false ((splB ⟨#[32]⟩ (at_ ls_1 k.toNat)).drop 2))] true (.tup [slFeat true v_2, Bv c_2]))] [0, 2, 6, 9, 10, 20, 21, 22] [2, 6, 761] [Sv s, .ref 2 0, .ref 6 0, slS true (splB ⟨#[32]⟩ (at_ ls_1 k.toNat)), slFeat true v_2, slS true ls_1, I (ls_1.length : Int), I k] [some (.box [I 0, nilA]), some (.box [I bd, .arr 761]), some (tATemplate true ts)] [(0 : Int) ≤ 2 ∧ (2 : Int) ≤ (((splB ⟨#[32]⟩ (at_ ls_1 k.toNat)).length) : Int) ∧ (((splB ⟨#[32]⟩ (at_ ls_1 k.toNat)).length) : Int) ≤ (((splB ⟨#[32]⟩ (at_ ls_1 k.toNat)).length) : Int), Con Tryz.prog 103 [slS false ((splB ⟨#[32]⟩ (at_ ls_1 k.toNat)).drop 2)] true (.tup [slFeat true v_2, Bv c_2]) ∧ ((false = true → true = true) ∧ 1 = 1 ∧ ((((splB ⟨#[32]⟩ (at_ ls_1 k.toNat)).length) : Int).toNat - 2) = (((splB ⟨#[32]⟩ (at_ ls_1 k.toNat)).drop 2).length) ∧ ∀ i_, i_ < (((splB ⟨#[32]⟩ (at_ ls_1 k.toNat)).drop 2).length) → (cutF 2 (fS (splB ⟨#[32]⟩ (at_ ls_1 k.toNat)))) i_ = (fS ((splB ⟨#[32]⟩ (at_ ls_1 k.toNat)).drop 2)) i_ ∨ (AV.idsL ((fS ((splB ⟨#[32]⟩ (at_ ls_1 k.toNat)).drop 2)) i_) = [] ∧ leL (fun _ => none) false ((cutF 2 (fS (splB ⟨#[32]⟩ (at_ ls_1 k.toNat)))) i_) ((fS ((splB ⟨#[32]⟩ (at_ ls_1 k.toNat)).drop 2)) i_))) ∧ True] ⟨⟨(by omega), (by omega), (by omega)⟩, ⟨hc2, ⟨(fun h => by cases h), rfl, (by first | rfl | (simp; done) | (simp; omega) | omega), fun i_ hi_ => .inl (cut_drop (enc := cS) hi_)⟩, trivial⟩, trivial⟩ ?_
     refine xe_then ?_
     refine x_r [(7, .new 70), (8, .new 71)] [0, 2, 6, 20, 21, 22] [2, 6, 71] [Sv s, .ref 2 0, .ref 6 0, slS true ls_1, I (ls_1.length : Int), I k] [some (.box [I 0, nilA]), some (.box [I bd, .arr 71]), some (.arr 2 (ts.length + 1) (catF ts.length (fTemplate true ts) (litF [Sv (at_ (splB ⟨#[32]⟩ (at_ ls_1 k.toNat)) 1), slFeat true v_2] 2)))] [(0 : Int) ≤ 1 ∧ 1 < (((splB ⟨#[32]⟩ (at_ ls_1 k.toNat)).length) : Int), (ts.length + 1) * 40 ≤ 140737488355328] ⟨⟨(by omega), (by omega)⟩, (by omega), trivial⟩ ?_
     refine xe_block 2 ?_
     refine xe_block 1 ?_
     refine xe_then ?_
     refine x_r [] [0, 2, 6, 20, 21, 22] [2, 6, 71] [Sv s, .ref 2 0, .ref 6 0, slS true ls_1, I (ls_1.length : Int), I (k + 1)] [some (.box [I 0, nilA]), some (.box [I bd, .arr 71]), some (.arr 2 (ts.length + 1) (catF ts.length (fTemplate true ts) (litF [Sv (at_ (splB ⟨#[32]⟩ (at_ ls_1 k.toNat)) 1), slFeat true v_2] 2)))] [inR .i64 (k + 1)] ⟨(inR_i64 (by omega) (by omega)), trivial⟩ ?_
     refine xe_weak [(761, 71)] (T := [(0, Sv s), (2, .ref 2 0), (6, .ref 6 0), (20, slS true ls_1), (21, I (ls_1.length : Int)), (22, I (k + 1))]) (O := [(2, .box [I 0, nilA]), (6, .box [I bd, .arr 761]), (761, tATemplate true (ts ++ [(Template.mk (at_ (splB ⟨#[32]⟩ (at_ ls_1 k.toNat)) 1) v_2)]))]) rfl (⟨.inl rfl, .inl rfl, .inl rfl, .inl rfl, .inl rfl, .inl rfl, trivial⟩) (⟨.inl rfl, .inl rfl, .inr ⟨rfl, (by first | rfl | (simp; done) | (simp; omega) | omega), fun i_ hi_ => .inl (cat_snoc (enc := (cTemplate true)) (xs := ts) rfl i_ hi_)⟩, trivial⟩) (xe_again ((k + 1), bd, (ts ++ [(Template.mk (at_ (splB ⟨#[32]⟩ (at_ ls_1 k.toNat)) 1) v_2)])) rfl (show (0 ≤ (k + 1) ∧ (k + 1) ≤ (ls_1.length : Int)) ∧ (((ts ++ [(Template.mk (at_ (splB ⟨#[32]⟩ (at_ ls_1 k.toNat)) 1) v_2)]).length : Int) ≤ (k + 1)) ∧ (((k + 1) = 0 ∧ (ts ++ [(Template.mk (at_ (splB ⟨#[32]⟩ (at_ ls_1 k.toNat)) 1) v_2)]) = []) ∨ (1 ≤ (k + 1) ∧ bd = st.Band ∧ (ts ++ [(Template.mk (at_ (splB ⟨#[32]⟩ (at_ ls_1 k.toNat)) 1) v_2)]) = st.Templates.take ((k + 1).toNat - 1))) ∧ True from ⟨(by omega), (by first | omega | (simp; omega)), (by first | (refine .inr ⟨by omega, (by have hb_ := (okStore_iff.1 hok).1; rw [hd1, dcN_num (by omega)]), ?_⟩; rcases hst_ with q | q; (rw [q.2, hk0]; rfl); omega) | (rcases hst_ with q | q; (omega); (refine .inr ⟨by omega, q.2.1, ?_⟩; rw [q.2.2, hd1, hrf, show (k + 1).toNat - 1 = (k.toNat - 1) + 1 from by omega, List.take_succ_eq_append_getElem (by omega), at_eq (by omega)]))), trivial⟩) (by first | (show (((ls_1.length : Int) - (k + 1)).toNat : Nat) < ((ls_1.length : Int) - k).toNat; omega) | (dsimp only; omega)))
    have hke : k.toNat = st.Templates.length + 1 := by omega
    have hfin : Store.mk bd ts = st := by rcases hst_ with q | q; (omega); (rw [q.2.1, q.2.2, List.take_of_length_le (by omega)])
    refine x_r [(0, .dec false)] [0, 2, 6, 20, 21, 22, 23] [2, 6, 761] [Sv s, .ref 2 0, .ref 6 0, slS true ls_1, I (ls_1.length : Int), I k, Bv false] [some (.box [I 0, nilA]), some (.box [I bd, .arr 761]), some (tATemplate true ts)] [¬ (k < (ls_1.length : Int))] ⟨h1, trivial⟩ ?_
    refine xe_then ?_
    refine x_seq ?_
    refine x_false rfl ?_
    refine x_exit ?_
    refine xe_exit_then ?_
    refine xe_loop_exit ?_
    refine xe_exit_same ?_
    refine xe_then ?_
    refine x_seq ?_
    refine xR [(1, .call [(false, .agg [I bd, slTemplate false ts])] true (Bv true)), (5, .call [(false, .agg [I bd, slTemplate false ts])] true (Sv (stTx (Store.mk bd ts)))), (7, .dec false)] [2, 6, 82] [2, 6, 761] [.ref 2 0, .ref 6 0, Bv false] [some (.box [I 0, nilA]), some (.box [I bd, .arr 761]), some (tATemplate true ts)] [Con Tryz.prog 112 [.agg [I bd, slTemplate false ts]] true (Bv true) ∧ ((valOf (I bd) = valOf (I bd)) ∧ ((false = true → true = true) ∧ 2 = 2 ∧ ts.length = ts.length ∧ ∀ i_, i_ < ts.length → (fTemplate true ts) i_ = (fTemplate false ts) i_ ∨ (AV.idsL ((fTemplate false ts) i_) = [] ∧ leL (fun _ => none) false ((fTemplate true ts) i_) ((fTemplate false ts) i_))) ∧ ([] : List AV) = []) ∧ True, Con Tryz.prog 52 [.agg [I bd, slTemplate false ts]] true (Sv (stTx (Store.mk bd ts))) ∧ ((valOf (I bd) = valOf (I bd)) ∧ ((false = true → true = true) ∧ 2 = 2 ∧ ts.length = ts.length ∧ ∀ i_, i_ < ts.length → (fTemplate true ts) i_ = (fTemplate false ts) i_ ∨ (AV.idsL ((fTemplate false ts) i_) = [] ∧ leL (fun _ => none) false ((fTemplate true ts) i_) ((fTemplate false ts) i_))) ∧ ([] : List AV) = []) ∧ True, ¬ ((stTx (Store.mk bd ts)) ≠ s)] ⟨⟨(con_bool (by rw [hfin]; exact hok) (ValidStore_ok (Store.mk bd ts) (by rw [hfin]; exact hsz))), ⟨rfl, ⟨⟨(fun h => by cases h), rfl, rfl, fun i _ => .inr ⟨idsTemplate _ _, leTemplate _ _ _⟩⟩, rfl⟩⟩, trivial⟩, ⟨(StoreText_ok (Store.mk bd ts) (by rw [hfin]; exact hsz)), ⟨rfl, ⟨⟨(fun h => by cases h), rfl, rfl, fun i _ => .inr ⟨idsTemplate _ _, leTemplate _ _ _⟩⟩, rfl⟩⟩, trivial⟩, (fun hq => hq (by rw [hfin]; exact hsi.symm)), trivial⟩ ?_
    refine x_false rfl ?_
    refine x_skip ?_
    refine xe_then ?_
    refine xR [] [2, 3] [2, 761] [.ref 2 0, Bv true] [some (.box [I bd, .arr 761]), some (tATemplate true ts)] [] trivial ?_
    refine x_ret ?_
    refine xe_end ((Store.mk bd ts), true) (show ((Store.mk bd ts) = rdSt s) ∧ (true = true) ∧ (True) from ⟨(by first | (rw [hrd]; exact hfin) | rfl), (by first | (rw [hrd]; exact hfin) | rfl), trivial⟩) (trivial) (.tup [.agg [I bd, .arr 761], Bv true]) (by kernel_rfl) (.inr ⟨⟨rfl, ⟨⟨(fun _ => rfl), rfl, rfl, fun i _ => .inl rfl⟩, rfl⟩⟩, ⟨rfl, rfl⟩⟩) (fun _ => rfl) (fun _ => (by simp [tagged, taggedL, tagTemplate]))
  obtain ⟨⟨v, c⟩, ⟨hh0, hh1, _⟩, hc⟩ := hh
  exact ⟨v, c, hh0, hh1, hc⟩



theorem feat_ext {a b : Feat} (h1 : a.X = b.X) (h2 : a.Y = b.Y) (h3 : a.D = b.D) : a = b := by
  cases a; cases b; simp_all


-- spec.l11SameFeats
theorem l11SameFeats_ok (a : List Feat) (b : List Feat) : Con Tryz.prog 194 [slFeat false a, slFeat false b] true (Bv (sameL a b)) := by
  refine fn_ok (fn := Tryz.f194) (nt := 26) Tryz.func194 rfl rfl rfl rfl (by simp [taggedL, tagged, tagFeat]) fun B hB => ?_
  refine aw_lens (x := slFeat false a) 0 rfl (fun len_a => ?_)
  simp [LenOK, LenL, cFeat, fFeat, slFeat] at len_a
  refine aw_lens (x := slFeat false b) 1 rfl (fun len_b => ?_)
  simp [LenOK, LenL, cFeat, fFeat, slFeat] at len_b
  refine aR [] [0, 1] [] [slFeat false a, slFeat false b] [] [] hB trivial ?_
  refine aw_seq ?_
  refine aw_seq ?_
  by_cases h1 : (a.length : Int) = (b.length : Int)
  ·have hlen : a.length = b.length := by omega
   refine aw_r [(4, .dec false)] [0, 1, 10] [] [slFeat false a, slFeat false b, Bv false] [] [¬ ((a.length : Int) ≠ (b.length : Int))] hB ⟨(fun hq => hq h1), trivial⟩ ?_
   refine ae_then ?_
   refine aw_false rfl ?_
   refine aw_skip ?_
   refine ae_then ?_
   refine aw_seq ?_
   refine aR [] [0, 1, 5] [] [slFeat false a, slFeat false b, I 0] [] [] hB trivial ?_
   refine aw_block ?_
   refine aw_loop (fun gn gσ => ∃ (i : Int), gn = ((a.length : Int) - i).toNat ∧ (0 ≤ i ∧ i ≤ (a.length : Int)) ∧ (∀ j : Nat, (j : Int) < i → decide (at_ a j = at_ b j) = true) ∧ gσ = mkS [(0, slFeat false a), (1, slFeat false b), (5, I i)] []) (((a.length : Int) - 0).toNat) ⟨0, rfl, (by omega), (by intro j hj; omega), rfl⟩ (fun gn gσ hI => ?_)
   obtain ⟨i, rfl, hi0, hall0, rfl⟩ := hI
   refine aw_seq ?_
   refine aw_seq ?_
   by_cases h2 : i < (a.length : Int)
   ·have hi : i.toNat < a.length := by omega
    refine aw_r [(3, .dec true)] [0, 1, 5, 14] [] [slFeat false a, slFeat false b, I i, Bv true] [] [i < (a.length : Int)] hB ⟨h2, trivial⟩ ?_
    refine ae_then ?_
    refine aw_true rfl ?_
    refine aw_skip ?_
    refine ae_then ?_
    refine aw_seq ?_
    refine aw_block ?_
    refine aw_seq ?_
    by_cases h3 : ((at_ a i.toNat).X) = ((at_ b i.toNat).X) ∧ ((at_ a i.toNat).Y) = ((at_ b i.toNat).Y) ∧ ((at_ a i.toNat).D) = ((at_ b i.toNat).D) ∧ True
    ·have hok : decide (at_ a i.toNat = at_ b i.toNat) = true := decide_eq_true (feat_ext h3.1 h3.2.1 h3.2.2.1)
     refine aw_r [(8, .dec false)] [0, 1, 5, 25] [] [slFeat false a, slFeat false b, I i, Bv false] [] [(0 : Int) ≤ i ∧ i < (a.length : Int), (0 : Int) ≤ i ∧ i < (b.length : Int), ¬ (¬ (((at_ a i.toNat).X) = ((at_ b i.toNat).X) ∧ ((at_ a i.toNat).Y) = ((at_ b i.toNat).Y) ∧ ((at_ a i.toNat).D) = ((at_ b i.toNat).D) ∧ True))] hB ⟨⟨(by omega), (by omega)⟩, ⟨(by omega), (by omega)⟩, (fun hq => hq h3), trivial⟩ ?_
     refine ae_then ?_
     refine aw_false rfl ?_
     refine aw_skip ?_
     refine ae_block 1 ?_
     refine ae_then ?_
     refine aw_r [] [0, 1, 5] [] [slFeat false a, slFeat false b, I (i + 1)] [] [inR .i64 (i + 1)] hB ⟨(inR_i64 (by omega) (by omega)), trivial⟩ ?_
     exact ae_again _ (by omega) ⟨(i + 1), rfl, (by omega), (by intro j hj; by_cases ej : j = i.toNat; (subst ej; first | assumption | exact hok); exact hall0 j (by omega)), rfl⟩
    have hall : allN a.length (fun j => decide (at_ a j = at_ b j)) = false := allN_not hi (decide_eq_false (fun e => h3 ⟨by rw [e], by rw [e], by rw [e], trivial⟩))
    refine aw_r [(8, .dec true)] [0, 1, 5, 25] [] [slFeat false a, slFeat false b, I i, Bv true] [] [(0 : Int) ≤ i ∧ i < (a.length : Int), (0 : Int) ≤ i ∧ i < (b.length : Int), ¬ (((at_ a i.toNat).X) = ((at_ b i.toNat).X) ∧ ((at_ a i.toNat).Y) = ((at_ b i.toNat).Y) ∧ ((at_ a i.toNat).D) = ((at_ b i.toNat).D) ∧ True)] hB ⟨⟨(by omega), (by omega)⟩, ⟨(by omega), (by omega)⟩, h3, trivial⟩ ?_
    refine ae_then ?_
    refine aw_true rfl ?_
    refine aR [] [4] [] [Bv false] [] [] hB trivial ?_
    refine aw_ret ?_
    refine ae_ret_block (ae_ret_then (ae_ret_then (ae_ret_block (ae_ret_then ?_))))
    refine ae_ret hB (Bv false) (by kernel_rfl) (.inl (by first | (simp [sameL, hlen]; done) | (unfold sameL; rw [hall]; simp [hlen]))) rfl (fun _ => trivial)
   have hall : allN a.length (fun j => decide (at_ a j = at_ b j)) = true := allN_at (fun j hj => hall0 j (by omega))
   refine aw_r [(3, .dec false)] [0, 1, 5, 14] [] [slFeat false a, slFeat false b, I i, Bv false] [] [¬ (i < (a.length : Int))] hB ⟨h2, trivial⟩ ?_
   refine ae_then ?_
   refine aw_false rfl ?_
   refine aw_exit ?_
   refine ae_exit_then ?_
   refine ae_exit_then ?_
   refine ae_exit_same ?_
   refine ae_then ?_
   refine aR [] [4] [] [Bv true] [] [] hB trivial ?_
   refine aw_ret ?_
   refine ae_ret hB (Bv true) (by kernel_rfl) (.inl (by first | (simp [sameL, hlen]; done) | (unfold sameL; rw [hall]; simp [hlen]))) rfl (fun _ => trivial)
  have hlen : ¬ a.length = b.length := by omega
  refine aw_r [(4, .dec true)] [0, 1, 10] [] [slFeat false a, slFeat false b, Bv true] [] [(a.length : Int) ≠ (b.length : Int)] hB ⟨h1, trivial⟩ ?_
  refine ae_then ?_
  refine aw_true rfl ?_
  refine aR [] [4] [] [Bv false] [] [] hB trivial ?_
  refine aw_ret ?_
  refine ae_ret_then ?_
  refine ae_ret hB (Bv false) (by kernel_rfl) (.inl (by first | (simp [sameL, hlen]; done) | (unfold sameL; rw [hall]; simp [hlen]))) rfl (fun _ => trivial)



def sameTm (a b : Template) : Bool := decide (a.Label = b.Label) && sameL a.Feats b.Feats
def sameSt (a b : Store) : Bool := decide (a.Band = b.Band) && (decide (a.Templates.length = b.Templates.length) && allN a.Templates.length (fun j => sameTm (at_ a.Templates j) (at_ b.Templates j)))
theorem sameSt_refl (a : Store) : sameSt a a = true := by
  unfold sameSt
  rw [decide_eq_true rfl, decide_eq_true rfl, Bool.true_and, Bool.true_and]
  exact allN_at fun j _ => by unfold sameTm; rw [decide_eq_true rfl, sameL_refl]; rfl


-- spec.l11Same
theorem l11SameS_ok (a : Store) (b : Store) : Con Tryz.prog 121 [.ptr false [I a.Band, slTemplate false a.Templates], .ptr false [I b.Band, slTemplate false b.Templates]] true (Bv (sameSt a b)) := by
  refine fn_ok (fn := Tryz.f121) (nt := 74) Tryz.func121 rfl rfl rfl rfl (by simp [taggedL, tagged, tagTemplate]) fun B hB => ?_
  refine aw_lens (x := .ptr false [I a.Band, slTemplate false a.Templates]) 0 rfl (fun len_a => ?_)
  simp [LenOK, LenL, cFeat, cTemplate, fFeat, fTemplate, slFeat, slTemplate] at len_a
  refine aw_lens (x := .ptr false [I b.Band, slTemplate false b.Templates]) 1 rfl (fun len_b => ?_)
  simp [LenOK, LenL, cFeat, cTemplate, fFeat, fTemplate, slFeat, slTemplate] at len_b
  refine aR [] [0, 1] [] [.ptr false [I a.Band, slTemplate false a.Templates], .ptr false [I b.Band, slTemplate false b.Templates]] [] [] hB trivial ?_
  refine aw_seq ?_
  refine aw_seq ?_
  by_cases h1 : a.Band = b.Band
  ·have hbd :  a.Band = b.Band := h1
   by_cases h2 : (a.Templates.length : Int) = (b.Templates.length : Int)
   ·have hlen :  a.Templates.length = b.Templates.length := by omega
    refine aw_r [(8, .dec false), (20, .dec false)] [0, 1, 27] [] [.ptr false [I a.Band, slTemplate false a.Templates], .ptr false [I b.Band, slTemplate false b.Templates], Bv false] [] [¬ (a.Band ≠ b.Band), ¬ ((a.Templates.length : Int) ≠ (b.Templates.length : Int))] hB ⟨(fun hq => hq h1), (fun hq => hq h2), trivial⟩ ?_
    refine ae_then ?_
    refine aw_false rfl ?_
    refine aw_skip ?_
    refine ae_then ?_
    refine aw_seq ?_
    refine aR [] [0, 1, 5] [] [.ptr false [I a.Band, slTemplate false a.Templates], .ptr false [I b.Band, slTemplate false b.Templates], I 0] [] [] hB trivial ?_
    refine aw_block ?_
    refine aw_loop (fun gn gσ => ∃ (i : Int), gn = ((a.Templates.length : Int) - i).toNat ∧ (0 ≤ i ∧ i ≤ (a.Templates.length : Int)) ∧ (∀ j : Nat, (j : Int) < i → sameTm (at_ a.Templates j) (at_ b.Templates j) = true) ∧ gσ = mkS [(0, .ptr false [I a.Band, slTemplate false a.Templates]), (1, .ptr false [I b.Band, slTemplate false b.Templates]), (5, I i)] []) (((a.Templates.length : Int) - 0).toNat) ⟨0, rfl, (by omega), (by intro j hj; omega), rfl⟩ (fun gn gσ hI => ?_)
    obtain ⟨i, rfl, hi0, hall0, rfl⟩ := hI
    refine aw_seq ?_
    refine aw_seq ?_
    by_cases h3 : i < (a.Templates.length : Int)
    ·have hi : i.toNat < a.Templates.length := by omega
     have hi2 : i.toNat < b.Templates.length := by omega
     refine aw_r [(6, .dec true)] [0, 1, 5, 34] [] [.ptr false [I a.Band, slTemplate false a.Templates], .ptr false [I b.Band, slTemplate false b.Templates], I i, Bv true] [] [i < (a.Templates.length : Int)] hB ⟨h3, trivial⟩ ?_
     refine ae_then ?_
     refine aw_true rfl ?_
     refine aw_skip ?_
     refine ae_then ?_
     refine aw_seq ?_
     refine aw_block ?_
     refine aw_seq ?_
     by_cases h4 : ((at_ a.Templates i.toNat).Label) = ((at_ b.Templates i.toNat).Label)
     ·have hlb := h4
      rcases Bool.eq_false_or_eq_true (sameL ((at_ a.Templates i.toNat).Feats) ((at_ b.Templates i.toNat).Feats)) with h5 | h5
      ·have hok : sameTm (at_ a.Templates i.toNat) (at_ b.Templates i.toNat) = true := by unfold sameTm; rw [decide_eq_true hlb, h5]; rfl
       refine aw_r [(16, .dec false), (34, .call [(true, .any), (true, .any)] true (Bv true))] [0, 1, 5, 73] [] [.ptr false [I a.Band, slTemplate false a.Templates], .ptr false [I b.Band, slTemplate false b.Templates], I i, Bv false] [] [(0 : Int) ≤ i ∧ i < (a.Templates.length : Int), (0 : Int) ≤ i ∧ i < (b.Templates.length : Int), ¬ (((at_ a.Templates i.toNat).Label) ≠ ((at_ b.Templates i.toNat).Label)), (0 : Int) ≤ i ∧ i < (a.Templates.length : Int), (0 : Int) ≤ i ∧ i < (b.Templates.length : Int), Con Tryz.prog 194 [slFeat false ((at_ a.Templates i.toNat).Feats), slFeat false ((at_ b.Templates i.toNat).Feats)] true (Bv true) ∧ True] hB ⟨⟨(by omega), (by omega)⟩, ⟨(by omega), (by omega)⟩, (fun hq => hq h4), ⟨(by omega), (by omega)⟩, ⟨(by omega), (by omega)⟩, ⟨(con_bool h5 (l11SameFeats_ok ((at_ a.Templates i.toNat).Feats) ((at_ b.Templates i.toNat).Feats))), trivial⟩, trivial⟩ ?_
       refine ae_then ?_
       refine aw_false rfl ?_
       refine aw_skip ?_
       refine ae_block 1 ?_
       refine ae_then ?_
       refine aw_r [] [0, 1, 5] [] [.ptr false [I a.Band, slTemplate false a.Templates], .ptr false [I b.Band, slTemplate false b.Templates], I (i + 1)] [] [inR .i64 (i + 1)] hB ⟨(inR_i64 (by omega) (by omega)), trivial⟩ ?_
       exact ae_again _ (by omega) ⟨(i + 1), rfl, (by omega), (by intro j hj; by_cases ej : j = i.toNat; (subst ej; first | assumption | exact hok); exact hall0 j (by omega)), rfl⟩
      have hall : allN a.Templates.length (fun j => sameTm (at_ a.Templates j) (at_ b.Templates j)) = false := allN_not hi (by unfold sameTm; rw [h5]; simp)
      refine aw_r [(16, .dec false), (34, .call [(true, .any), (true, .any)] true (Bv false))] [0, 1, 5, 73] [] [.ptr false [I a.Band, slTemplate false a.Templates], .ptr false [I b.Band, slTemplate false b.Templates], I i, Bv true] [] [(0 : Int) ≤ i ∧ i < (a.Templates.length : Int), (0 : Int) ≤ i ∧ i < (b.Templates.length : Int), ¬ (((at_ a.Templates i.toNat).Label) ≠ ((at_ b.Templates i.toNat).Label)), (0 : Int) ≤ i ∧ i < (a.Templates.length : Int), (0 : Int) ≤ i ∧ i < (b.Templates.length : Int), Con Tryz.prog 194 [slFeat false ((at_ a.Templates i.toNat).Feats), slFeat false ((at_ b.Templates i.toNat).Feats)] true (Bv false) ∧ True] hB ⟨⟨(by omega), (by omega)⟩, ⟨(by omega), (by omega)⟩, (fun hq => hq h4), ⟨(by omega), (by omega)⟩, ⟨(by omega), (by omega)⟩, ⟨(con_bool h5 (l11SameFeats_ok ((at_ a.Templates i.toNat).Feats) ((at_ b.Templates i.toNat).Feats))), trivial⟩, trivial⟩ ?_
      refine ae_then ?_
      refine aw_true rfl ?_
      refine aR [] [4] [] [Bv false] [] [] hB trivial ?_
      refine aw_ret ?_
      refine ae_ret_block (ae_ret_then (ae_ret_then (ae_ret_block (ae_ret_then ?_))))
      refine ae_ret hB (Bv false) (by kernel_rfl) (.inl (by refine congrArg Bv ?_; unfold sameSt; first | (rw [decide_eq_false hbd]; rfl) | (rw [decide_eq_true hbd, decide_eq_false hlen]; rfl) | (rw [decide_eq_true hbd, decide_eq_true hlen, hall]; rfl))) rfl (fun _ => trivial)
     have hall : allN a.Templates.length (fun j => sameTm (at_ a.Templates j) (at_ b.Templates j)) = false := allN_not hi (by unfold sameTm; rw [decide_eq_false h4]; rfl)
     refine aw_r [(16, .dec true)] [0, 1, 5, 73] [] [.ptr false [I a.Band, slTemplate false a.Templates], .ptr false [I b.Band, slTemplate false b.Templates], I i, Bv true] [] [(0 : Int) ≤ i ∧ i < (a.Templates.length : Int), (0 : Int) ≤ i ∧ i < (b.Templates.length : Int), ((at_ a.Templates i.toNat).Label) ≠ ((at_ b.Templates i.toNat).Label)] hB ⟨⟨(by omega), (by omega)⟩, ⟨(by omega), (by omega)⟩, h4, trivial⟩ ?_
     refine ae_then ?_
     refine aw_true rfl ?_
     refine aR [] [4] [] [Bv false] [] [] hB trivial ?_
     refine aw_ret ?_
     refine ae_ret_block (ae_ret_then (ae_ret_then (ae_ret_block (ae_ret_then ?_))))
     refine ae_ret hB (Bv false) (by kernel_rfl) (.inl (by refine congrArg Bv ?_; unfold sameSt; first | (rw [decide_eq_false hbd]; rfl) | (rw [decide_eq_true hbd, decide_eq_false hlen]; rfl) | (rw [decide_eq_true hbd, decide_eq_true hlen, hall]; rfl))) rfl (fun _ => trivial)
    have hall : allN a.Templates.length (fun j => sameTm (at_ a.Templates j) (at_ b.Templates j)) = true := allN_at (fun j hj => hall0 j (by omega))
    refine aw_r [(6, .dec false)] [0, 1, 5, 34] [] [.ptr false [I a.Band, slTemplate false a.Templates], .ptr false [I b.Band, slTemplate false b.Templates], I i, Bv false] [] [¬ (i < (a.Templates.length : Int))] hB ⟨h3, trivial⟩ ?_
    refine ae_then ?_
    refine aw_false rfl ?_
    refine aw_exit ?_
    refine ae_exit_then ?_
    refine ae_exit_then ?_
    refine ae_exit_same ?_
    refine ae_then ?_
    refine aR [] [4] [] [Bv true] [] [] hB trivial ?_
    refine aw_ret ?_
    refine ae_ret hB (Bv true) (by kernel_rfl) (.inl (by refine congrArg Bv ?_; unfold sameSt; first | (rw [decide_eq_false hbd]; rfl) | (rw [decide_eq_true hbd, decide_eq_false hlen]; rfl) | (rw [decide_eq_true hbd, decide_eq_true hlen, hall]; rfl))) rfl (fun _ => trivial)
   have hlen : ¬ a.Templates.length = b.Templates.length := by omega
   refine aw_r [(8, .dec false), (20, .dec true)] [0, 1, 27] [] [.ptr false [I a.Band, slTemplate false a.Templates], .ptr false [I b.Band, slTemplate false b.Templates], Bv true] [] [¬ (a.Band ≠ b.Band), (a.Templates.length : Int) ≠ (b.Templates.length : Int)] hB ⟨(fun hq => hq h1), h2, trivial⟩ ?_
   refine ae_then ?_
   refine aw_true rfl ?_
   refine aR [] [4] [] [Bv false] [] [] hB trivial ?_
   refine aw_ret ?_
   refine ae_ret_then ?_
   refine ae_ret hB (Bv false) (by kernel_rfl) (.inl (by refine congrArg Bv ?_; unfold sameSt; first | (rw [decide_eq_false hbd]; rfl) | (rw [decide_eq_true hbd, decide_eq_false hlen]; rfl) | (rw [decide_eq_true hbd, decide_eq_true hlen, hall]; rfl))) rfl (fun _ => trivial)
  have hbd : ¬ a.Band = b.Band := h1
  refine aw_r [(8, .dec true)] [0, 1, 27] [] [.ptr false [I a.Band, slTemplate false a.Templates], .ptr false [I b.Band, slTemplate false b.Templates], Bv true] [] [a.Band ≠ b.Band] hB ⟨h1, trivial⟩ ?_
  refine ae_then ?_
  refine aw_true rfl ?_
  refine aR [] [4] [] [Bv false] [] [] hB trivial ?_
  refine aw_ret ?_
  refine ae_ret_then ?_
  refine ae_ret hB (Bv false) (by kernel_rfl) (.inl (by refine congrArg Bv ?_; unfold sameSt; first | (rw [decide_eq_false hbd]; rfl) | (rw [decide_eq_true hbd, decide_eq_false hlen]; rfl) | (rw [decide_eq_true hbd, decide_eq_true hlen, hall]; rfl))) rfl (fun _ => trivial)



-- spec.SameStore
theorem specSameStore_ok (a : Store) (b : Store) : Con Tryz.prog 53 [agStore a, agStore b] true (Bv (sameSt a b)) := by
  refine fn_ok (fn := Tryz.f53) (nt := 6) Tryz.func53 rfl rfl rfl rfl (by simp [taggedL, tagged, tagTemplate]) fun B hB => ?_
  refine aw_lens (x := agStore a) 0 rfl (fun len_a => ?_)
  simp [LenOK, LenL, cFeat, cTemplate, fFeat, fTemplate, slFeat, slTemplate] at len_a
  refine aw_lens (x := agStore b) 1 rfl (fun len_b => ?_)
  simp [LenOK, LenL, cFeat, cTemplate, fFeat, fTemplate, slFeat, slTemplate] at len_b
  refine aR [(0, .new 2), (1, .new 3)] [2, 3] [2, 3] [.ref 2 0, .ref 3 0] [some (bxStore a), some (bxStore b)] [] hB trivial ?_
  refine aR [(0, .call [(false, .ptr false [I a.Band, slTemplate false a.Templates]), (false, .ptr false [I b.Band, slTemplate false b.Templates])] true (Bv (sameSt a b)))] [4] [] [Bv (sameSt a b)] [] [Con Tryz.prog 121 [.ptr false [I a.Band, slTemplate false a.Templates], .ptr false [I b.Band, slTemplate false b.Templates]] true (Bv (sameSt a b)) ∧ ((false = true → true = true) ∧ AV.idsL [I a.Band, slTemplate false a.Templates] = [] ∧ (valOf (I a.Band) = valOf (I a.Band)) ∧ ((false = true → false = true) ∧ 2 = 2 ∧ a.Templates.length = a.Templates.length ∧ ∀ i_, i_ < a.Templates.length → (fTemplate false a.Templates) i_ = (fTemplate false a.Templates) i_ ∨ (AV.idsL ((fTemplate false a.Templates) i_) = [] ∧ leL (fun _ => none) false ((fTemplate false a.Templates) i_) ((fTemplate false a.Templates) i_))) ∧ ([] : List AV) = []) ∧ ((false = true → true = true) ∧ AV.idsL [I b.Band, slTemplate false b.Templates] = [] ∧ (valOf (I b.Band) = valOf (I b.Band)) ∧ ((false = true → false = true) ∧ 2 = 2 ∧ b.Templates.length = b.Templates.length ∧ ∀ i_, i_ < b.Templates.length → (fTemplate false b.Templates) i_ = (fTemplate false b.Templates) i_ ∨ (AV.idsL ((fTemplate false b.Templates) i_) = [] ∧ leL (fun _ => none) false ((fTemplate false b.Templates) i_) ((fTemplate false b.Templates) i_))) ∧ ([] : List AV) = []) ∧ True] hB ⟨⟨(l11SameS_ok a b), ⟨(fun h => by cases h), rfl, ⟨rfl, ⟨⟨(fun h => by cases h), rfl, rfl, fun i _ => .inl rfl⟩, rfl⟩⟩⟩, ⟨(fun h => by cases h), rfl, ⟨rfl, ⟨⟨(fun h => by cases h), rfl, rfl, fun i _ => .inl rfl⟩, rfl⟩⟩⟩, trivial⟩, trivial⟩ ?_
  refine aw_ret ?_
  refine ae_ret hB (Bv (sameSt a b)) (by kernel_rfl) (.inl rfl) rfl (fun _ => trivial)



-- slices.Sort[[]string,string]
theorem sortSS_ok (list : List ByteArray) (hl : list.length < 4611686018427387904) : ∃ (list' : List ByteArray), (list' = sortB list) ∧ CallOK Tryz.prog 122 [.arr 7202] (lookO [(7202, .arr 1 list.length (fS list))]) false (.tup []) (lookO [(7202, .arr 1 list'.length (fS list'))]) :=
  ⟨sortB list, rfl, sortS_callOK (fun blk off cap zs w h1 h2 h3 => Tryz.slices_Sort_string blk off cap zs w h1 h2 h3) (fun p cap w => Tryz.slices_Sort_string_none p cap w) 7202 list hl⟩



-- slices.Compact[[]string,string]
theorem compSS_ok {xs : List ByteArray} (h1 : 1 ≤ xs.length) : MvcOK Tryz.prog 123 1 xs.length (cmpB xs).length (fS xs) (fS (cmpB xs)) [] :=
  comp_mvc (fun blk off cap zs w h1 h2 h3 => Tryz.slices_Compact_string blk off cap zs w h1 h2 h3) h1



def labs (s : Store) : List ByteArray := s.Templates.map (·.Label)


-- impl.LabelsOf
theorem LabelsOf_ok (s : Store) (hst : okStore' s = true) (h1 : 1 ≤ s.Templates.length) : ∃ (v : List ByteArray) (c : Int), (v = cmpB (sortB (labs s))) ∧ (c = 0) ∧ Con Tryz.prog 54 [agStore s] true (.tup [slS true v, I c]) := by
  have hsz := okSt_sz hst
  have h40 := (okStore_iff.1 hst).2.1
  have hh : ∃ r : (List ByteArray) × Int, ((r.1 = cmpB (sortB (labs s))) ∧ (r.2 = 0) ∧ (True)) ∧ CallOK Tryz.prog 54 [agStore s] (lookO []) true (.tup [slS true r.1, I r.2]) (lookO []) := by
    refine fn_okX (Φ := fun r : (List ByteArray) × Int => (r.1 = cmpB (sortB (labs s))) ∧ (r.2 = 0) ∧ (True)) [] (fun r => []) (fn := Tryz.f54) (nt := 27) Tryz.func54 rfl rfl (args := [agStore s]) rfl (allcons (.inl ⟨rfl, by simp [tagged, taggedL, tagTemplate]⟩) allnil) (res := fun r => .tup [slS true r.1, I r.2]) ?_
    refine xR [(0, .new 1)] [1] [1] [.ref 1 0] [some (bxStore s)] [] trivial ?_
    refine x_seq ?_
    refine xR [(1, .call [(true, .any)] true (Bv true))] [1, 9] [1] [.ref 1 0, Bv false] [some (bxStore s)] [Con Tryz.prog 112 [agStore s] true (Bv true) ∧ True] ⟨⟨(con_bool hst (ValidStore_ok s hsz)), trivial⟩, trivial⟩ ?_
    refine x_false rfl ?_
    refine x_skip ?_
    refine xe_then ?_
    refine xR [] [1, 4] [1] [.ref 1 0, nilA] [some (bxStore s)] [] trivial ?_
    refine x_seq ?_
    refine xR [] [4, 11, 12, 13] [] [nilA, slTemplate false s.Templates, I (s.Templates.length : Int), I 0] [] [] trivial ?_
    refine x_block ?_
    refine x_nil 4 704 1 (fun _ => []) (by kernel_rfl) ?_
    refine x_weak [] (T := [(4, .arr 704), (11, slTemplate false s.Templates), (12, I (s.Templates.length : Int)), (13, I 0)]) (O := [(704, tAS ([] : List ByteArray))]) rfl (⟨.inl rfl, .inl rfl, .inl rfl, .inl rfl, trivial⟩) (⟨.inr ⟨rfl, (by first | rfl | (simp; done) | (simp; omega) | omega), fun i_ hi_ => absurd hi_ (Nat.not_lt_zero _)⟩, trivial⟩) ?_
    refine x_loop (X := (List ByteArray) × Int) (fun x => mkS [(4, .arr 704), (11, slTemplate false s.Templates), (12, I (s.Templates.length : Int)), (13, I x.2)] [(704, tAS x.1)]) (fun x => (0 ≤ x.2 ∧ x.2 ≤ (s.Templates.length : Int)) ∧ ((x.1.length : Int) = x.2) ∧ (x.1 = (s.Templates.take x.2.toNat).map (·.Label)) ∧ True) (fun x => ((s.Templates.length : Int) - x.2).toNat) (([] : List ByteArray), 0) rfl (show (0 ≤ (0 : Int) ∧ (0 : Int) ≤ (s.Templates.length : Int)) ∧ ((([] : List ByteArray).length : Int) = (0 : Int)) ∧ (([] : List ByteArray) = (s.Templates.take (0 : Int).toNat).map (·.Label)) ∧ True from ⟨(by omega), (by rfl), (by rfl), trivial⟩) (fun x hI => ?_)
    obtain ⟨labels, t13⟩ := x
    obtain ⟨hi0, hl0, hts, _⟩ : (0 ≤ t13 ∧ t13 ≤ (s.Templates.length : Int)) ∧ ((labels.length : Int) = t13) ∧ (labels = (s.Templates.take t13.toNat).map (·.Label)) ∧ True := hI
    show XW _ _ _ _ (mkS [(4, .arr 704), (11, slTemplate false s.Templates), (12, I (s.Templates.length : Int)), (13, I t13)] [(704, tAS labels)]) _ _
    refine x_seq ?_
    by_cases h1 : t13 < (s.Templates.length : Int)
    ·have hi : t13.toNat < s.Templates.length := by omega
     refine x_r [(0, .dec true)] [4, 11, 12, 13, 14] [704] [.arr 704, slTemplate false s.Templates, I (s.Templates.length : Int), I t13, Bv true] [some (tAS labels)] [t13 < (s.Templates.length : Int)] ⟨h1, trivial⟩ ?_
     refine xe_then ?_
     refine x_seq ?_
     refine x_true rfl ?_
     refine x_skip ?_
     refine xe_then ?_
     refine x_seq ?_
     refine x_block ?_
     refine xR [(2, .new 6)] [4, 6, 11, 12, 13] [6, 704] [.arr 704, .ref 6 0, slTemplate false s.Templates, I (s.Templates.length : Int), I t13] [some (bxTemplate (at_ s.Templates t13.toNat)), some (tAS labels)] [(0 : Int) ≤ t13 ∧ t13 < (s.Templates.length : Int)] ⟨⟨(by omega), (by omega)⟩, trivial⟩ ?_
     refine x_r [(3, .new 20), (4, .new 21)] [4, 11, 12, 13] [21] [.arr 21, slTemplate false s.Templates, I (s.Templates.length : Int), I t13] [some (.arr 1 (labels.length + 1) (catF labels.length (fS labels) (litF [Sv ((at_ s.Templates t13.toNat).Label)] 1)))] [(labels.length + 1) * 16 ≤ 140737488355328] ⟨(by omega), trivial⟩ ?_
     refine xe_block 1 ?_
     refine xe_then ?_
     refine x_r [] [4, 11, 12, 13] [21] [.arr 21, slTemplate false s.Templates, I (s.Templates.length : Int), I (t13 + 1)] [some (.arr 1 (labels.length + 1) (catF labels.length (fS labels) (litF [Sv ((at_ s.Templates t13.toNat).Label)] 1)))] [inR .i64 (t13 + 1)] ⟨(inR_i64 (by omega) (by omega)), trivial⟩ ?_
     refine xe_weak [(704, 21)] (T := [(4, .arr 704), (11, slTemplate false s.Templates), (12, I (s.Templates.length : Int)), (13, I (t13 + 1))]) (O := [(704, tAS (labels ++ [(at_ s.Templates t13.toNat).Label]))]) rfl (⟨.inl rfl, .inl rfl, .inl rfl, .inl rfl, trivial⟩) (⟨.inr ⟨rfl, (by first | rfl | (simp; done) | (simp; omega) | omega), fun i_ hi_ => .inl (cat_snoc (enc := cS) (xs := labels) rfl i_ hi_)⟩, trivial⟩) (xe_again ((labels ++ [(at_ s.Templates t13.toNat).Label]), (t13 + 1)) rfl (show (0 ≤ (t13 + 1) ∧ (t13 + 1) ≤ (s.Templates.length : Int)) ∧ (((labels ++ [(at_ s.Templates t13.toNat).Label]).length : Int) = (t13 + 1)) ∧ ((labels ++ [(at_ s.Templates t13.toNat).Label]) = (s.Templates.take (t13 + 1).toNat).map (·.Label)) ∧ True from ⟨(by omega), (by simp; omega), (by rw [hts, show (t13 + 1).toNat = t13.toNat + 1 from by omega, List.take_succ_eq_append_getElem hi, List.map_append, at_eq hi]; rfl), trivial⟩) (by first | (show (((s.Templates.length : Int) - (t13 + 1)).toNat : Nat) < ((s.Templates.length : Int) - t13).toNat; omega) | (dsimp only; omega)))
    have hfin : labels = labs s := by rw [hts]; unfold labs; rw [List.take_of_length_le (by omega)]
    refine x_r [(0, .dec false)] [4, 11, 12, 13, 14] [704] [.arr 704, slTemplate false s.Templates, I (s.Templates.length : Int), I t13, Bv false] [some (tAS labels)] [¬ (t13 < (s.Templates.length : Int))] ⟨h1, trivial⟩ ?_
    refine xe_then ?_
    refine x_seq ?_
    refine x_false rfl ?_
    refine x_exit ?_
    refine xe_exit_then ?_
    refine xe_loop_exit ?_
    refine xe_exit_same ?_
    refine xe_then ?_
    refine x_seq ?_
    refine x_weak [(7202, 704)] (T := [(4, .arr 7202), (11, slTemplate false s.Templates), (12, I (s.Templates.length : Int)), (13, I t13), (14, Bv false)]) (O := [(7202, tAS labels)]) rfl (⟨.inl rfl, .inl rfl, .inl rfl, .inl rfl, .inl rfl, trivial⟩) (⟨.inl rfl, trivial⟩) ?_
    obtain ⟨list'_1, hx1_0, hc1⟩ := sortSS_ok labels (by omega)
    have hsb := hx1_0
    have hsl : list'_1.length = s.Templates.length := by rw [hsb, sortB_len]; first | omega | (rw [hfin]; simp [labs])
    refine x_r [(1, .lend [(7202, tAS labels, tAS list'_1)] [] [(true, .any)] false (.tup []))] [4] [7202] [.arr 7202] [some (tAS list'_1)] [CallOK Tryz.prog 122 [.arr 7202] (lookO [(7202, tAS labels)]) false (.tup []) (lookO [(7202, tAS list'_1)]) ∧ (((tAS labels : Ob) = tAS labels ∨ obLe noOb true (tAS labels) (tAS labels)) ∧ taggedO false (tAS labels)) ∧ True] ⟨⟨hc1, ⟨.inl rfl, fun _ _ => tagcS false _⟩, trivial⟩, trivial⟩ ?_
    refine xe_then ?_
    refine xR [(1, .movc 7202 8413 1 list'_1.length ((cmpB list'_1).length) (fS list'_1) (fS (cmpB list'_1)) [])] [2, 3] [8413] [.arr 8413, I 0] [some (tAS (cmpB list'_1))] [(([.arr 7202] : List AV) = [.arr 7202]) ∧ ((tAS list'_1 : Ob) = .arr 1 list'_1.length (fS list'_1)) ∧ MvcOK Tryz.prog 123 1 list'_1.length ((cmpB list'_1).length) (fS list'_1) (fS (cmpB list'_1)) []] ⟨⟨rfl, rfl, compSS_ok (by (try rw [hsl]); omega)⟩, trivial⟩ ?_
    refine x_ret ?_
    refine xe_end ((cmpB list'_1), 0) (show ((cmpB list'_1) = cmpB (sortB (labs s))) ∧ (0 = 0) ∧ (True) from ⟨(by first | rfl | (rw [hsb, hfin]; done) | (simp only [*]; done)), (by first | rfl | (rw [hsb, hfin]; done) | (simp only [*]; done)), trivial⟩) (trivial) (.tup [.arr 8413, I 0]) (by kernel_rfl) (.inr ⟨⟨(fun _ => rfl), rfl, rfl, fun i _ => .inl rfl⟩, ⟨rfl, rfl⟩⟩) (fun _ => rfl) (fun _ => (by simp [tagged, taggedL, tagS]))
  obtain ⟨⟨v, c⟩, ⟨hh0, hh1, _⟩, hc⟩ := hh
  exact ⟨v, c, hh0, hh1, hc⟩



def bk (a b : List Feat) (band : Int) : Nat → Nat → Nat → List Pair
  | 0, i, j => [⟨i, j⟩]
  | s + 1, i, j => if i = 0 ∧ j = 0 then [⟨i, j⟩] else ⟨i, j⟩ :: bk a b band s (nx a b band i j).1 (nx a b band i j).2
def tot (a b : List Feat) (band : Int) : List Pair := bk a b band (a.length + b.length - 1) (a.length - 1) (b.length - 1)
def isNx (a b : List Feat) (band i j i2 j2 : Int) : Prop := (0 ≤ i2 ∧ i2 ≤ i) ∧ (0 ≤ j2 ∧ j2 ≤ j) ∧ i2.toNat = (nx a b band i.toNat j.toNat).1 ∧ j2.toNat = (nx a b band i.toNat j.toNat).2



def pcL (a b : List Feat) : List Pair → Int
  | [] => 0
  | p :: r => costF (at_ a p.I.toNat) (at_ b p.J.toNat) + pcL a b r
theorem cv_00 {a b : List Feat} {band : Int} (hb : inBd band 0 0) : cv farS a b band 0 0 = costF (at_ a 0) (at_ b 0) := by
  have hF : farS = 1000000000 := rfl
  unfold inBd at hb
  rw [cv, stp_add (by omega) (by omega)]; omega
def smL {α : Type} (f : α → Int) : List α → Int
  | [] => 0
  | x :: r => f x + smL f r

theorem okSt_of {s : Store} (h1 : 2 ≤ s.Band ∧ s.Band ≤ 7) (h2 : s.Templates.length ≤ 6) (h3 : ∀ t ∈ s.Templates, okTm t = true) : okStore' s = true := okStore_iff.2 ⟨by omega, by omega, fun j hj => h3 _ (at_mem hj)⟩
def zT (f : List Feat) : Template := ⟨⟨#[122]⟩, f⟩
def zS (s : Store) (f : List Feat) : Store := ⟨s.Band, s.Templates ++ [zT f]⟩
theorem zT_ok {f : List Feat} (h : okFeats f 72 = true) : okTm (zT f) = true := okTm_iff'.2 ⟨(by decide : okLabel ⟨#[122]⟩ = true), h⟩
theorem zS_len (s : Store) (f : List Feat) : (zS s f).Templates.length = s.Templates.length + 1 := by simp [zS]
theorem zS_at (s : Store) (f : List Feat) : at_ (zS s f).Templates s.Templates.length = zT f := by
  show at_ (s.Templates ++ [zT f]) _ = _
  rw [at_right (Nat.le_refl _), Nat.sub_self]; rfl
theorem zS_ok {s : Store} {f : List Feat} (h : okStore' s = true) (h6 : s.Templates.length ≤ 6) (hf : okFeats f 72 = true) : okStore' (zS s f) = true := by
  have q := okStore_iff.1 h
  refine okStore_iff.2 ⟨q.1, by rw [zS_len]; omega, fun j hj => ?_⟩
  rw [zS_len] at hj
  by_cases e : j = s.Templates.length
  · rw [e, zS_at]; exact zT_ok hf
  · show okTm (at_ (s.Templates ++ [zT f]) j) = true
    rw [at_left (by omega)]; exact q.2.2 j (by omega)
theorem costF_self (a : Feat) : costF a a = 0 := by unfold costF; omega
theorem cv_self {a : List Feat} {band : Int} (hb : 0 ≤ band) (hab : okAB a a) : ∀ i, i < a.length → cv farS a a band i i = 0
  | 0, hi => by
    rw [cv_00 (by unfold inBd; omega)]; exact costF_self _
  | i + 1, hi => by
    obtain ⟨x, h1, _, _, h2, _⟩ := cv_add (far := farS) (by decide) hab hi hi (band := band) (by unfold inBd; omega) (by omega)
    have h3 := h2 (by omega) (by omega)
    have h4 := cv_nn (far := farS) (by decide) band hab (i + 1) (i + 1) hi hi
    rw [costF_self] at h1
    have h5 := cv_self hb hab i (by omega)
    rw [show i + 1 - 1 = i from rfl, h5] at h3
    omega
theorem near_self {s : Store} {f : List Feat} (h : okStore' s = true) (h6 : s.Templates.length ≤ 6) (hf : okFeats f 72 = true) : (nsL (zS s f) f 1).length = 1 ∧ (at_ (nsL (zS s f) f 1) 0).Cost = 0 := by
  have hz := zS_ok h h6 hf
  have hb := (okStore_iff.1 h).1
  have hin : inS (zS s f) f s.Templates.length = true := by
    unfold inS
    rw [zS_at]
    show (inB s.Band 0 72 && decide ((((f.length : Int) - (f.length : Int)).natAbs : Int) ≤ s.Band)) = true
    rw [Bool.and_eq_true]
    exact ⟨inB_iff.2 hb, decide_eq_true (by omega)⟩
  have hm : mtM (zS s f) f s.Templates.length ∈ mtS (zS s f) f (zS s f).Templates.length := by
    rw [zS_len, mt_y hin]; simp
  have hn := okFeats_n hf
  have hc : (mtM (zS s f) f s.Templates.length).Cost = 0 := by
    show cv farS f (at_ (zS s f).Templates s.Templates.length).Feats s.Band (f.length - 1) ((at_ (zS s f).Templates s.Templates.length).Feats.length - 1) = 0
    rw [zS_at]
    exact cv_self hb.1 (okAB_of hf hf) _ (by omega)
  have hpos : 0 < (mtS (zS s f) f (zS s f).Templates.length).length := List.length_pos_of_mem hm
  have hl := nsL_len (s := zS s f) (fs := f) (k := 1) (by decide)
  have hl1 : (nsL (zS s f) f 1).length = 1 := by omega
  refine ⟨hl1, ?_⟩
  obtain ⟨j, q1, q2, q3⟩ := nsL_mem (at_mem (show 0 < (nsL (zS s f) f 1).length by omega))
  have hge : 0 ≤ (at_ (nsL (zS s f) f 1) 0).Cost := by
    rw [q3]
    have c := mt_cv hf ((okStore_iff.1 hz).2.2 j q1) q2
    exact c.2.2.2.1
  by_cases q : 0 < (at_ (nsL (zS s f) f 1) 0).Cost
  · exfalso
    have hx := nsL_has (s := zS s f) (fs := f) (k := 1) (by decide) hm (by omega) (by rw [hc]; exact q)
    obtain ⟨i, hi, e⟩ := List.getElem_of_mem hx
    have hi0 : i = 0 := by omega
    subst hi0
    rw [at_eq hi, e, hc] at q
    exact absurd q (by decide)
  · omega
theorem zS_back (s : Store) (f : List Feat) : (⟨(zS s f).Band, (zS s f).Templates.take ((zS s f).Templates.length - 1)⟩ : Store) = s := by
  rw [zS_len, Nat.add_sub_cancel]
  show (⟨s.Band, (s.Templates ++ [zT f]).take s.Templates.length⟩ : Store) = s
  rw [List.take_left']; rfl
theorem cmp_last {d : Array (List UInt8)} : ∀ m, 1 ≤ m → (Lib.compactUpTo d m).getLast? = some d[m - 1]!
  | 0, h => by omega
  | 1, _ => by
    rw [Lib.compactUpTo_succ, if_pos (Lib.keeps_lt_one d 0 (by omega))]
    simp
  | m + 2, _ => by
    rw [Lib.compactUpTo_succ]
    cases hk : Lib.keeps d (m + 1) with
    | true => simp
    | false =>
      have ih := cmp_last (d := d) (m + 1) (by omega)
      simp only [Bool.false_eq_true, if_false, List.append_nil]
      rw [ih]
      unfold Lib.keeps at hk
      have := of_decide_eq_false hk
      simp only [not_or, Decidable.not_not] at this
      rw [show m + 2 - 1 = m + 1 from rfl, this.2]
theorem list_last {α : Type} [Inhabited α] {xs : List α} {y : α} (h : xs.getLast? = some y) : 1 ≤ xs.length ∧ at_ xs (xs.length - 1) = y := by
  cases hx : xs with
  | nil => rw [hx] at h; simp at h
  | cons a r =>
    rw [← hx]
    have hp : 0 < xs.length := by rw [hx]; simp
    refine ⟨hp, ?_⟩
    rw [at_eq (by omega)]
    rw [List.getLast?_eq_getElem?, List.getElem?_eq_getElem (by omega)] at h
    exact Option.some.inj h
theorem le122_one {c : UInt8} (h : ([122] : List UInt8) ≤ [c]) : 122 ≤ c.toNat := by
  rcases Nat.lt_or_ge c.toNat 122 with q | q
  · exfalso
    refine h ?_
    show ([c] : List UInt8) < [122]
    rw [List.cons_lt_cons_iff]
    exact .inl (UInt8.lt_iff_toNat_lt.2 q)
  · exact q
theorem lab122 {l : ByteArray} (hl : okLabel l = true) : ∃ c : UInt8, l = ⟨#[c]⟩ ∧ c.toNat ≤ 122 := by
  simp only [okLabel, Bool.and_eq_true, decide_eq_true_eq] at hl
  obtain ⟨c, rfl⟩ := one_byte hl.1
  have e : bAt ⟨#[c]⟩ 0 = (c.toNat : Int) := rfl
  rw [e] at hl
  have h2 := hl.2
  simp only [labB, decide_eq_true_eq] at h2
  exact ⟨c, rfl, by omega⟩
theorem labs_last {s : Store} (hst : okStore' s = true) (hz : (⟨#[122]⟩ : ByteArray) ∈ labs s) : 1 ≤ (cmpB (sortB (labs s))).length ∧ at_ (cmpB (sortB (labs s))) ((cmpB (sortB (labs s))).length - 1) = ⟨#[122]⟩ := by
  have hlen : (sortR (labs s)).length = (labs s).length := sortR_len _
  have hpos : 0 < (labs s).length := List.length_pos_of_mem hz
  have hmap : (sortB (labs s)).map toL = sortR (labs s) := by
    unfold sortB; rw [List.map_map]
    conv => rhs; rw [← List.map_id (sortR (labs s))]
    exact List.map_congr_left fun x _ => rfl
  have hlast := cmp_last (d := (sortR (labs s)).toArray) (sortR (labs s)).length (by omega)
  have e1 : (sortR (labs s)).toArray[(sortR (labs s)).length - 1]! = [122] := by
    have hi : (sortR (labs s)).length - 1 < (sortR (labs s)).length := by omega
    rw [getElem!_pos _ _ (by simpa using hi)]
    simp only [List.getElem_toArray]
    have hm : (sortR (labs s))[(sortR (labs s)).length - 1] ∈ (labs s).map toL := by
      have := List.getElem_mem hi
      unfold sortR at this ⊢
      exact List.mem_mergeSort.1 this
    obtain ⟨l, hl, he⟩ := List.mem_map.1 hm
    obtain ⟨t, ht, rfl⟩ := List.mem_map.1 hl
    obtain ⟨c, hc, hc2⟩ := lab122 (okTm_iff'.1 (okStM hst t ht)).1
    rw [hc] at he
    have he2 : (sortR (labs s))[(sortR (labs s)).length - 1] = [c] := he.symm
    have hz2 : ([122] : List UInt8) ∈ sortR (labs s) := by
      unfold sortR
      exact List.mem_mergeSort.2 (List.mem_map.2 ⟨_, hz, rfl⟩)
    obtain ⟨i, hi2, e2⟩ := List.getElem_of_mem hz2
    have hp : (sortR (labs s)).Pairwise fun x y => decide (x ≤ y) = true := List.pairwise_mergeSort (fun a b c h1 h2 => by simp only [decide_eq_true_eq] at *; exact List.le_trans h1 h2) (fun a b => by simp only [Bool.or_eq_true, decide_eq_true_eq]; exact List.le_total a b) _
    have hle : ([122] : List UInt8) ≤ [c] := by
      by_cases e : i = (sortR (labs s)).length - 1
      · subst e; rw [← e2, ← he2]; exact List.le_refl _
      · have := (List.pairwise_iff_getElem.1 hp) i _ hi2 hi (by omega)
        rw [e2, he2, decide_eq_true_eq] at this
        exact this
    have := le122_one hle
    have hc3 : c = 122 := UInt8.toNat_inj.1 (by rw [show (122 : UInt8).toNat = 122 from rfl]; omega)
    rw [he2, hc3]
  rw [e1] at hlast
  have hcmp : cmpR (sortB (labs s)) = Lib.compactUpTo (sortR (labs s)).toArray (sortR (labs s)).length := by
    unfold cmpR Lib.compact; rw [hmap]
  rw [← hcmp] at hlast
  refine list_last ?_
  unfold cmpB
  rw [List.getLast?_map, hlast]; rfl
theorem labs_le (s : Store) : (cmpB (sortB (labs s))).length ≤ s.Templates.length := by
  have h1 := cmpR_len (sortB (labs s))
  rw [sortB_len] at h1
  simpa [cmpB, labs] using h1
theorem labs_z (s : Store) (f : List Feat) : (⟨#[122]⟩ : ByteArray) ∈ labs (zS s f) := List.mem_map.2 ⟨zT f, by simp [zS], rfl⟩


-- laws.FnStores
theorem fnStores_con (code : List Int) (more : List Int) (ok_code : ∀ y ∈ code, inR .u8 y) (ok_more : ∀ y ∈ more, inR .u8 y) : Con Tryz.prog 6 [slU8 false code, slU8 false more] true (Bv true) := by
  refine fn_ok (fn := Tryz.f6) (nt := 108) Tryz.func6 rfl rfl rfl rfl (by simp [taggedL, tagged, tagU8]) fun B hB => ?_
  refine aw_lens (x := slU8 false code) 0 rfl (fun len_code => ?_)
  simp [LenOK, LenL, cU8, fU8, slU8] at len_code
  refine aw_lens (x := slU8 false more) 1 rfl (fun len_more => ?_)
  simp [LenOK, LenL, cU8, fU8, slU8] at len_more
  refine aR [] [0, 1] [] [slU8 false code, slU8 false more] [] [] hB trivial ?_
  refine aw_seq ?_
  refine aw_seq ?_
  rcases Bool.eq_false_or_eq_true (decide (3000 < (code.length : Int) ∨ 3000 < (more.length : Int))) with h1 | h1
  ·refine aw_r [(2, .call [(true, .any), (true, .any)] true (Bv true))] [0, 1, 19] [] [slU8 false code, slU8 false more, Bv true] [] [Con Tryz.prog 8 [slU8 false code, slU8 false more] true (Bv true) ∧ True] hB ⟨⟨(con_bool h1 (a2Long_ok code more)), trivial⟩, trivial⟩ ?_
   refine ae_then ?_
   refine aw_true rfl ?_
   refine aR [] [4] [] [Bv true] [] [] hB trivial ?_
   refine aw_ret ?_
   refine ae_ret_then ?_
   refine ae_ret hB (Bv true) (by kernel_rfl) (.inl rfl) rfl (fun _ => trivial)
  have hc : (∀ j, j < code.length → 0 ≤ at_ code j ∧ at_ code j ≤ 255) ∧ code.length ≤ 4611686018427387904 := ⟨fun j hj => ok_code _ (at_mem hj), by first | omega | (simp at h1; omega)⟩
  have hmore : (∀ j, j < more.length → 0 ≤ at_ more j ∧ at_ more j ≤ 255) ∧ more.length ≤ 4611686018427387904 := ⟨fun j hj => ok_more _ (at_mem hj), by first | omega | (simp at h1; omega)⟩
  refine aw_r [(2, .call [(true, .any), (true, .any)] true (Bv false))] [0, 1, 19] [] [slU8 false code, slU8 false more, Bv false] [] [Con Tryz.prog 8 [slU8 false code, slU8 false more] true (Bv false) ∧ True] hB ⟨⟨(con_bool h1 (a2Long_ok code more)), trivial⟩, trivial⟩ ?_
  refine ae_then ?_
  refine aw_false rfl ?_
  refine aw_skip ?_
  refine ae_then ?_
  refine aw_seq ?_
  obtain ⟨v_1, hx1_0, hx1_1, hx1_2, hc1⟩ := A2Store_ok code (by assumption)
  have hst : okStore' v_1 = true := okSt_of hx1_0 hx1_1 hx1_2
  have h6 := hx1_1
  have hoks := okSt_sz hst
  refine aw_r [(1, .call [(true, .any)] true (agStoreT v_1)), (2, .new 5)] [1, 5] [5] [slU8 false more, .ref 5 0] [some (bxStoreT v_1)] [Con Tryz.prog 46 [slU8 false code] true (agStoreT v_1) ∧ True] hB ⟨⟨hc1, trivial⟩, trivial⟩ ?_
  refine ae_then ?_
  refine aw_seq ?_
  obtain ⟨v_2, hx2_0, hx2_1, hc2⟩ := A2Feats_ok more (by assumption)
  have okf := hx2_0
  have hzs := zS_ok hst h6 okf
  have hzz := okSt_sz hzs
  have hzl := zS_len v_1 v_2
  have hns := near_self hst h6 okf
  have hlb := labs_last hzs (labs_z v_1 v_2)
  refine aw_r [(1, .call [(true, .any)] true (slFeat true v_2))] [5, 6] [5] [.ref 5 0, slFeat true v_2] [some (bxStoreT v_1)] [Con Tryz.prog 47 [slU8 false more] true (slFeat true v_2) ∧ True] hB ⟨⟨hc2, trivial⟩, trivial⟩ ?_
  refine ae_then ?_
  refine aw_seq ?_
  obtain ⟨v_3, c_3, hx3_0, hx3_1, hc3⟩ := AddTemplate_ok v_1 (Template.mk (⟨#[122]⟩ : ByteArray) v_2) hst (zT_ok okf) (by omega)
  have ht : v_3 = zS v_1 v_2 := hx3_0
  have hc1 := hx3_1
  refine aw_r [(3, .call [(false, agStore v_1), (false, .agg [Sv (⟨#[122]⟩ : ByteArray), slFeat false v_2])] true (.tup [agStoreT v_3, I c_3])), (7, .new 7)] [5, 6, 7, 8] [5, 7] [.ref 5 0, slFeat true v_2, .ref 7 0, I c_3] [some (bxStoreT v_1), some (bxStoreT v_3)] [Con Tryz.prog 48 [agStore v_1, .agg [Sv (⟨#[122]⟩ : ByteArray), slFeat false v_2]] true (.tup [agStoreT v_3, I c_3]) ∧ ((valOf (I v_1.Band) = valOf (I v_1.Band)) ∧ ((false = true → true = true) ∧ 2 = 2 ∧ v_1.Templates.length = v_1.Templates.length ∧ ∀ i_, i_ < v_1.Templates.length → (fTemplate true v_1.Templates) i_ = (fTemplate false v_1.Templates) i_ ∨ (AV.idsL ((fTemplate false v_1.Templates) i_) = [] ∧ leL (fun _ => none) false ((fTemplate true v_1.Templates) i_) ((fTemplate false v_1.Templates) i_))) ∧ ([] : List AV) = []) ∧ ((valOf (Sv (⟨#[122]⟩ : ByteArray)) = valOf (Sv (⟨#[122]⟩ : ByteArray))) ∧ ((false = true → true = true) ∧ 3 = 3 ∧ v_2.length = v_2.length ∧ ∀ i_, i_ < v_2.length → (fFeat v_2) i_ = (fFeat v_2) i_ ∨ (AV.idsL ((fFeat v_2) i_) = [] ∧ leL (fun _ => none) false ((fFeat v_2) i_) ((fFeat v_2) i_))) ∧ ([] : List AV) = []) ∧ True] hB ⟨⟨hc3, ⟨rfl, ⟨⟨(fun h => by cases h), rfl, rfl, fun i _ => .inr ⟨idsTemplate _ _, leTemplate _ _ _⟩⟩, rfl⟩⟩, ⟨rfl, ⟨⟨(fun h => by cases h), rfl, rfl, fun i _ => .inl rfl⟩, rfl⟩⟩, trivial⟩, trivial⟩ ?_
  refine ae_then ?_
  refine aw_seq ?_
  obtain ⟨v_4, c_4, hx4_0, hx4_1, hc4⟩ := Nearest_ok v_3 v_2 1 (by rw [ht]; exact hzs) okf (by rw [ht]; omega) (by omega) (by rw [ht]; exact hzz)
  have hls := hx4_0
  have hc2 := hx4_1
  rw [ht] at hls
  rw [← hls] at hns
  refine aw_r [(2, .call [(false, agStore v_3), (false, slFeat false v_2), (true, .any)] true (.tup [slMatch true v_4, I c_4]))] [5, 7, 8, 9, 10] [5, 7] [.ref 5 0, .ref 7 0, I c_3, slMatch true v_4, I c_4] [some (bxStoreT v_1), some (bxStoreT v_3)] [Con Tryz.prog 49 [agStore v_3, slFeat false v_2, I 1] true (.tup [slMatch true v_4, I c_4]) ∧ ((valOf (I v_3.Band) = valOf (I v_3.Band)) ∧ ((false = true → true = true) ∧ 2 = 2 ∧ v_3.Templates.length = v_3.Templates.length ∧ ∀ i_, i_ < v_3.Templates.length → (fTemplate true v_3.Templates) i_ = (fTemplate false v_3.Templates) i_ ∨ (AV.idsL ((fTemplate false v_3.Templates) i_) = [] ∧ leL (fun _ => none) false ((fTemplate true v_3.Templates) i_) ((fTemplate false v_3.Templates) i_))) ∧ ([] : List AV) = []) ∧ ((false = true → true = true) ∧ 3 = 3 ∧ v_2.length = v_2.length ∧ ∀ i_, i_ < v_2.length → (fFeat v_2) i_ = (fFeat v_2) i_ ∨ (AV.idsL ((fFeat v_2) i_) = [] ∧ leL (fun _ => none) false ((fFeat v_2) i_) ((fFeat v_2) i_))) ∧ True] hB ⟨⟨hc4, ⟨rfl, ⟨⟨(fun h => by cases h), rfl, rfl, fun i _ => .inr ⟨idsTemplate _ _, leTemplate _ _ _⟩⟩, rfl⟩⟩, ⟨(fun h => by cases h), rfl, rfl, fun i _ => .inl rfl⟩, trivial⟩, trivial⟩ ?_
  refine ae_then ?_
  refine aw_seq ?_
  obtain ⟨v_5, c_5, hx5_0, hx5_1, hc5⟩ := RemoveTemplate_ok v_3 (v_1.Templates.length : Int) (by rw [ht]; exact hzs) (by rw [ht]; omega) (by omega)
  have hbk : v_5 = v_1 := by rw [hx5_0, ht]; exact zS_back _ _
  have hc3 := hx5_1
  refine aw_r [(4, .call [(false, agStore v_3), (true, .any)] true (.tup [agStoreT v_5, I c_5])), (8, .new 11)] [5, 7, 8, 9, 10, 11, 12] [5, 7, 11] [.ref 5 0, .ref 7 0, I c_3, slMatch true v_4, I c_4, .ref 11 0, I c_5] [some (bxStoreT v_1), some (bxStoreT v_3), some (bxStoreT v_5)] [Con Tryz.prog 50 [agStore v_3, I (v_1.Templates.length : Int)] true (.tup [agStoreT v_5, I c_5]) ∧ ((valOf (I v_3.Band) = valOf (I v_3.Band)) ∧ ((false = true → true = true) ∧ 2 = 2 ∧ v_3.Templates.length = v_3.Templates.length ∧ ∀ i_, i_ < v_3.Templates.length → (fTemplate true v_3.Templates) i_ = (fTemplate false v_3.Templates) i_ ∨ (AV.idsL ((fTemplate false v_3.Templates) i_) = [] ∧ leL (fun _ => none) false ((fTemplate true v_3.Templates) i_) ((fTemplate false v_3.Templates) i_))) ∧ ([] : List AV) = []) ∧ True] hB ⟨⟨hc5, ⟨rfl, ⟨⟨(fun h => by cases h), rfl, rfl, fun i _ => .inr ⟨idsTemplate _ _, leTemplate _ _ _⟩⟩, rfl⟩⟩, trivial⟩, trivial⟩ ?_
  refine ae_then ?_
  refine aw_seq ?_
  obtain ⟨v_6, c_6, hx6_0, hx6_1, hc6⟩ := ReadStore_ok (stTx v_1) ⟨_, hst, rfl⟩
  have hrd : v_6 = v_1 := by rw [hx6_0]; exact st_rd hst
  have hc4 := hx6_1
  refine aw_r [(1, .call [(false, agStore v_1)] true (Sv (stTx v_1))), (2, .call [(true, .any)] true (.tup [agStoreT v_6, Bv c_6])), (6, .new 13)] [5, 7, 8, 9, 10, 11, 12, 13, 14] [5, 7, 11, 13] [.ref 5 0, .ref 7 0, I c_3, slMatch true v_4, I c_4, .ref 11 0, I c_5, .ref 13 0, Bv c_6] [some (bxStoreT v_1), some (bxStoreT v_3), some (bxStoreT v_5), some (bxStoreT v_6)] [Con Tryz.prog 52 [agStore v_1] true (Sv (stTx v_1)) ∧ ((valOf (I v_1.Band) = valOf (I v_1.Band)) ∧ ((false = true → true = true) ∧ 2 = 2 ∧ v_1.Templates.length = v_1.Templates.length ∧ ∀ i_, i_ < v_1.Templates.length → (fTemplate true v_1.Templates) i_ = (fTemplate false v_1.Templates) i_ ∨ (AV.idsL ((fTemplate false v_1.Templates) i_) = [] ∧ leL (fun _ => none) false ((fTemplate true v_1.Templates) i_) ((fTemplate false v_1.Templates) i_))) ∧ ([] : List AV) = []) ∧ True, Con Tryz.prog 51 [Sv (stTx v_1)] true (.tup [agStoreT v_6, Bv c_6]) ∧ True] hB ⟨⟨(StoreText_ok v_1 hoks), ⟨rfl, ⟨⟨(fun h => by cases h), rfl, rfl, fun i _ => .inr ⟨idsTemplate _ _, leTemplate _ _ _⟩⟩, rfl⟩⟩, trivial⟩, ⟨hc6, trivial⟩, trivial⟩ ?_
  refine ae_then ?_
  refine aw_seq ?_
  refine aw_seq ?_
  obtain rfl : c_6 = true := hc4
  refine aw_r [(1, .dec false), (4, .dec false), (8, .dec false), (13, .call [(false, agStore v_5), (false, agStore v_1)] true (Bv true)), (23, .call [(false, agStore v_6), (false, agStore v_1)] true (Bv true))] [7, 9, 76] [7] [.ref 7 0, slMatch true v_4, Bv false] [some (bxStoreT v_3)] [¬ (c_3 ≠ 0), ¬ (c_4 ≠ 0), ¬ (c_5 ≠ 0), Con Tryz.prog 53 [agStore v_5, agStore v_1] true (Bv true) ∧ ((valOf (I v_5.Band) = valOf (I v_5.Band)) ∧ ((false = true → true = true) ∧ 2 = 2 ∧ v_5.Templates.length = v_5.Templates.length ∧ ∀ i_, i_ < v_5.Templates.length → (fTemplate true v_5.Templates) i_ = (fTemplate false v_5.Templates) i_ ∨ (AV.idsL ((fTemplate false v_5.Templates) i_) = [] ∧ leL (fun _ => none) false ((fTemplate true v_5.Templates) i_) ((fTemplate false v_5.Templates) i_))) ∧ ([] : List AV) = []) ∧ ((valOf (I v_1.Band) = valOf (I v_1.Band)) ∧ ((false = true → true = true) ∧ 2 = 2 ∧ v_1.Templates.length = v_1.Templates.length ∧ ∀ i_, i_ < v_1.Templates.length → (fTemplate true v_1.Templates) i_ = (fTemplate false v_1.Templates) i_ ∨ (AV.idsL ((fTemplate false v_1.Templates) i_) = [] ∧ leL (fun _ => none) false ((fTemplate true v_1.Templates) i_) ((fTemplate false v_1.Templates) i_))) ∧ ([] : List AV) = []) ∧ True, Con Tryz.prog 53 [agStore v_6, agStore v_1] true (Bv true) ∧ ((valOf (I v_6.Band) = valOf (I v_6.Band)) ∧ ((false = true → true = true) ∧ 2 = 2 ∧ v_6.Templates.length = v_6.Templates.length ∧ ∀ i_, i_ < v_6.Templates.length → (fTemplate true v_6.Templates) i_ = (fTemplate false v_6.Templates) i_ ∨ (AV.idsL ((fTemplate false v_6.Templates) i_) = [] ∧ leL (fun _ => none) false ((fTemplate true v_6.Templates) i_) ((fTemplate false v_6.Templates) i_))) ∧ ([] : List AV) = []) ∧ ((valOf (I v_1.Band) = valOf (I v_1.Band)) ∧ ((false = true → true = true) ∧ 2 = 2 ∧ v_1.Templates.length = v_1.Templates.length ∧ ∀ i_, i_ < v_1.Templates.length → (fTemplate true v_1.Templates) i_ = (fTemplate false v_1.Templates) i_ ∨ (AV.idsL ((fTemplate false v_1.Templates) i_) = [] ∧ leL (fun _ => none) false ((fTemplate true v_1.Templates) i_) ((fTemplate false v_1.Templates) i_))) ∧ ([] : List AV) = []) ∧ True] hB ⟨(fun hq => hq hc1), (fun hq => hq hc2), (fun hq => hq hc3), ⟨(con_bool (by rw [hbk]; exact sameSt_refl _) (specSameStore_ok v_5 v_1)), ⟨rfl, ⟨⟨(fun h => by cases h), rfl, rfl, fun i _ => .inr ⟨idsTemplate _ _, leTemplate _ _ _⟩⟩, rfl⟩⟩, ⟨rfl, ⟨⟨(fun h => by cases h), rfl, rfl, fun i _ => .inr ⟨idsTemplate _ _, leTemplate _ _ _⟩⟩, rfl⟩⟩, trivial⟩, ⟨(con_bool (by rw [hrd]; exact sameSt_refl _) (specSameStore_ok v_6 v_1)), ⟨rfl, ⟨⟨(fun h => by cases h), rfl, rfl, fun i _ => .inr ⟨idsTemplate _ _, leTemplate _ _ _⟩⟩, rfl⟩⟩, ⟨rfl, ⟨⟨(fun h => by cases h), rfl, rfl, fun i _ => .inr ⟨idsTemplate _ _, leTemplate _ _ _⟩⟩, rfl⟩⟩, trivial⟩, trivial⟩ ?_
  refine ae_then ?_
  refine aw_false rfl ?_
  refine aw_skip ?_
  refine ae_then ?_
  refine aw_seq ?_
  obtain ⟨v_7, c_7, hx7_0, hx7_1, hc7⟩ := LabelsOf_ok v_3 (by rw [ht]; exact hzs) (by rw [ht]; omega)
  have hlv := hx7_0
  have hc5 := hx7_1
  have hll := labs_le (zS v_1 v_2)
  rw [ht] at hlv
  rw [← hlv] at hlb hll
  refine aw_r [(1, .call [(false, agStore v_3)] true (.tup [slS true v_7, I c_7]))] [9, 15, 16] [] [slMatch true v_4, slS true v_7, I c_7] [] [Con Tryz.prog 54 [agStore v_3] true (.tup [slS true v_7, I c_7]) ∧ ((valOf (I v_3.Band) = valOf (I v_3.Band)) ∧ ((false = true → true = true) ∧ 2 = 2 ∧ v_3.Templates.length = v_3.Templates.length ∧ ∀ i_, i_ < v_3.Templates.length → (fTemplate true v_3.Templates) i_ = (fTemplate false v_3.Templates) i_ ∨ (AV.idsL ((fTemplate false v_3.Templates) i_) = [] ∧ leL (fun _ => none) false ((fTemplate true v_3.Templates) i_) ((fTemplate false v_3.Templates) i_))) ∧ ([] : List AV) = []) ∧ True] hB ⟨⟨hc7, ⟨rfl, ⟨⟨(fun h => by cases h), rfl, rfl, fun i _ => .inr ⟨idsTemplate _ _, leTemplate _ _ _⟩⟩, rfl⟩⟩, trivial⟩, trivial⟩ ?_
  refine ae_then ?_
  refine aw_seq ?_
  refine aR [(1, .dec false), (5, .dec false), (14, .dec false)] [9, 97] [] [slMatch true v_4, Bv false] [] [¬ (c_7 ≠ 0), ¬ ((v_7.length : Int) < 1), inR .i64 ((v_7.length : Int) - 1), (0 : Int) ≤ ((v_7.length : Int) - 1) ∧ ((v_7.length : Int) - 1) < (v_7.length : Int), ¬ ((at_ v_7 (((v_7.length : Int) - 1).toNat)) ≠ (⟨#[122]⟩ : ByteArray))] hB ⟨(fun hq => hq hc5), (by have q_ := hlb.1; omega), (inR_i64 (by omega) (by omega)), ⟨(by omega), (by omega)⟩, (fun hq => hq (by have q_ := hlb.2; rw [show (((v_7.length : Int) - 1).toNat) = v_7.length - 1 from by omega]; exact q_)), trivial⟩ ?_
  refine aw_false rfl ?_
  refine aw_skip ?_
  refine ae_then ?_
  refine aR [(2, .dec true), (8, .dec true)] [4] [] [Bv true] [] [(v_4.length : Int) = 1, (0 : Int) ≤ 0 ∧ 0 < (v_4.length : Int), ((at_ v_4 0).Cost) = 0] hB ⟨(by omega), ⟨(by omega), (by omega)⟩, hns.2, trivial⟩ ?_
  refine aw_ret ?_
  refine ae_ret hB (Bv true) (by kernel_rfl) (.inl rfl) rfl (fun _ => trivial)





theorem opens_t22 : OpensA Tryz.prog 22 (cLU8 false) (fun xs => ∀ y ∈ xs, inR .u8 y) :=
  opensA_slice (c := cU8) (sz := 1) Tryz.underlying22 (by kernel_rfl) (by decide) (fun x => ⟨rfl, by simp [oneA, cU8]⟩) (opensA_int Tryz.underlying5)


namespace fnStores
set_option maxRecDepth 100000 in
theorem lifted (os : Os) (started : os.Started) (H : Type) (enc : TypeId × Value → H) :
    ReturnsInHanded {} Tryz.checked os 6 .any (fun w args => (Rows.fnStoresSpec.pre enc Tryz.prog Tryz.f6 Rows.fnStoresRow.domain false w args ∧ laidMetH Tryz.prog Rows.fnStoresRow.laid w) ∧ sizedMet enc Tryz.prog Tryz.f6 (OpenSpec.ofChange Rows.fnStoresSpec) false w args)
      (Rows.fnStoresSpec.post enc Tryz.prog Tryz.f6 false true false false) := by
  refine returnsInHanded_of_change_and (C := Tryz.checked) (X := fun w _ => laidMetH Tryz.prog Rows.fnStoresRow.laid w) (fun _ _ _ hh h => h.of_heap hh) Tryz.own started (by kernel_rfl) Tryz.func6
    (ChangeSpec.witness_shaped (enc := enc) (C := Tryz.checked) (os := os) (X := fun w _ => laidMetH Tryz.prog Rows.fnStoresRow.laid w) false (World.laidAll Tryz.prog os Rows.fnStoresRow.laid) #[.slice none 0 0, .slice none 0 0] 8 (World.laidAll_os _ _ _)
      (World.shaped_of_ZipB (by kernel_rfl) (by kernel_rfl)) (by kernel_rfl) (by kernel_rfl) (by kernel_rfl)
      (by rw [MakeChecks.laidMetH_plain _ _ _ (by kernel_rfl)]; exact laidMet_laidAll _ (by kernel_rfl) (by kernel_rfl))) ?_
  intro W base args ds gs before hval0 hW hcnd hsz hL _
  have hW' := hW
  obtain ⟨p, q, hA0, hV, rfl, hfz, hnd⟩ := hW
  have hval : ∀ (j : Nat) t v, Tryz.f6.params[j]? = some t → args[j]? = some v → Value.okWide Tryz.prog W .any base t v := hval0
  have hA : DataW.TrodAll enc Tryz.prog W 0 (fun _ => true) true Tryz.f6.params.toList args.toList ds p := hA0
  rw [Tryz.params6] at hA hval
  obtain ⟨v0, vs0, d0, ds0, p0, q0, hargs, rfl, rfl, h0, r0⟩ := trodAll_cons hA
  obtain ⟨v1, vs1, d1, ds1, p1, q1, rfl, rfl, rfl, h1, r1⟩ := trodAll_cons r0
  obtain ⟨rfl, rfl, rfl⟩ := trodAll_nil r1
  obtain rfl : args = #[v0, v1] := args_eq hargs
  obtain ⟨rfl, rfl⟩ := trodVars_none hV
  obtain ⟨fuel0, hf0⟩ := h0
  obtain ⟨A0, l0, c0, rfl⟩ := okWide_slice Tryz.underlying22 (hval 0 22 v0 rfl rfl)
  obtain ⟨x0, rx0, ok0⟩ := (opens_t22) enc W 0 _ _ _ _ _ hf0
  obtain ⟨fuel1, hf1⟩ := h1
  obtain ⟨A1, l1, c1, rfl⟩ := okWide_slice Tryz.underlying22 (hval 1 22 v1 rfl rfl)
  obtain ⟨x1, rx1, ok1⟩ := (opens_t22) enc W 0 _ _ _ _ _ hf1
  refine (walk_of0 (fnStores_con x0 x1 ok0 ok1) (fun w hk => WX_below (WX_laid (by rw [MakeChecks.laidMetH_plain _ _ _ (by kernel_rfl)] at hL; first | exact hL | exact hL.tail | exact hL.tail.tail | exact hL.tail.tail.tail | exact hL.tail.tail.tail.tail | exact hL.tail.tail.tail.tail.tail | exact hL.tail.tail.tail.tail.tail.tail | exact hL.tail.tail.tail.tail.tail.tail.tail | exact hL.tail.tail.tail.tail.tail.tail.tail.tail) (by rw [MakeChecks.laidMetH_plain _ _ _ (by kernel_rfl)] at hL; first | exact hL | exact hL.tail | exact hL.tail.tail | exact hL.tail.tail.tail | exact hL.tail.tail.tail.tail | exact hL.tail.tail.tail.tail.tail | exact hL.tail.tail.tail.tail.tail.tail | exact hL.tail.tail.tail.tail.tail.tail.tail | exact hL.tail.tail.tail.tail.tail.tail.tail.tail) (by rw [MakeChecks.laidMetH_plain _ _ _ (by kernel_rfl)] at hL; first | exact hL | exact hL.tail | exact hL.tail.tail | exact hL.tail.tail.tail | exact hL.tail.tail.tail.tail | exact hL.tail.tail.tail.tail.tail | exact hL.tail.tail.tail.tail.tail.tail | exact hL.tail.tail.tail.tail.tail.tail.tail | exact hL.tail.tail.tail.tail.tail.tail.tail.tail)) w ⟨hk.os, hk.tape, hk.output, hk.size, fun k h1 => hk.block k h1 id⟩) (RelTL.cons (relTL_one rx0) (RelTL.cons (relTL_one rx1) RelTL.nil))).mono fun e W1 ⟨he, hb⟩ => ?_
  subst he
  exact ⟨_, rfl, law_post Tryz.laidOut rfl Tryz.underlying4 (of_decide_eq_true (by kernel_rfl)) rfl hW' hb rfl⟩

theorem jf0 : (Rows.fnStoresRow.inPlace == Tryz.pinned.checked.prog.inPlace 6) = true := by kernel_rfl
theorem jf1 : (Rows.fnStoresRow.unfollowed == Tryz.pinned.checked.prog.unfollowed 6) = true := by kernel_rfl
theorem jf2 : (Rows.fnStoresRow.recurses == Tryz.pinned.checked.prog.recurses 6) = true := by kernel_rfl
theorem jf3 : (Rows.fnStoresRow.named == Tryz.pinned.checked.prog.varsNamed 6) = true := by kernel_rfl
theorem jf : joinedFacts Tryz.pinned.checked.prog 6 Tryz.f6 Rows.fnStoresSpec Rows.fnStoresRow = true := by
  unfold joinedFacts
  rw [jf0, jf1, jf2, jf3]
  kernel_rfl
theorem over : Rows.fnStoresRow.holds Tryz.pinned (OpenSpec.ofChange Rows.fnStoresSpec) :=
  OpenClaim.holds_of_wide 6 Tryz.f6 rfl rfl rfl rfl rfl rfl rfl ⟨rfl, rfl, rfl, rfl, rfl⟩ rfl rfl rfl rfl rfl (by kernel_rfl) Tryz.func6 jf
    (of_decide_eq_true (by kernel_rfl)) (by unfold Func.isWrapper; first | (rw [if_pos (by decide +kernel)]; kernel_rfl) | (rw [if_neg (by decide +kernel)]; exact ⟨rfl, rfl⟩))
    (fun os started H enc _ => lifted os started H enc)

theorem proved : Rows.FnStoresCardSaid :=
  Claim7.holds_tied_plain_at .later [] [.data, .data, .data, .data, .sentinel, .sentinel, .pinned] true (true, "00e2698d828c446cf3aa74638b276850451084458f15901ce8c3ecdcb349fc25") true over (fun _ h => by cases h) (by kernel_rfl) (fun _ h => by cases h) fnStores_row_tie rfl ⟨rfl, rfl⟩ (by kernel_rfl) rfl
    (fun f fn hf hfn => by
      obtain rfl : f = 6 := Option.some.inj ((show Tryz.prog.funcNamed "loop.example/g00918/laws.FnStores" = some 6 by kernel_rfl).symm.trans hf) |>.symm
      obtain rfl : fn = Tryz.f6 := (Option.some.inj (Tryz.func6.symm.trans hfn)).symm
      exact ⟨by kernel_rfl, fun j t ht => by
        rw [Tryz.params6] at ht
        have hm : t ∈ [22, 22] := by simpa using Array.mem_of_getElem? ht
        have hall : ([22, 22].all fun u => !Tryz.prog.wantsStandIn u) = true := by kernel_rfl
        exact (show Tryz.prog.wantsStandIn t = false by simpa using List.all_eq_true.1 hall t hm)⟩)
    (by kernel_rfl)
#print axioms proved
end fnStores

end Go.Proofs.YthlghckgnanlpaaGreatDoor.Ax
