/- The statement FnGestures: contracts of what it reaches, and its proof. No conditions. -/
import Derived.Test.YtebcbkejkpjeoaaGreatDoorAxLGestures3
import Derived.LaidMore
import Derived.Lay
import Derived.OpenShut
import Derived.SevenTiedAt
import Derived.Shelf.Strings.SlTrimAscii
import Derived.Stop.Joined
namespace Go.Proofs.YtebcbkejkpjeoaaGreatDoor.Ax
open Go.RowKit Go.ChangeShapes Go.WideShapes
set_option linter.unusedVariables false
set_option linter.unusedSimpArgs false


-- laws.f6dice).below
theorem below_ok (d : f6dice) (n : Int) (hd : okDice d) (hn : 1 ≤ n ∧ n ≤ 9000000000000000000) : ∃ (v : Int) (d' : f6dice), (0 ≤ v ∧ v < n) ∧ (okDice d') ∧ CallOK Tryz.prog 21 [.ref 7002 0, I n] (lookO [(7002, bxf6dice d)]) true (I v) (lookO [(7002, bxf6dice d')]) := by
  have hd1 := hd.2.1
  have hd2 := hd.2.2
  have hh : ∃ r : Int × f6dice, ((0 ≤ r.1 ∧ r.1 < n) ∧ (okDice r.2) ∧ (True)) ∧ CallOK Tryz.prog 21 [.ref 7002 0, I n] (lookO [(7002, bxf6dice d)]) true (I r.1) (lookO [(7002, bxf6dice r.2)]) := by
    refine fn_okX (Φ := fun r : Int × f6dice => (0 ≤ r.1 ∧ r.1 < n) ∧ (okDice r.2) ∧ (True)) [(7002, bxf6dice d)] (fun r => [(7002, bxf6dice r.2)]) (fn := Tryz.f21) (nt := 56) Tryz.func21 rfl rfl (args := [.ref 7002 0, I n]) rfl (allcons (.inr trivial) (allcons (.inl ⟨rfl, trivial⟩) allnil)) (res := fun r => I r.1) ?_
    refine x_seq ?_
    refine x_reg [] [0, 1] [7002] [.ref 7002 0, I n] [some (bxf6dice d)] [] (by kernel_rfl) trivial ?_
    refine xe_then ?_
    refine x_seq ?_
    refine x_reg [(5, .wrap), (6, .wrap)] [0, 1] [7002] [.ref 7002 0, I n] [some (.box [slU8 false d.b, I d.i, .val (.int .u64 (IntKind.u64.wrap ((IntKind.u64.wrap (d.h * 6364136223846793005)) + 1442695040888963407)))])] [] (by kernel_rfl) trivial ?_
    refine xe_then ?_
    refine x_seq ?_
    have hb1 := and_16777215 ((IntKind.u64.wrap ((IntKind.u64.wrap (d.h * 6364136223846793005)) + 1442695040888963407)) / 8589934592)
    refine x_reg [] [0, 1, 5] [7002] [.ref 7002 0, I n, I (bitsI .and .u64 ((IntKind.u64.wrap ((IntKind.u64.wrap (d.h * 6364136223846793005)) + 1442695040888963407)) / 8589934592) 16777215)] [some (.box [slU8 false d.b, I d.i, .val (.int .u64 (IntKind.u64.wrap ((IntKind.u64.wrap (d.h * 6364136223846793005)) + 1442695040888963407)))])] [(0 : Int) ≤ 33 ∧ (33 : Int) ≤ ((IntKind.bits .u64 : Nat) : Int), inR .i64 (bitsI .and .u64 ((IntKind.u64.wrap ((IntKind.u64.wrap (d.h * 6364136223846793005)) + 1442695040888963407)) / 8589934592) 16777215)] (by kernel_rfl) ⟨⟨(by decide), (by decide)⟩, (inR_i64 (by omega) (by omega)), trivial⟩ ?_
    refine xe_then ?_
    refine x_seq ?_
    refine x_seq ?_
    by_cases h1 : d.i < (d.b.length : Int)
    ·have hbt := hd.1 d.i.toNat (by omega)
     refine x_reg [(9, .dec true)] [0, 1, 5, 31] [7002] [.ref 7002 0, I n, I (bitsI .and .u64 ((IntKind.u64.wrap ((IntKind.u64.wrap (d.h * 6364136223846793005)) + 1442695040888963407)) / 8589934592) 16777215), Bv true] [some (.box [slU8 false d.b, I d.i, .val (.int .u64 (IntKind.u64.wrap ((IntKind.u64.wrap (d.h * 6364136223846793005)) + 1442695040888963407)))])] [d.i < (d.b.length : Int)] (by kernel_rfl) ⟨h1, trivial⟩ ?_
     refine xe_then ?_
     refine x_true rfl ?_
     refine x_seq ?_
     refine x_reg [] [0, 1, 5] [7002] [.ref 7002 0, I n, I ((bitsI .and .u64 ((IntKind.u64.wrap ((IntKind.u64.wrap (d.h * 6364136223846793005)) + 1442695040888963407)) / 8589934592) 16777215) + (at_ d.b d.i.toNat))] [some (.box [slU8 false d.b, I d.i, .val (.int .u64 (IntKind.u64.wrap ((IntKind.u64.wrap (d.h * 6364136223846793005)) + 1442695040888963407)))])] [(0 : Int) ≤ d.i ∧ d.i < (d.b.length : Int), inR .i64 (at_ d.b d.i.toNat), inR .i64 ((bitsI .and .u64 ((IntKind.u64.wrap ((IntKind.u64.wrap (d.h * 6364136223846793005)) + 1442695040888963407)) / 8589934592) 16777215) + (at_ d.b d.i.toNat))] (by kernel_rfl) ⟨⟨(by omega), (by omega)⟩, (inR_i64 (by omega) (by omega)), (inR_i64 (by omega) (by omega)), trivial⟩ ?_
     refine xe_then ?_
     refine x_reg [] [1, 5] [7002] [I n, I ((bitsI .and .u64 ((IntKind.u64.wrap ((IntKind.u64.wrap (d.h * 6364136223846793005)) + 1442695040888963407)) / 8589934592) 16777215) + (at_ d.b d.i.toNat))] [some (.box [slU8 false d.b, I (d.i + 1), .val (.int .u64 (IntKind.u64.wrap ((IntKind.u64.wrap (d.h * 6364136223846793005)) + 1442695040888963407)))])] [inR .i64 (d.i + 1)] (by kernel_rfl) ⟨(inR_i64 (by omega) (by omega)), trivial⟩ ?_
     refine xe_then ?_
     refine x_seq ?_
     refine x_reg [(2, .nn)] [4] [7002] [I (((bitsI .and .u64 ((IntKind.u64.wrap ((IntKind.u64.wrap (d.h * 6364136223846793005)) + 1442695040888963407)) / 8589934592) 16777215) + (at_ d.b d.i.toNat)) % n)] [some (.box [slU8 false d.b, I (d.i + 1), .val (.int .u64 (IntKind.u64.wrap ((IntKind.u64.wrap (d.h * 6364136223846793005)) + 1442695040888963407)))])] [(0 : Int) ≤ ((bitsI .and .u64 ((IntKind.u64.wrap ((IntKind.u64.wrap (d.h * 6364136223846793005)) + 1442695040888963407)) / 8589934592) 16777215) + (at_ d.b d.i.toNat)) ∧ (0 : Int) < n] (by kernel_rfl) ⟨⟨(by omega), (by omega)⟩, trivial⟩ ?_
     refine xe_then ?_
     refine x_ret ?_
     refine xe_end ((((bitsI .and .u64 ((IntKind.u64.wrap ((IntKind.u64.wrap (d.h * 6364136223846793005)) + 1442695040888963407)) / 8589934592) 16777215) + (at_ d.b d.i.toNat)) % n), (f6dice.mk d.b (d.i + 1) (IntKind.u64.wrap ((IntKind.u64.wrap (d.h * 6364136223846793005)) + 1442695040888963407)))) (show (0 ≤ (((bitsI .and .u64 ((IntKind.u64.wrap ((IntKind.u64.wrap (d.h * 6364136223846793005)) + 1442695040888963407)) / 8589934592) 16777215) + (at_ d.b d.i.toNat)) % n) ∧ (((bitsI .and .u64 ((IntKind.u64.wrap ((IntKind.u64.wrap (d.h * 6364136223846793005)) + 1442695040888963407)) / 8589934592) 16777215) + (at_ d.b d.i.toNat)) % n) < n) ∧ (okDice (f6dice.mk d.b (d.i + 1) (IntKind.u64.wrap ((IntKind.u64.wrap (d.h * 6364136223846793005)) + 1442695040888963407)))) ∧ (True) from ⟨(by first | (exact ⟨Int.emod_nonneg _ (by omega), Int.emod_lt_of_pos _ (by omega)⟩) | exact hd | exact ⟨hd.1, (by dsimp only; omega), hd2⟩), (by first | (exact ⟨Int.emod_nonneg _ (by omega), Int.emod_lt_of_pos _ (by omega)⟩) | exact hd | exact ⟨hd.1, (by dsimp only; omega), hd2⟩), trivial⟩) (⟨.inl rfl, trivial⟩) (I (((bitsI .and .u64 ((IntKind.u64.wrap ((IntKind.u64.wrap (d.h * 6364136223846793005)) + 1442695040888963407)) / 8589934592) 16777215) + (at_ d.b d.i.toNat)) % n)) (by kernel_rfl) (.inl rfl) (fun _ => rfl) (fun _ => trivial)
    ·refine x_reg [(9, .dec false)] [0, 1, 5, 31] [7002] [.ref 7002 0, I n, I (bitsI .and .u64 ((IntKind.u64.wrap ((IntKind.u64.wrap (d.h * 6364136223846793005)) + 1442695040888963407)) / 8589934592) 16777215), Bv false] [some (.box [slU8 false d.b, I d.i, .val (.int .u64 (IntKind.u64.wrap ((IntKind.u64.wrap (d.h * 6364136223846793005)) + 1442695040888963407)))])] [¬ (d.i < (d.b.length : Int))] (by kernel_rfl) ⟨h1, trivial⟩ ?_
     refine xe_then ?_
     refine x_false rfl ?_
     refine x_skip ?_
     refine xe_then ?_
     refine x_seq ?_
     refine x_reg [(2, .nn)] [4] [7002] [I ((bitsI .and .u64 ((IntKind.u64.wrap ((IntKind.u64.wrap (d.h * 6364136223846793005)) + 1442695040888963407)) / 8589934592) 16777215) % n)] [some (.box [slU8 false d.b, I d.i, .val (.int .u64 (IntKind.u64.wrap ((IntKind.u64.wrap (d.h * 6364136223846793005)) + 1442695040888963407)))])] [(0 : Int) ≤ (bitsI .and .u64 ((IntKind.u64.wrap ((IntKind.u64.wrap (d.h * 6364136223846793005)) + 1442695040888963407)) / 8589934592) 16777215) ∧ (0 : Int) < n] (by kernel_rfl) ⟨⟨(by omega), (by omega)⟩, trivial⟩ ?_
     refine xe_then ?_
     refine x_ret ?_
     refine xe_end (((bitsI .and .u64 ((IntKind.u64.wrap ((IntKind.u64.wrap (d.h * 6364136223846793005)) + 1442695040888963407)) / 8589934592) 16777215) % n), (f6dice.mk d.b d.i (IntKind.u64.wrap ((IntKind.u64.wrap (d.h * 6364136223846793005)) + 1442695040888963407)))) (show (0 ≤ ((bitsI .and .u64 ((IntKind.u64.wrap ((IntKind.u64.wrap (d.h * 6364136223846793005)) + 1442695040888963407)) / 8589934592) 16777215) % n) ∧ ((bitsI .and .u64 ((IntKind.u64.wrap ((IntKind.u64.wrap (d.h * 6364136223846793005)) + 1442695040888963407)) / 8589934592) 16777215) % n) < n) ∧ (okDice (f6dice.mk d.b d.i (IntKind.u64.wrap ((IntKind.u64.wrap (d.h * 6364136223846793005)) + 1442695040888963407)))) ∧ (True) from ⟨(by first | (exact ⟨Int.emod_nonneg _ (by omega), Int.emod_lt_of_pos _ (by omega)⟩) | exact hd | exact ⟨hd.1, (by dsimp only; omega), hd2⟩), (by first | (exact ⟨Int.emod_nonneg _ (by omega), Int.emod_lt_of_pos _ (by omega)⟩) | exact hd | exact ⟨hd.1, (by dsimp only; omega), hd2⟩), trivial⟩) (⟨.inl rfl, trivial⟩) (I ((bitsI .and .u64 ((IntKind.u64.wrap ((IntKind.u64.wrap (d.h * 6364136223846793005)) + 1442695040888963407)) / 8589934592) 16777215) % n)) (by kernel_rfl) (.inl rfl) (fun _ => rfl) (fun _ => trivial)
  obtain ⟨⟨v, d'⟩, ⟨hh0, hh1, _⟩, hc⟩ := hh
  exact ⟨v, d', hh0, hh1, hc⟩


/-- The time of a stroke's last point. -/
def lastT (s : Stroke) : Int := (at_ s.Points (s.Points.length - 1)).T
/-- Whether the stroke at j is valid, and later than the one ahead of it. -/
def okSA (xs : List Stroke) (j : Nat) : Bool := okStroke' (at_ xs j) && (decide (j = 0) || decide (lastT (at_ xs (j - 1)) < (at_ (at_ xs j).Points 0).T))
def okInk' (x : Ink) : Bool := decide ((x.Strokes.length : Int) ≤ 16) && allN x.Strokes.length (okSA x.Strokes)
theorem okSA_bad {xs : List Stroke} {j : Nat} (h : okStroke' (at_ xs j) = false) : okSA xs j = false := by simp [okSA, h]
theorem okSA_no {xs : List Stroke} {i : Int} (hi : 0 < i) (h : (at_ (at_ xs i.toNat).Points 0).T ≤ (at_ (at_ xs (i - 1).toNat).Points ((at_ xs (i - 1).toNat).Points.length - 1)).T) : okSA xs i.toNat = false := by
  have e : (i - 1).toNat = i.toNat - 1 := by omega
  rw [e] at h
  have : ¬ i.toNat = 0 := by omega
  unfold okSA lastT; simp [this]; intro _; omega
theorem okSA_yes {xs : List Stroke} {i : Int} (h1 : okStroke' (at_ xs i.toNat) = true) (hi : 0 < i) (h : ¬ (at_ (at_ xs i.toNat).Points 0).T ≤ (at_ (at_ xs (i - 1).toNat).Points ((at_ xs (i - 1).toNat).Points.length - 1)).T) : okSA xs i.toNat = true := by
  have e : (i - 1).toNat = i.toNat - 1 := by omega
  rw [e] at h
  unfold okSA lastT; simp [h1]; right; omega
theorem okSA_zero {xs : List Stroke} {i : Int} (h1 : okStroke' (at_ xs i.toNat) = true) (h0 : 0 ≤ i) (hi : ¬ 0 < i) : okSA xs i.toNat = true := by
  have : i.toNat = 0 := by omega
  simp [okSA, this] at h1 ⊢; exact h1
theorem okSA_ok {xs : List Stroke} {j : Nat} (h : okSA xs j = true) : okStroke' (at_ xs j) = true := by
  simp only [okSA, Bool.and_eq_true] at h; exact h.1
theorem okI_all {x : Ink} (h : okInk' x = true) : ∀ j, j < x.Strokes.length → okStroke' (at_ x.Strokes j) = true := by
  simp only [okInk', Bool.and_eq_true] at h
  exact fun j hj => okSA_ok (allN_get h.2 hj)
theorem okI_mem {x : Ink} (h : okInk' x = true) : ∀ s ∈ x.Strokes, okStroke' s = true := by
  intro s hs
  obtain ⟨j, hj, e⟩ := List.getElem_of_mem hs
  have := okI_all h j hj
  simpa [at_, hj, e] using this
theorem okI_len {x : Ink} (h : okInk' x = true) : (x.Strokes.length : Int) ≤ 16 := by
  simp only [okInk', Bool.and_eq_true, decide_eq_true_eq] at h
  exact h.1

-- spec.l02Ok
theorem l02Ok_ok (x : Ink) : Con Tryz.prog 49 [.ptr false [slStroke false x.Strokes]] true (Bv (okInk' x)) := by
  refine fn_ok (fn := Tryz.f49) (nt := 53) Tryz.func49 rfl rfl rfl rfl (by simp [taggedL, tagged, tagStroke]) fun B hB => ?_
  refine aw_lens (x := .ptr false [slStroke false x.Strokes]) 0 rfl (fun len_x => ?_)
  simp [LenOK, LenL, cPoint, cStroke, fPoint, fStroke, slPoint, slStroke] at len_x
  refine aw_seq ?_
  refine aw_reg [] [0] [] [.ptr false [slStroke false x.Strokes]] [] [] (by kernel_rfl) hB trivial ?_
  refine ae_then ?_
  refine aw_seq ?_
  refine aw_seq ?_
  refine aw_reg [] [0, 3] [] [.ptr false [slStroke false x.Strokes], I 0] [] [] (by kernel_rfl) hB trivial ?_
  refine ae_then ?_
  refine aw_block ?_
  refine aw_loop (fun gn gσ => ∃ (i : Int), gn = ((x.Strokes.length : Int) - i).toNat ∧ (0 ≤ i ∧ i ≤ (x.Strokes.length : Int)) ∧ (∀ j : Nat, (j : Int) < i → okSA x.Strokes j = true) ∧ gσ = mkS [(0, .ptr false [slStroke false x.Strokes]), (3, I i)] []) (((x.Strokes.length : Int) - 0).toNat) ⟨0, rfl, (by omega), (by intro j hj; omega), rfl⟩ (fun gn gσ hI => ?_)
  obtain ⟨i, rfl, hi0, hall0, rfl⟩ := hI
  refine aw_seq ?_
  refine aw_seq ?_
  by_cases h1 : i < (x.Strokes.length : Int)
  ·have hi : i.toNat < x.Strokes.length := by omega
   refine aw_reg [(6, .dec true)] [0, 3, 10] [] [.ptr false [slStroke false x.Strokes], I i, Bv true] [] [i < (x.Strokes.length : Int)] (by kernel_rfl) hB ⟨h1, trivial⟩ ?_
   refine ae_then ?_
   refine aw_true rfl ?_
   refine aw_skip ?_
   refine ae_then ?_
   refine aw_seq ?_
   refine aw_block ?_
   refine aw_seq ?_
   rcases Bool.eq_false_or_eq_true (okStroke' (at_ x.Strokes i.toNat)) with h2 | h2
   ·have hln := okS_len h2
    by_cases h3 : 0 < i
    ·have hpr := okS_len (okSA_ok (hall0 (i - 1).toNat (by omega)))
     by_cases h4 : ((at_ ((at_ x.Strokes i.toNat).Points) 0).T) ≤ ((at_ (at_ x.Strokes ((i - 1).toNat)).Points ((at_ x.Strokes ((i - 1).toNat)).Points.length - 1)).T)
     ·have hall : allN x.Strokes.length (okSA x.Strokes) = false := allN_not hi (okSA_no h3 h4)
      refine aw_reg [(6, .call [(true, .ptr false [slPoint false ((at_ x.Strokes i.toNat).Points)])] true (Bv true)), (10, .dec true), (30, .call [(true, .ptr false [slPoint false ((at_ x.Strokes ((i - 1).toNat)).Points)])] true (I ((at_ (at_ x.Strokes ((i - 1).toNat)).Points ((at_ x.Strokes ((i - 1).toNat)).Points.length - 1)).T))), (31, .dec true)] [0, 3, 46] [] [.ptr false [slStroke false x.Strokes], I i, Bv true] [] [(0 : Int) ≤ i ∧ i < (x.Strokes.length : Int), Con Tryz.prog 35 [.ptr false [slPoint false ((at_ x.Strokes i.toNat).Points)]] true (Bv true) ∧ ((.ptr false [slPoint false ((at_ x.Strokes i.toNat).Points)] : AV) = .ptr false [slPoint false ((at_ x.Strokes i.toNat).Points)]) ∧ True, 0 < i, (0 : Int) ≤ i ∧ i < (x.Strokes.length : Int), (0 : Int) ≤ 0 ∧ 0 < ((((at_ x.Strokes i.toNat).Points).length) : Int), inR .i64 (i - 1), (0 : Int) ≤ (i - 1) ∧ (i - 1) < (x.Strokes.length : Int), Con Tryz.prog 80 [.ptr false [slPoint false ((at_ x.Strokes ((i - 1).toNat)).Points)]] true (I ((at_ (at_ x.Strokes ((i - 1).toNat)).Points ((at_ x.Strokes ((i - 1).toNat)).Points.length - 1)).T)) ∧ ((.ptr false [slPoint false ((at_ x.Strokes ((i - 1).toNat)).Points)] : AV) = .ptr false [slPoint false ((at_ x.Strokes ((i - 1).toNat)).Points)]) ∧ True, ((at_ ((at_ x.Strokes i.toNat).Points) 0).T) ≤ ((at_ (at_ x.Strokes ((i - 1).toNat)).Points ((at_ x.Strokes ((i - 1).toNat)).Points.length - 1)).T)] (by kernel_rfl) hB ⟨⟨(by omega), (by omega)⟩, ⟨(con_bool h2 (l02Stroke_ok (at_ x.Strokes i.toNat))), rfl, trivial⟩, h3, ⟨(by omega), (by omega)⟩, ⟨(by omega), (by omega)⟩, (inR_i64 (by omega) (by omega)), ⟨(by omega), (by omega)⟩, ⟨(l02Last_ok (at_ x.Strokes ((i - 1).toNat)) (by omega)), rfl, trivial⟩, h4, trivial⟩ ?_
      refine ae_then ?_
      refine aw_true rfl ?_
      refine aw_seq ?_
      refine aw_reg [] [2] [] [Bv false] [] [] (by kernel_rfl) hB trivial ?_
      refine ae_then ?_
      refine aw_ret ?_
      refine ae_ret_block (ae_ret_then (ae_ret_then (ae_ret_block (ae_ret_then ?_))))
      refine ae_ret hB (Bv false) (by kernel_rfl) (.inl (by first | rfl | (refine congrArg Bv ?_; simp [okInk', *]; done) | (refine congrArg Bv ?_; simp [okInk', *]; omega) | (refine congrArg Bv ?_; simp_all [okInk']; done) | (refine congrArg Bv ?_; simp_all [okInk']; omega))) rfl (fun _ => trivial)
     ·have hok := okSA_yes h2 h3 h4
      refine aw_reg [(6, .call [(true, .ptr false [slPoint false ((at_ x.Strokes i.toNat).Points)])] true (Bv true)), (10, .dec true), (30, .call [(true, .ptr false [slPoint false ((at_ x.Strokes ((i - 1).toNat)).Points)])] true (I ((at_ (at_ x.Strokes ((i - 1).toNat)).Points ((at_ x.Strokes ((i - 1).toNat)).Points.length - 1)).T))), (31, .dec false)] [0, 3, 46] [] [.ptr false [slStroke false x.Strokes], I i, Bv false] [] [(0 : Int) ≤ i ∧ i < (x.Strokes.length : Int), Con Tryz.prog 35 [.ptr false [slPoint false ((at_ x.Strokes i.toNat).Points)]] true (Bv true) ∧ ((.ptr false [slPoint false ((at_ x.Strokes i.toNat).Points)] : AV) = .ptr false [slPoint false ((at_ x.Strokes i.toNat).Points)]) ∧ True, 0 < i, (0 : Int) ≤ i ∧ i < (x.Strokes.length : Int), (0 : Int) ≤ 0 ∧ 0 < ((((at_ x.Strokes i.toNat).Points).length) : Int), inR .i64 (i - 1), (0 : Int) ≤ (i - 1) ∧ (i - 1) < (x.Strokes.length : Int), Con Tryz.prog 80 [.ptr false [slPoint false ((at_ x.Strokes ((i - 1).toNat)).Points)]] true (I ((at_ (at_ x.Strokes ((i - 1).toNat)).Points ((at_ x.Strokes ((i - 1).toNat)).Points.length - 1)).T)) ∧ ((.ptr false [slPoint false ((at_ x.Strokes ((i - 1).toNat)).Points)] : AV) = .ptr false [slPoint false ((at_ x.Strokes ((i - 1).toNat)).Points)]) ∧ True, ¬ (((at_ ((at_ x.Strokes i.toNat).Points) 0).T) ≤ ((at_ (at_ x.Strokes ((i - 1).toNat)).Points ((at_ x.Strokes ((i - 1).toNat)).Points.length - 1)).T))] (by kernel_rfl) hB ⟨⟨(by omega), (by omega)⟩, ⟨(con_bool h2 (l02Stroke_ok (at_ x.Strokes i.toNat))), rfl, trivial⟩, h3, ⟨(by omega), (by omega)⟩, ⟨(by omega), (by omega)⟩, (inR_i64 (by omega) (by omega)), ⟨(by omega), (by omega)⟩, ⟨(l02Last_ok (at_ x.Strokes ((i - 1).toNat)) (by omega)), rfl, trivial⟩, h4, trivial⟩ ?_
      refine ae_then ?_
      refine aw_false rfl ?_
      refine aw_skip ?_
      refine ae_block 1 ?_
      refine ae_then ?_
      refine aw_reg [] [0, 3] [] [.ptr false [slStroke false x.Strokes], I (i + 1)] [] [inR .i64 (i + 1)] (by kernel_rfl) hB ⟨(inR_i64 (by omega) (by omega)), trivial⟩ ?_
      exact ae_again _ (by omega) ⟨(i + 1), rfl, (by omega), (by intro j hj; by_cases ej : j = i.toNat; (subst ej; first | assumption | exact hok); exact hall0 j (by omega)), rfl⟩
    ·have hok := okSA_zero h2 hi0.1 h3
     refine aw_reg [(6, .call [(true, .ptr false [slPoint false ((at_ x.Strokes i.toNat).Points)])] true (Bv true)), (10, .dec false)] [0, 3, 46] [] [.ptr false [slStroke false x.Strokes], I i, Bv false] [] [(0 : Int) ≤ i ∧ i < (x.Strokes.length : Int), Con Tryz.prog 35 [.ptr false [slPoint false ((at_ x.Strokes i.toNat).Points)]] true (Bv true) ∧ ((.ptr false [slPoint false ((at_ x.Strokes i.toNat).Points)] : AV) = .ptr false [slPoint false ((at_ x.Strokes i.toNat).Points)]) ∧ True, ¬ (0 < i)] (by kernel_rfl) hB ⟨⟨(by omega), (by omega)⟩, ⟨(con_bool h2 (l02Stroke_ok (at_ x.Strokes i.toNat))), rfl, trivial⟩, h3, trivial⟩ ?_
     refine ae_then ?_
     refine aw_false rfl ?_
     refine aw_skip ?_
     refine ae_block 1 ?_
     refine ae_then ?_
     refine aw_reg [] [0, 3] [] [.ptr false [slStroke false x.Strokes], I (i + 1)] [] [inR .i64 (i + 1)] (by kernel_rfl) hB ⟨(inR_i64 (by omega) (by omega)), trivial⟩ ?_
     exact ae_again _ (by omega) ⟨(i + 1), rfl, (by omega), (by intro j hj; by_cases ej : j = i.toNat; (subst ej; first | assumption | exact hok); exact hall0 j (by omega)), rfl⟩
   ·have hall : allN x.Strokes.length (okSA x.Strokes) = false := allN_not hi (okSA_bad (by simpa using h2))
    refine aw_reg [(6, .call [(true, .ptr false [slPoint false ((at_ x.Strokes i.toNat).Points)])] true (Bv false))] [0, 3, 46] [] [.ptr false [slStroke false x.Strokes], I i, Bv true] [] [(0 : Int) ≤ i ∧ i < (x.Strokes.length : Int), Con Tryz.prog 35 [.ptr false [slPoint false ((at_ x.Strokes i.toNat).Points)]] true (Bv false) ∧ ((.ptr false [slPoint false ((at_ x.Strokes i.toNat).Points)] : AV) = .ptr false [slPoint false ((at_ x.Strokes i.toNat).Points)]) ∧ True] (by kernel_rfl) hB ⟨⟨(by omega), (by omega)⟩, ⟨(con_bool h2 (l02Stroke_ok (at_ x.Strokes i.toNat))), rfl, trivial⟩, trivial⟩ ?_
    refine ae_then ?_
    refine aw_true rfl ?_
    refine aw_seq ?_
    refine aw_reg [] [2] [] [Bv false] [] [] (by kernel_rfl) hB trivial ?_
    refine ae_then ?_
    refine aw_ret ?_
    refine ae_ret_block (ae_ret_then (ae_ret_then (ae_ret_block (ae_ret_then ?_))))
    refine ae_ret hB (Bv false) (by kernel_rfl) (.inl (by first | rfl | (refine congrArg Bv ?_; simp [okInk', *]; done) | (refine congrArg Bv ?_; simp [okInk', *]; omega) | (refine congrArg Bv ?_; simp_all [okInk']; done) | (refine congrArg Bv ?_; simp_all [okInk']; omega))) rfl (fun _ => trivial)
  ·have hall : allN x.Strokes.length (okSA x.Strokes) = true := allN_at (fun j hj => hall0 j (by omega))
   refine aw_reg [(6, .dec false)] [0, 3, 10] [] [.ptr false [slStroke false x.Strokes], I i, Bv false] [] [¬ (i < (x.Strokes.length : Int))] (by kernel_rfl) hB ⟨h1, trivial⟩ ?_
   refine ae_then ?_
   refine aw_false rfl ?_
   refine aw_exit ?_
   refine ae_exit_then ?_
   refine ae_exit_then ?_
   refine ae_exit_same ?_
   refine ae_then ?_
   refine aw_seq ?_
   refine aw_reg [] [2] [] [Bv (decide ((x.Strokes.length : Int) ≤ 16))] [] [] (by kernel_rfl) hB trivial ?_
   refine ae_then ?_
   refine aw_ret ?_
   refine ae_ret hB (Bv (decide ((x.Strokes.length : Int) ≤ 16))) (by kernel_rfl) (.inl (by first | rfl | (refine congrArg Bv ?_; simp [okInk', *]; done) | (refine congrArg Bv ?_; simp [okInk', *]; omega) | (refine congrArg Bv ?_; simp_all [okInk']; done) | (refine congrArg Bv ?_; simp_all [okInk']; omega))) rfl (fun _ => trivial)


-- spec.l02OwnStroke
theorem l02OwnStroke_ok (s : Stroke) (hl : s.Points.length ≤ 100000) : ∃ (pts : List Point), (pts = s.Points) ∧ CallOK Tryz.prog 107 [.ptr false [slPoint false s.Points]] (lookO []) false (.agg [.arr 8041]) (lookO [(8041, .arr 3 pts.length (fPoint pts))]) := by
  have hh : ∃ r : (List Point), ((r = s.Points) ∧ (True)) ∧ CallOK Tryz.prog 107 [.ptr false [slPoint false s.Points]] (lookO []) false (.agg [.arr 8041]) (lookO [(8041, .arr 3 r.length (fPoint r))]) := by
    refine fn_okX (Φ := fun r : (List Point) => (r = s.Points) ∧ (True)) [] (fun r => [(8041, .arr 3 r.length (fPoint r))]) (fn := Tryz.f107) (nt := 10) Tryz.func107 rfl rfl (args := [.ptr false [slPoint false s.Points]]) rfl (allcons (.inl ⟨rfl, by simp [tagged, taggedL, tagPoint]⟩) allnil) (res := fun r => .agg [.arr 8041]) ?_
    refine x_seq ?_
    refine x_reg [(0, .new 2)] [0, 2] [2] [.ptr false [slPoint false s.Points], .ref 2 0] [some (.box [nilA])] [] (by kernel_rfl) trivial ?_
    refine xe_then ?_
    refine x_seq ?_
    refine x_reg [(0, .new 3), (5, .new 8)] [2] [2, 8] [.ref 2 0] [some (.box [.arr 8]), some (.arr 3 (0 + s.Points.length) (catF 0 (litF [] 3) (fPoint s.Points)))] [(0 + s.Points.length) * 24 ≤ 140737488355328] (by kernel_rfl) ⟨(by omega), trivial⟩ ?_
    refine xe_then ?_
    refine x_ret ?_
    refine xe_weak [(8041, 8)] (T := [(2, .ref 2 0)]) (O := [(2, .box [.arr 8041]), (8041, .arr 3 ((([] : List Point) ++ s.Points).length) (fPoint (([] : List Point) ++ s.Points)))]) rfl (⟨.inl rfl, trivial⟩) (⟨.inl rfl, .inr ⟨rfl, (by first | rfl | (simp; done) | (simp; omega) | omega), fun i hi => .inl (by first | rfl | fail)⟩, trivial⟩) ?_
    refine xe_end (([] : List Point) ++ s.Points) (show ((([] : List Point) ++ s.Points) = s.Points) ∧ (True) from ⟨(by first | rfl | simp), trivial⟩) (⟨.inl rfl, trivial⟩) (.agg [.arr 8041]) (by kernel_rfl) (.inl rfl) (fun h => by cases h) (fun h => by cases h)
  obtain ⟨pts, ⟨hh0, _⟩, hc⟩ := hh
  exact ⟨pts, hh0, hc⟩


theorem take_succ_at {α : Type} [Inhabited α] {xs : List α} {i : Int} {y : α} (h0 : 0 ≤ i) (h : i.toNat < xs.length) (hy : y = at_ xs i.toNat) : xs.take (i + 1).toNat = xs.take i.toNat ++ [y] := by
  have e : (i + 1).toNat = i.toNat + 1 := by omega
  rw [e, List.take_succ_eq_append_getElem h, hy]
  simp [at_, h]

-- spec.l02Own
theorem l02Own_ok (ik : Ink) (hx : ∀ s ∈ ik.Strokes, s.Points.length ≤ 100000) (hl : ik.Strokes.length ≤ 100000) : ∃ (ss : List Stroke), (ss = ik.Strokes) ∧ CallOK Tryz.prog 81 [.ptr false [slStroke false ik.Strokes]] (lookO []) false (.agg [.arr 8031]) (lookO [(8031, .oar [8032] 1 ss.length (oStroke 8032 ss)), (8032, .fam ss.length 3 (mStroke ss) (gStroke ss))]) := by
  have hh : ∃ r : (List Stroke), ((r = ik.Strokes) ∧ (True)) ∧ CallOK Tryz.prog 81 [.ptr false [slStroke false ik.Strokes]] (lookO []) false (.agg [.arr 8031]) (lookO [(8031, .oar [8032] 1 r.length (oStroke 8032 r)), (8032, .fam r.length 3 (mStroke r) (gStroke r))]) := by
    refine fn_okX (Φ := fun r : (List Stroke) => (r = ik.Strokes) ∧ (True)) [] (fun r => [(8031, .oar [8032] 1 r.length (oStroke 8032 r)), (8032, .fam r.length 3 (mStroke r) (gStroke r))]) (fn := Tryz.f81) (nt := 28) Tryz.func81 rfl rfl (args := [.ptr false [slStroke false ik.Strokes]]) rfl (allcons (.inl ⟨rfl, by simp [tagged, taggedL, tagStroke]⟩) allnil) (res := fun r => .agg [.arr 8031]) ?_
    refine x_seq ?_
    refine x_reg [(0, .new 2)] [0, 2] [2] [.ptr false [slStroke false ik.Strokes], .ref 2 0] [some (.box [nilA])] [] (by kernel_rfl) trivial ?_
    refine xe_then ?_
    refine x_seq ?_
    refine x_reg [(1, .new 3)] [0, 2, 3] [2, 3] [.ptr false [slStroke false ik.Strokes], .ref 2 0, .ref 3 0] [some (.box [nilA]), some (.box [nilA])] [] (by kernel_rfl) trivial ?_
    refine xe_then ?_
    refine x_seq ?_
    refine x_seq ?_
    refine x_reg [] [0, 2, 3, 4] [2, 3] [.ptr false [slStroke false ik.Strokes], .ref 2 0, .ref 3 0, I 0] [some (.box [nilA]), some (.box [nilA])] [] (by kernel_rfl) trivial ?_
    refine xe_then ?_
    refine x_block ?_
    refine x_nilC 3 0 730 1 (fun _ => []) rfl (by kernel_rfl) ?_
    refine x_fam 8032 3 (fun _ => 0) (fun _ _ => []) (by kernel_rfl) ?_
    refine x_weak [] (T := [(0, .ptr false [slStroke false ik.Strokes]), (2, .ref 2 0), (3, .ref 3 0), (4, I 0)]) (O := [(2, .box [nilA]), (3, .box [.arr 730]), (730, .oar [8032] 1 (([] : List Stroke).length) (oStroke 8032 ([] : List Stroke))), (8032, .fam ([] : List Stroke).length 3 (mStroke ([] : List Stroke)) (gStroke ([] : List Stroke)))]) rfl (⟨.inl rfl, .inl rfl, .inl rfl, .inl rfl, trivial⟩) (⟨.inl rfl, .inl rfl, .inr ⟨rfl, rfl, fun i hi => absurd hi (Nat.not_lt_zero _)⟩, .inr ⟨rfl, rfl, fun p hp => absurd hp (Nat.not_lt_zero _)⟩, trivial⟩) ?_
    refine x_loop (X := Int × (List Stroke)) (fun x => mkS [(0, .ptr false [slStroke false ik.Strokes]), (2, .ref 2 0), (3, .ref 3 0), (4, I x.1)] [(2, .box [nilA]), (3, .box [.arr 730]), (730, .oar [8032] 1 x.2.length (oStroke 8032 x.2)), (8032, .fam x.2.length 3 (mStroke x.2) (gStroke x.2))]) (fun x => (0 ≤ x.1 ∧ x.1 ≤ (ik.Strokes.length : Int)) ∧ ((x.2.length : Int) = x.1) ∧ (x.2 = ik.Strokes.take x.1.toNat) ∧ True) (fun x => ((ik.Strokes.length : Int) - x.1).toNat) (0, ([] : List Stroke)) rfl (show (0 ≤ (0 : Int) ∧ (0 : Int) ≤ (ik.Strokes.length : Int)) ∧ ((([] : List Stroke).length : Int) = (0 : Int)) ∧ (([] : List Stroke) = ik.Strokes.take (0 : Int).toNat) ∧ True from ⟨(by omega), (by rfl), (by rfl), trivial⟩) (fun x hI => ?_)
    obtain ⟨i, ss⟩ := x
    obtain ⟨hi0, hl0, hs0, _⟩ : (0 ≤ i ∧ i ≤ (ik.Strokes.length : Int)) ∧ ((ss.length : Int) = i) ∧ (ss = ik.Strokes.take i.toNat) ∧ True := hI
    show XW _ _ _ _ (mkS [(0, .ptr false [slStroke false ik.Strokes]), (2, .ref 2 0), (3, .ref 3 0), (4, I i)] [(2, .box [nilA]), (3, .box [.arr 730]), (730, .oar [8032] 1 ss.length (oStroke 8032 ss)), (8032, .fam ss.length 3 (mStroke ss) (gStroke ss))]) _ _
    refine x_seq ?_
    refine x_seq ?_
    by_cases h1 : i < (ik.Strokes.length : Int)
    ·refine x_reg [(6, .dec true)] [0, 2, 3, 4, 12] [2, 3, 730, 8032] [.ptr false [slStroke false ik.Strokes], .ref 2 0, .ref 3 0, I i, Bv true] [some (.box [nilA]), some (.box [.arr 730]), some (.oar [8032] 1 ss.length (oStroke 8032 ss)), some (.fam ss.length 3 (mStroke ss) (gStroke ss))] [i < (ik.Strokes.length : Int)] (by kernel_rfl) ⟨h1, trivial⟩ ?_
     refine xe_then ?_
     refine x_true rfl ?_
     refine x_skip ?_
     refine xe_then ?_
     refine x_seq ?_
     refine x_block ?_
     obtain ⟨pts_1, hx1_0, hc1⟩ := l02OwnStroke_ok (at_ ik.Strokes i.toNat) (hx _ (at_mem (by omega)))
     refine x_reg [(8, .lend [] [(8041, .arr 3 pts_1.length (fPoint pts_1))] [(true, .ptr false [slPoint false ((at_ ik.Strokes i.toNat).Points)])] false (.agg [.arr 8041])), (9, .new 24), (10, .new 25)] [0, 2, 3, 4] [2, 3, 25, 8032, 8041] [.ptr false [slStroke false ik.Strokes], .ref 2 0, .ref 3 0, I i] [some (.box [nilA]), some (.box [.arr 25]), some (.oar [8032, 8041] 1 (ss.length + 1) (catF ss.length (oStroke 8032 ss) (litF [.arr 8041] 1))), some (.fam ss.length 3 (mStroke ss) (gStroke ss)), some (.arr 3 pts_1.length (fPoint pts_1))] [(0 : Int) ≤ i ∧ i < (ik.Strokes.length : Int), CallOK Tryz.prog 107 [.ptr false [slPoint false ((at_ ik.Strokes i.toNat).Points)]] (lookO []) false (.agg [.arr 8041]) (lookO [(8041, .arr 3 pts_1.length (fPoint pts_1))]) ∧ ((.ptr false [slPoint false ((at_ ik.Strokes i.toNat).Points)] : AV) = .ptr false [slPoint false ((at_ ik.Strokes i.toNat).Points)]) ∧ True, (ss.length + 1) * 24 ≤ 140737488355328] (by kernel_rfl) ⟨⟨(by omega), (by omega)⟩, ⟨hc1, rfl, trivial⟩, (by omega), trivial⟩ ?_
     refine xe_block 1 ?_
     refine xe_then ?_
     refine x_reg [] [0, 2, 3, 4] [2, 3, 25, 8032, 8041] [.ptr false [slStroke false ik.Strokes], .ref 2 0, .ref 3 0, I (i + 1)] [some (.box [nilA]), some (.box [.arr 25]), some (.oar [8032, 8041] 1 (ss.length + 1) (catF ss.length (oStroke 8032 ss) (litF [.arr 8041] 1))), some (.fam ss.length 3 (mStroke ss) (gStroke ss)), some (.arr 3 pts_1.length (fPoint pts_1))] [inR .i64 (i + 1)] (by kernel_rfl) ⟨(inR_i64 (by omega) (by omega)), trivial⟩ ?_
     refine xe_join 8041 8032 rfl rfl rfl ?_
     refine xe_weak [(730, 25)] (T := [(0, .ptr false [slStroke false ik.Strokes]), (2, .ref 2 0), (3, .ref 3 0), (4, I (i + 1))]) (O := [(2, .box [nilA]), (3, .box [.arr 730]), (730, .oar [8032] 1 ((ss ++ [(Stroke.mk pts_1)]).length) (oStroke 8032 (ss ++ [(Stroke.mk pts_1)]))), (8032, .fam (ss ++ [(Stroke.mk pts_1)]).length 3 (mStroke (ss ++ [(Stroke.mk pts_1)])) (gStroke (ss ++ [(Stroke.mk pts_1)])))]) rfl (⟨.inl rfl, .inl rfl, .inl rfl, .inl rfl, trivial⟩) (⟨.inl rfl, .inl rfl, .inr ⟨rfl, rfl, (by simp), fun i hi => .inl (ocatStroke rfl rfl rfl i hi)⟩, .inr (fcatStroke (Stroke.mk pts_1) (by first | rfl | (simp; done)) (fun i hi => (by first | rfl | fail))), trivial⟩) (xe_again ((i + 1), (ss ++ [(Stroke.mk pts_1)])) rfl (show (0 ≤ (i + 1) ∧ (i + 1) ≤ (ik.Strokes.length : Int)) ∧ (((ss ++ [(Stroke.mk pts_1)]).length : Int) = (i + 1)) ∧ ((ss ++ [(Stroke.mk pts_1)]) = ik.Strokes.take (i + 1).toNat) ∧ True from ⟨(by omega), (by simp; omega), (by rw [hs0]; exact (take_succ_at (by omega) (by omega) (by first | rfl | assumption | (simp only [*]; done))).symm), trivial⟩) (by show (((ik.Strokes.length : Int) - (i + 1)).toNat : Nat) < ((ik.Strokes.length : Int) - i).toNat; omega))
    ·refine x_reg [(6, .dec false)] [0, 2, 3, 4, 12] [2, 3, 730, 8032] [.ptr false [slStroke false ik.Strokes], .ref 2 0, .ref 3 0, I i, Bv false] [some (.box [nilA]), some (.box [.arr 730]), some (.oar [8032] 1 ss.length (oStroke 8032 ss)), some (.fam ss.length 3 (mStroke ss) (gStroke ss))] [¬ (i < (ik.Strokes.length : Int))] (by kernel_rfl) ⟨h1, trivial⟩ ?_
     refine xe_then ?_
     refine x_false rfl ?_
     refine x_exit ?_
     refine xe_exit_then ?_
     refine xe_loop_exit ?_
     refine xe_exit_same ?_
     refine xe_then ?_
     refine x_seq ?_
     refine x_reg [] [2] [2, 730, 8032] [.ref 2 0] [some (.box [.arr 730]), some (.oar [8032] 1 ss.length (oStroke 8032 ss)), some (.fam ss.length 3 (mStroke ss) (gStroke ss))] [] (by kernel_rfl) trivial ?_
     refine xe_then ?_
     refine x_ret ?_
     refine xe_weak [(8031, 730)] (T := [(2, .ref 2 0)]) (O := [(2, .box [.arr 8031]), (8031, .oar [8032] 1 ss.length (oStroke 8032 ss)), (8032, .fam ss.length 3 (mStroke ss) (gStroke ss))]) rfl (⟨.inl rfl, trivial⟩) (⟨.inl rfl, .inl rfl, .inl rfl, trivial⟩) ?_
     refine xe_end ss (show (ss = ik.Strokes) ∧ (True) from ⟨(by rw [hs0]; exact List.take_of_length_le (by omega)), trivial⟩) (⟨.inl rfl, .inl rfl, trivial⟩) (.agg [.arr 8031]) (by kernel_rfl) (.inl rfl) (fun h => by cases h) (fun h => by cases h)
  obtain ⟨ss, ⟨hh0, _⟩, hc⟩ := hh
  exact ⟨ss, hh0, hc⟩


def mvP (dx dy : Int) (p : Point) : Point := ⟨p.X + dx, p.Y + dy, p.T⟩
def mvS (dx dy : Int) (s : Stroke) : Stroke := ⟨s.Points.map (mvP dx dy)⟩
/-- Ink at another place. -/
def mvI (dx dy : Int) (x : Ink) : Ink := ⟨x.Strokes.map (mvS dx dy)⟩
theorem mvI_len (dx dy : Int) (x : Ink) : (mvI dx dy x).Strokes.length = x.Strokes.length := by simp [mvI]
theorem mvS_len (dx dy : Int) (s : Stroke) : (mvS dx dy s).Points.length = s.Points.length := by simp [mvS]
theorem mvS_at {dx dy : Int} {s : Stroke} {j : Nat} (h : j < s.Points.length) : at_ (mvS dx dy s).Points j = mvP dx dy (at_ s.Points j) := by simp [at_, mvS, h]
theorem mvI_at {dx dy : Int} {x : Ink} {j : Nat} (h : j < x.Strokes.length) : at_ (mvI dx dy x).Strokes j = mvS dx dy (at_ x.Strokes j) := by simp [at_, mvI, h]
/-- The first k points are moved. -/
def mvTo (dx dy : Int) (k : Nat) (s : Stroke) : Stroke := ⟨(s.Points.take k).map (mvP dx dy) ++ s.Points.drop k⟩
/-- The first i strokes are moved. -/
def mvFst (dx dy : Int) (i : Nat) (xs : List Stroke) : List Stroke := (xs.take i).map (mvS dx dy) ++ xs.drop i
theorem mvTo_zero (dx dy : Int) (s : Stroke) : mvTo dx dy 0 s = s := by simp [mvTo]
theorem mvTo_all {dx dy : Int} {k : Nat} {s : Stroke} (h : s.Points.length ≤ k) : mvTo dx dy k s = mvS dx dy s := by simp [mvTo, mvS, List.take_of_length_le h, List.drop_eq_nil_of_le h]
theorem mvTo_len (dx dy : Int) (k : Nat) (s : Stroke) : (mvTo dx dy k s).Points.length = s.Points.length := by simp [mvTo]; omega
theorem mvTo_at {dx dy : Int} {k : Nat} {s : Stroke} (h : k < s.Points.length) : at_ (mvTo dx dy k s).Points k = at_ s.Points k := by
  simp [at_, mvTo, h, Nat.le_of_lt h, List.getElem?_append]
theorem mvTo_succ {dx dy : Int} {k : Nat} {s : Stroke} (h : k < s.Points.length) : mvTo dx dy (k + 1) s = ⟨(mvTo dx dy k s).Points.set k (mvP dx dy (at_ s.Points k))⟩ := by
  unfold mvTo
  simp only [Stroke.mk.injEq]
  rw [List.take_succ_eq_append_getElem h, List.set_append_right _ _ (by simp [Nat.le_of_lt h]), List.drop_eq_getElem_cons h, at_eq h]
  simp only [List.map_append, List.map_cons, List.map_nil, List.length_map, List.length_take, Nat.min_eq_left (Nat.le_of_lt h), Nat.sub_self, List.set_cons_zero, List.append_assoc, List.cons_append, List.nil_append]
theorem mvFst_zero (dx dy : Int) (xs : List Stroke) : mvFst dx dy 0 xs = xs := by simp [mvFst]
theorem mvFst_len (dx dy : Int) (i : Nat) (xs : List Stroke) : (mvFst dx dy i xs).length = xs.length := by simp [mvFst]; omega
theorem mvFst_all {dx dy : Int} {i : Nat} {xs : List Stroke} (h : xs.length ≤ i) : mvFst dx dy i xs = xs.map (mvS dx dy) := by simp [mvFst, List.take_of_length_le h, List.drop_eq_nil_of_le h]
theorem mvFst_at {dx dy : Int} {i : Nat} {xs : List Stroke} (h : i < xs.length) : at_ (mvFst dx dy i xs) i = at_ xs i := by
  simp [at_, mvFst, h, Nat.le_of_lt h, List.getElem?_append]
theorem mvFst_succ {dx dy : Int} {i : Nat} {xs : List Stroke} (h : i < xs.length) : mvFst dx dy (i + 1) xs = (mvFst dx dy i xs).set i (mvS dx dy (at_ xs i)) := by
  unfold mvFst
  rw [List.take_succ_eq_append_getElem h, List.set_append_right _ _ (by simp [Nat.le_of_lt h]), List.drop_eq_getElem_cons h, at_eq h]
  simp only [List.map_append, List.map_cons, List.map_nil, List.length_map, List.length_take, Nat.min_eq_left (Nat.le_of_lt h), Nat.sub_self, List.set_cons_zero, List.append_assoc, List.cons_append, List.nil_append]
/-- The stroke at i, of which the first k points are moved. -/
def mvIn (dx dy : Int) (i k : Nat) (xs : List Stroke) : List Stroke := (mvFst dx dy i xs).set i (mvTo dx dy k (at_ xs i))
theorem mvIn_zero {dx dy : Int} {i : Nat} {xs : List Stroke} (h : i < xs.length) : mvIn dx dy i 0 xs = mvFst dx dy i xs := by
  have hl : i < (mvFst dx dy i xs).length := by rw [mvFst_len]; exact h
  rw [mvIn, mvTo_zero]
  have := mvFst_at (dx := dx) (dy := dy) h
  conv => lhs; rw [← this]
  simp [at_, hl]
theorem mvIn_len (dx dy : Int) (i k : Nat) (xs : List Stroke) : (mvIn dx dy i k xs).length = xs.length := by simp [mvIn, mvFst_len]
theorem mvIn_at {dx dy : Int} {i k : Nat} {xs : List Stroke} (h : i < xs.length) : at_ (mvIn dx dy i k xs) i = mvTo dx dy k (at_ xs i) := by
  have hl : i < (mvFst dx dy i xs).length := by rw [mvFst_len]; exact h
  simp [mvIn, at_, hl]
theorem mvIn_succ {dx dy : Int} {i k : Nat} {xs : List Stroke} (h : i < xs.length) (hk : k < (at_ xs i).Points.length) : mvIn dx dy i (k + 1) xs = (mvIn dx dy i k xs).set i ⟨(at_ (mvIn dx dy i k xs) i).Points.set k (mvP dx dy (at_ (at_ xs i).Points k))⟩ := by
  rw [mvIn_at h, mvIn, mvTo_succ hk, mvIn, List.set_set]
theorem mvIn_all {dx dy : Int} {i k : Nat} {xs : List Stroke} (h : i < xs.length) (hk : (at_ xs i).Points.length ≤ k) : mvIn dx dy i k xs = mvFst dx dy (i + 1) xs := by
  rw [mvIn, mvTo_all hk, mvFst_succ h]
section
variable {dx dy : Int} {s : Stroke}
theorem far_mv (a b : Point) : farI (mvP dx dy a) (mvP dx dy b) = farI a b := by
  have e1 : a.X + dx - (b.X + dx) = a.X - b.X := by omega
  have e2 : a.Y + dy - (b.Y + dy) = a.Y - b.Y := by omega
  simp only [farI, mvP, e1, e2]
theorem seg_mv (a b : Point) : segI (mvP dx dy a) (mvP dx dy b) = segI a b := by rw [segI, far_mv]; rfl
theorem sum_mv : ∀ k, k ≤ s.Points.length → sumS (mvS dx dy s).Points k = sumS s.Points k
  | 0, _ => rfl
  | k + 1, h => by
    rw [sumS, sumS, sum_mv k (by omega)]
    split
    · rfl
    · rw [mvS_at (by omega), mvS_at (by omega), seg_mv]
theorem rev_mv : ∀ k, k ≤ s.Points.length → revS (mvS dx dy s).Points k = revS s.Points k
  | 0, _ => rfl
  | k + 1, h => by
    rw [revS, revS, rev_mv k (by omega)]
    split
    · rfl
    · rw [mvS_at (by omega), mvS_at (by omega)]
      have e1 : (at_ s.Points k).X + dx - ((at_ s.Points (k - 1)).X + dx) = (at_ s.Points k).X - (at_ s.Points (k - 1)).X := by omega
      simp only [mvP, e1]
theorem dirs_mv : ∀ k, k ≤ s.Points.length → dirsL (mvS dx dy s).Points k = dirsL s.Points k
  | 0, _ => rfl
  | k + 1, h => by
    rw [dirsL, dirsL, dirs_mv k (by omega)]
    by_cases hk : k = 0
    · subst hk; simp
    · rw [mvS_at (by omega), mvS_at (by omega)]
      have e1 : (at_ s.Points k).X + dx - ((at_ s.Points (k - 1)).X + dx) = (at_ s.Points k).X - (at_ s.Points (k - 1)).X := by omega
      have e2 : (at_ s.Points k).Y + dy - ((at_ s.Points (k - 1)).Y + dy) = (at_ s.Points k).Y - (at_ s.Points (k - 1)).Y := by omega
      simp only [mvP, e1, e2]
def mvB (dx dy : Int) (b : Box) : Box := ⟨b.X1 + dx, b.Y1 + dy, b.X2 + dx, b.Y2 + dy⟩
theorem box_mv (h1 : 1 ≤ s.Points.length) : ∀ k, k ≤ s.Points.length → boxS (mvS dx dy s).Points k = mvB dx dy (boxS s.Points k)
  | 0, _ => by rw [boxS, boxS, mvS_at (by omega)]; rfl
  | k + 1, h => by
    rw [boxS, boxS, box_mv h1 k (by omega), mvS_at (by omega)]
    simp only [joinB, mvB, ptB, mvP, Box.mk.injEq]
    omega
theorem caret_mv (h1 : 1 ≤ s.Points.length) : caretB (mvS dx dy s) = caretB s := by
  unfold caretB
  simp only [mvS_len]
  rw [box_mv h1 _ (Nat.le_refl _), rev_mv _ (Nat.le_refl _), mvS_at (by omega), mvS_at (by omega)]
  generalize boxS s.Points s.Points.length = b
  generalize at_ s.Points 0 = p
  generalize at_ s.Points (s.Points.length - 1) = q
  have e1 : (mvB dx dy b).Y2 - (mvB dx dy b).Y1 = b.Y2 - b.Y1 := by simp only [mvB]; omega
  have e2 : (mvP dx dy p).Y - (mvB dx dy b).Y1 = p.Y - b.Y1 := by simp only [mvB, mvP]; omega
  have e3 : (mvP dx dy q).Y - (mvB dx dy b).Y1 = q.Y - b.Y1 := by simp only [mvB, mvP]; omega
  rw [e1, e2, e3]
theorem ends_mv (h1 : 1 ≤ s.Points.length) : endsI (mvS dx dy s) = endsI s := by
  unfold endsI
  rw [mvS_len, mvS_at (by omega), mvS_at (by omega), seg_mv]
theorem bendT_mv : bendT (mvS dx dy s) = bendT s := by
  unfold bendT
  rw [mvS_len, dirs_mv _ (Nat.le_refl _)]
/-- A gesture does not depend on where it is made. -/
theorem gest_mv (h1 : 1 ≤ s.Points.length) : gestI (mvS dx dy s) = gestI s := by
  unfold gestI strI
  rw [mvS_len, sum_mv _ (Nat.le_refl _), rev_mv _ (Nat.le_refl _), bendT_mv, ends_mv h1, caret_mv h1]
end

theorem at_setS {α : Type} [Inhabited α] {xs : List α} {i : Nat} {y : α} (h : i < xs.length) : at_ (xs.set i y) i = y := by simp [at_, h]
section
variable {dx dy i k : Int} {xs ys : List Stroke}
theorem mvIn_next (e : ys = mvIn dx dy i.toNat k.toNat xs) (hk0 : 0 ≤ k) (hi : i.toNat < xs.length) (hk : k.toNat < (at_ xs i.toNat).Points.length) :
    ys.set i.toNat ⟨(at_ ys i.toNat).Points.set k.toNat ⟨(at_ (at_ ys i.toNat).Points k.toNat).X + dx, (at_ (at_ ys i.toNat).Points k.toNat).Y + dy, (at_ (at_ ys i.toNat).Points k.toNat).T⟩⟩ = mvIn dx dy i.toNat (k + 1).toNat xs := by
  have ek : (k + 1).toNat = k.toNat + 1 := by omega
  have hp : at_ (at_ ys i.toNat).Points k.toNat = at_ (at_ xs i.toNat).Points k.toNat := by rw [e, mvIn_at hi, mvTo_at hk]
  rw [hp, ek, mvIn_succ hi hk, ← e]; rfl
theorem mvIn_exit (e : ys = mvIn dx dy i.toNat k.toNat xs) (hi0 : 0 ≤ i) (hi : i.toNat < xs.length) (hk : (at_ xs i.toNat).Points.length ≤ k.toNat) : ys = mvFst dx dy (i + 1).toNat xs := by
  have ei : (i + 1).toNat = i.toNat + 1 := by omega
  rw [e, ei, mvIn_all hi hk]
theorem mvIn_pt (e : ys = mvIn dx dy i.toNat k.toNat xs) (hi : i.toNat < xs.length) (hk : k.toNat < (at_ xs i.toNat).Points.length) (hx : ∀ s ∈ xs, okStroke' s = true) :
    (0 ≤ (at_ (at_ ys i.toNat).Points k.toNat).X ∧ (at_ (at_ ys i.toNat).Points k.toNat).X ≤ 4095) ∧ (0 ≤ (at_ (at_ ys i.toNat).Points k.toNat).Y ∧ (at_ (at_ ys i.toNat).Points k.toNat).Y ≤ 4095) := by
  have hp : at_ (at_ ys i.toNat).Points k.toNat = at_ (at_ xs i.toNat).Points k.toNat := by rw [e, mvIn_at hi, mvTo_at hk]
  have := okP_iff.1 (okS_at (hx _ (at_mem hi)) hk)
  rw [hp]; exact ⟨this.1, this.2.1⟩
theorem mvIn_row (e : ys = mvIn dx dy i.toNat k.toNat xs) (hi : i.toNat < xs.length) : (at_ ys i.toNat).Points.length = (at_ xs i.toNat).Points.length := by rw [e, mvIn_at hi, mvTo_len]
theorem mv_hd {n : Nat} (hn : xs.length = n) (h : n = 0 ∨ (-4095 ≤ dx ∧ dx ≤ 4095 ∧ -4095 ≤ dy ∧ dy ≤ 4095)) : xs = [] ∨ (-4095 ≤ dx ∧ dx ≤ 4095 ∧ -4095 ≤ dy ∧ dy ≤ 4095) := by
  rcases h with h | h
  · left; exact List.eq_nil_of_length_eq_zero (by omega)
  · right; exact h
end

-- spec.l02Move
theorem l02Move_ok (ik : Ink) (dx : Int) (dy : Int) (hx : ∀ s ∈ ik.Strokes, okStroke' s = true) (hl : ik.Strokes.length ≤ 16) (hd : ik.Strokes = [] ∨ (-4095 ≤ dx ∧ dx ≤ 4095 ∧ -4095 ≤ dy ∧ dy ≤ 4095)) : ∃ (ss : List Stroke), (ss = (mvI dx dy ik).Strokes) ∧ CallOK Tryz.prog 50 [.ptr false [slStroke false ik.Strokes], I dx, I dy] (lookO []) false (.agg [.arr 8051]) (lookO [(8032, .fam ss.length 3 (mStroke ss) (gStroke ss)), (8051, .oar [8032] 1 ss.length (oStroke 8032 ss))]) := by
  have hh : ∃ r : (List Stroke), ((r = (mvI dx dy ik).Strokes) ∧ (True)) ∧ CallOK Tryz.prog 50 [.ptr false [slStroke false ik.Strokes], I dx, I dy] (lookO []) false (.agg [.arr 8051]) (lookO [(8032, .fam r.length 3 (mStroke r) (gStroke r)), (8051, .oar [8032] 1 r.length (oStroke 8032 r))]) := by
    refine fn_okX (Φ := fun r : (List Stroke) => (r = (mvI dx dy ik).Strokes) ∧ (True)) [] (fun r => [(8032, .fam r.length 3 (mStroke r) (gStroke r)), (8051, .oar [8032] 1 r.length (oStroke 8032 r))]) (fn := Tryz.f50) (nt := 59) Tryz.func50 rfl rfl (args := [.ptr false [slStroke false ik.Strokes], I dx, I dy]) rfl (allcons (.inl ⟨rfl, by simp [tagged, taggedL, tagStroke]⟩) (allcons (.inl ⟨rfl, trivial⟩) (allcons (.inl ⟨rfl, trivial⟩) allnil))) (res := fun r => .agg [.arr 8051]) ?_
    refine x_seq ?_
    refine x_reg [(0, .new 6)] [0, 1, 2, 6] [6] [.ptr false [slStroke false ik.Strokes], I dx, I dy, .ref 6 0] [some (.box [nilA])] [] (by kernel_rfl) trivial ?_
    refine xe_then ?_
    refine x_seq ?_
    obtain ⟨ss_1, hx1_0, hc1⟩ := l02Own_ok ik (fun s hs => by have := okS_len (hx s hs); omega) (by omega)
    refine x_reg [(1, .lend [] [(8031, .oar [8032] 1 ss_1.length (oStroke 8032 ss_1)), (8032, .fam ss_1.length 3 (mStroke ss_1) (gStroke ss_1))] [(true, .ptr false [slStroke false ik.Strokes])] false (.agg [.arr 8031])), (2, .new 7)] [1, 2, 6, 7] [6, 7, 8031, 8032] [I dx, I dy, .ref 6 0, .ref 7 0] [some (.box [nilA]), some (.box [.arr 8031]), some (.oar [8032] 1 ss_1.length (oStroke 8032 ss_1)), some (.fam ss_1.length 3 (mStroke ss_1) (gStroke ss_1))] [CallOK Tryz.prog 81 [.ptr false [slStroke false ik.Strokes]] (lookO []) false (.agg [.arr 8031]) (lookO [(8031, .oar [8032] 1 ss_1.length (oStroke 8032 ss_1)), (8032, .fam ss_1.length 3 (mStroke ss_1) (gStroke ss_1))]) ∧ ((.ptr false [slStroke false ik.Strokes] : AV) = .ptr false [slStroke false ik.Strokes]) ∧ True] (by kernel_rfl) ⟨⟨hc1, rfl, trivial⟩, trivial⟩ ?_
    refine xe_then ?_
    refine x_seq ?_
    refine x_seq ?_
    refine x_reg [] [1, 2, 6, 7, 8] [6, 7, 8031, 8032] [I dx, I dy, .ref 6 0, .ref 7 0, I 0] [some (.box [nilA]), some (.box [.arr 8031]), some (.oar [8032] 1 ss_1.length (oStroke 8032 ss_1)), some (.fam ss_1.length 3 (mStroke ss_1) (gStroke ss_1))] [] (by kernel_rfl) trivial ?_
    refine xe_then ?_
    refine x_block ?_
    refine x_loop (X := Int × (List Stroke)) (fun x => mkS [(1, I dx), (2, I dy), (6, .ref 6 0), (7, .ref 7 0), (8, I x.1)] [(6, .box [nilA]), (7, .box [.arr 8031]), (8031, .oar [8032] 1 x.2.length (oStroke 8032 x.2)), (8032, .fam x.2.length 3 (mStroke x.2) (gStroke x.2))]) (fun x => (0 ≤ x.1 ∧ x.1 ≤ (ik.Strokes.length : Int)) ∧ (x.2 = mvFst dx dy x.1.toNat ik.Strokes) ∧ (x.2.length = ik.Strokes.length) ∧ True) (fun x => ((ik.Strokes.length : Int) - x.1).toNat) (0, ss_1) rfl (show (0 ≤ (0 : Int) ∧ (0 : Int) ≤ (ik.Strokes.length : Int)) ∧ (ss_1 = mvFst dx dy (0 : Int).toNat ik.Strokes) ∧ (ss_1.length = ik.Strokes.length) ∧ True from ⟨(by omega), (by rw [show (0 : Int).toNat = 0 from rfl, mvFst_zero]; assumption), (by simp only [*]), trivial⟩) (fun x hI => ?_)
    obtain ⟨i, ss⟩ := x
    obtain ⟨hi0, hs0, hl0, _⟩ : (0 ≤ i ∧ i ≤ (ik.Strokes.length : Int)) ∧ (ss = mvFst dx dy i.toNat ik.Strokes) ∧ (ss.length = ik.Strokes.length) ∧ True := hI
    show XW _ _ _ _ (mkS [(1, I dx), (2, I dy), (6, .ref 6 0), (7, .ref 7 0), (8, I i)] [(6, .box [nilA]), (7, .box [.arr 8031]), (8031, .oar [8032] 1 ss.length (oStroke 8032 ss)), (8032, .fam ss.length 3 (mStroke ss) (gStroke ss))]) _ _
    refine x_seq ?_
    refine x_seq ?_
    by_cases h1 : i < (ss.length : Int)
    ·have hi : i.toNat < ik.Strokes.length := by omega
     have hdd : -4095 ≤ dx ∧ dx ≤ 4095 ∧ -4095 ≤ dy ∧ dy ≤ 4095 := by rcases hd with e | e; (rw [e] at hi; simp at hi); exact e
     refine x_reg [(4, .dec true)] [1, 2, 6, 7, 8, 16] [6, 7, 8031, 8032] [I dx, I dy, .ref 6 0, .ref 7 0, I i, Bv true] [some (.box [nilA]), some (.box [.arr 8031]), some (.oar [8032] 1 ss.length (oStroke 8032 ss)), some (.fam ss.length 3 (mStroke ss) (gStroke ss))] [i < (ss.length : Int)] (by kernel_rfl) ⟨h1, trivial⟩ ?_
     refine xe_then ?_
     refine x_true rfl ?_
     refine x_skip ?_
     refine xe_then ?_
     refine x_seq ?_
     refine x_block ?_
     refine x_seq ?_
     refine x_reg [] [1, 2, 6, 7, 8, 9] [6, 7, 8031, 8032] [I dx, I dy, .ref 6 0, .ref 7 0, I i, I 0] [some (.box [nilA]), some (.box [.arr 8031]), some (.oar [8032] 1 ss.length (oStroke 8032 ss)), some (.fam ss.length 3 (mStroke ss) (gStroke ss))] [] (by kernel_rfl) trivial ?_
     refine xe_then ?_
     refine x_block ?_
     refine x_loop (X := Int × (List Stroke)) (fun x => mkS [(1, I dx), (2, I dy), (6, .ref 6 0), (7, .ref 7 0), (8, I i), (9, I x.1)] [(6, .box [nilA]), (7, .box [.arr 8031]), (8031, .oar [8032] 1 x.2.length (oStroke 8032 x.2)), (8032, .fam x.2.length 3 (mStroke x.2) (gStroke x.2))]) (fun x => (0 ≤ x.1 ∧ x.1 ≤ ((at_ ik.Strokes i.toNat).Points.length : Int)) ∧ (x.2 = mvIn dx dy i.toNat x.1.toNat ik.Strokes) ∧ (x.2.length = ik.Strokes.length) ∧ ((at_ x.2 i.toNat).Points.length = (at_ ik.Strokes i.toNat).Points.length) ∧ True) (fun x => (((at_ ik.Strokes i.toNat).Points.length : Int) - x.1).toNat) (0, ss) rfl (show (0 ≤ (0 : Int) ∧ (0 : Int) ≤ ((at_ ik.Strokes i.toNat).Points.length : Int)) ∧ (ss = mvIn dx dy i.toNat (0 : Int).toNat ik.Strokes) ∧ (ss.length = ik.Strokes.length) ∧ ((at_ ss i.toNat).Points.length = (at_ ik.Strokes i.toNat).Points.length) ∧ True from ⟨(by omega), (by exact (show ss = mvIn dx dy i.toNat 0 ik.Strokes from hs0.trans (mvIn_zero hi).symm)), (by omega), (by exact mvIn_row (dx := dx) (dy := dy) (k := 0) (show ss = mvIn dx dy i.toNat 0 ik.Strokes from hs0.trans (mvIn_zero hi).symm) hi), trivial⟩) (fun x hI => ?_)
     obtain ⟨k, ss'⟩ := x
     obtain ⟨hk0, hs1, hl1, hr1, _⟩ : (0 ≤ k ∧ k ≤ ((at_ ik.Strokes i.toNat).Points.length : Int)) ∧ (ss' = mvIn dx dy i.toNat k.toNat ik.Strokes) ∧ (ss'.length = ik.Strokes.length) ∧ ((at_ ss' i.toNat).Points.length = (at_ ik.Strokes i.toNat).Points.length) ∧ True := hI
     show XW _ _ _ _ (mkS [(1, I dx), (2, I dy), (6, .ref 6 0), (7, .ref 7 0), (8, I i), (9, I k)] [(6, .box [nilA]), (7, .box [.arr 8031]), (8031, .oar [8032] 1 ss'.length (oStroke 8032 ss')), (8032, .fam ss'.length 3 (mStroke ss') (gStroke ss'))]) _ _
     refine x_seq ?_
     refine x_seq ?_
     by_cases h2 : k < ((((at_ ss' i.toNat).Points).length) : Int)
     ·have hk : k.toNat < (at_ ik.Strokes i.toNat).Points.length := by omega
      have hpt := mvIn_pt hs1 hi hk hx
      have hol := okS_len (hx _ (at_mem hi))
      have hlx : i.toNat < ss'.length := by omega
      have hlk : k.toNat < (at_ ss' i.toNat).Points.length := by omega
      refine x_reg [(8, .dec true)] [1, 2, 6, 7, 8, 9, 27] [6, 7, 8031, 8032] [I dx, I dy, .ref 6 0, .ref 7 0, I i, I k, Bv true] [some (.box [nilA]), some (.box [.arr 8031]), some (.oar [8032] 1 ss'.length (oStroke 8032 ss')), some (.fam ss'.length 3 (mStroke ss') (gStroke ss'))] [(0 : Int) ≤ i ∧ i < (ss'.length : Int), i.toNat < ss'.length, i.toNat < ss'.length, k < ((((at_ ss' i.toNat).Points).length) : Int)] (by kernel_rfl) ⟨⟨(by omega), (by omega)⟩, (by omega), (by omega), h2, trivial⟩ ?_
      refine xe_then ?_
      refine x_true rfl ?_
      refine x_skip ?_
      refine xe_then ?_
      refine x_seq ?_
      refine x_block ?_
      refine x_seq ?_
      refine x_reg [] [1, 2, 6, 7, 8, 9] [6, 7, 8031, 8032] [I dx, I dy, .ref 6 0, .ref 7 0, I i, I k] [some (.box [nilA]), some (.box [.arr 8031]), some (.oar [8032] 1 ss'.length (oStroke 8032 ss')), some (.fam ss'.length 3 (mStroke ss') (fun q => bif Nat.beq q i.toNat then (fun q => bif Nat.beq q k.toNat then [I (((at_ ((at_ ss' i.toNat).Points) k.toNat).X) + dx), I ((at_ ((at_ ss' i.toNat).Points) k.toNat).Y), I ((at_ ((at_ ss' i.toNat).Points) k.toNat).T)] else (gStroke ss') i.toNat q) else (gStroke ss') q))] [(0 : Int) ≤ i ∧ i < (ss'.length : Int), i.toNat < ss'.length, i.toNat < ss'.length ∧ (0 : Int) ≤ k ∧ k < ((((at_ ss' i.toNat).Points).length) : Int), i.toNat < ss'.length ∧ k.toNat < ((at_ ss' i.toNat).Points).length, inR .i64 (((at_ ((at_ ss' i.toNat).Points) k.toNat).X) + dx), i.toNat < ss'.length ∧ (0 : Int) ≤ k ∧ k < ((((at_ ss' i.toNat).Points).length) : Int), i.toNat < ss'.length ∧ k.toNat < ((at_ ss' i.toNat).Points).length] (by kernel_rfl) ⟨⟨(by omega), (by omega)⟩, (by omega), ⟨(by omega), (by omega), (by omega)⟩, ⟨(by omega), (by omega)⟩, (inR_i64 (by omega) (by omega)), ⟨(by omega), (by omega), (by omega)⟩, ⟨(by omega), (by omega)⟩, trivial⟩ ?_
      refine xe_then ?_
      refine x_weak [] (T := [(1, I dx), (2, I dy), (6, .ref 6 0), (7, .ref 7 0), (8, I i), (9, I k)]) (O := [(6, .box [nilA]), (7, .box [.arr 8031]), (8031, .oar [8032] 1 ((ss'.set i.toNat (Stroke.withPoints (at_ ss' i.toNat) (((at_ ss' i.toNat).Points).set k.toNat (Point.mk (((at_ ((at_ ss' i.toNat).Points) k.toNat).X) + dx) ((at_ ((at_ ss' i.toNat).Points) k.toNat).Y) ((at_ ((at_ ss' i.toNat).Points) k.toNat).T))))).length) (oStroke 8032 (ss'.set i.toNat (Stroke.withPoints (at_ ss' i.toNat) (((at_ ss' i.toNat).Points).set k.toNat (Point.mk (((at_ ((at_ ss' i.toNat).Points) k.toNat).X) + dx) ((at_ ((at_ ss' i.toNat).Points) k.toNat).Y) ((at_ ((at_ ss' i.toNat).Points) k.toNat).T))))))), (8032, .fam (ss'.set i.toNat (Stroke.withPoints (at_ ss' i.toNat) (((at_ ss' i.toNat).Points).set k.toNat (Point.mk (((at_ ((at_ ss' i.toNat).Points) k.toNat).X) + dx) ((at_ ((at_ ss' i.toNat).Points) k.toNat).Y) ((at_ ((at_ ss' i.toNat).Points) k.toNat).T))))).length 3 (mStroke (ss'.set i.toNat (Stroke.withPoints (at_ ss' i.toNat) (((at_ ss' i.toNat).Points).set k.toNat (Point.mk (((at_ ((at_ ss' i.toNat).Points) k.toNat).X) + dx) ((at_ ((at_ ss' i.toNat).Points) k.toNat).Y) ((at_ ((at_ ss' i.toNat).Points) k.toNat).T)))))) (gStroke (ss'.set i.toNat (Stroke.withPoints (at_ ss' i.toNat) (((at_ ss' i.toNat).Points).set k.toNat (Point.mk (((at_ ((at_ ss' i.toNat).Points) k.toNat).X) + dx) ((at_ ((at_ ss' i.toNat).Points) k.toNat).Y) ((at_ ((at_ ss' i.toNat).Points) k.toNat).T)))))))]) rfl (⟨.inl rfl, .inl rfl, .inl rfl, .inl rfl, .inl rfl, .inl rfl, trivial⟩) (⟨.inl rfl, .inl rfl, .inr ⟨rfl, rfl, (by first | rfl | (simp; done) | omega), fun i_ hi_ => .inl (osetStroke 8032 i.toNat ss' (((at_ ss' i.toNat).Points).set k.toNat (Point.mk (((at_ ((at_ ss' i.toNat).Points) k.toNat).X) + dx) ((at_ ((at_ ss' i.toNat).Points) k.toNat).Y) ((at_ ((at_ ss' i.toNat).Points) k.toNat).T))) i_)⟩, .inr (fsetStroke (P := i.toNat) (k := k.toNat) ((by omega)) ((by omega)) (by simp only [Nat.beq_refl, cond_true]; try rfl) (by intro i hi; simp only [Nat.beq_refl, cond_true, beq_ne hi, cond_false]; try rfl) (by intro p hp; simp only [beq_ne hp, cond_false])), trivial⟩) ?_
      refine x_reg [] [1, 2, 6, 7, 8, 9] [6, 7, 8031, 8032] [I dx, I dy, .ref 6 0, .ref 7 0, I i, I k] [some (.box [nilA]), some (.box [.arr 8031]), some (.oar [8032] 1 ((ss'.set i.toNat (Stroke.withPoints (at_ ss' i.toNat) (((at_ ss' i.toNat).Points).set k.toNat (Point.mk (((at_ ((at_ ss' i.toNat).Points) k.toNat).X) + dx) ((at_ ((at_ ss' i.toNat).Points) k.toNat).Y) ((at_ ((at_ ss' i.toNat).Points) k.toNat).T))))).length) (oStroke 8032 (ss'.set i.toNat (Stroke.withPoints (at_ ss' i.toNat) (((at_ ss' i.toNat).Points).set k.toNat (Point.mk (((at_ ((at_ ss' i.toNat).Points) k.toNat).X) + dx) ((at_ ((at_ ss' i.toNat).Points) k.toNat).Y) ((at_ ((at_ ss' i.toNat).Points) k.toNat).T))))))), some (.fam (ss'.set i.toNat (Stroke.withPoints (at_ ss' i.toNat) (((at_ ss' i.toNat).Points).set k.toNat (Point.mk (((at_ ((at_ ss' i.toNat).Points) k.toNat).X) + dx) ((at_ ((at_ ss' i.toNat).Points) k.toNat).Y) ((at_ ((at_ ss' i.toNat).Points) k.toNat).T))))).length 3 (mStroke (ss'.set i.toNat (Stroke.withPoints (at_ ss' i.toNat) (((at_ ss' i.toNat).Points).set k.toNat (Point.mk (((at_ ((at_ ss' i.toNat).Points) k.toNat).X) + dx) ((at_ ((at_ ss' i.toNat).Points) k.toNat).Y) ((at_ ((at_ ss' i.toNat).Points) k.toNat).T)))))) (fun q => bif Nat.beq q i.toNat then (fun q => bif Nat.beq q k.toNat then [I ((at_ ((at_ (ss'.set i.toNat (Stroke.withPoints (at_ ss' i.toNat) (((at_ ss' i.toNat).Points).set k.toNat (Point.mk (((at_ ((at_ ss' i.toNat).Points) k.toNat).X) + dx) ((at_ ((at_ ss' i.toNat).Points) k.toNat).Y) ((at_ ((at_ ss' i.toNat).Points) k.toNat).T))))) i.toNat).Points) k.toNat).X), I (((at_ ((at_ (ss'.set i.toNat (Stroke.withPoints (at_ ss' i.toNat) (((at_ ss' i.toNat).Points).set k.toNat (Point.mk (((at_ ((at_ ss' i.toNat).Points) k.toNat).X) + dx) ((at_ ((at_ ss' i.toNat).Points) k.toNat).Y) ((at_ ((at_ ss' i.toNat).Points) k.toNat).T))))) i.toNat).Points) k.toNat).Y) + dy), I ((at_ ((at_ (ss'.set i.toNat (Stroke.withPoints (at_ ss' i.toNat) (((at_ ss' i.toNat).Points).set k.toNat (Point.mk (((at_ ((at_ ss' i.toNat).Points) k.toNat).X) + dx) ((at_ ((at_ ss' i.toNat).Points) k.toNat).Y) ((at_ ((at_ ss' i.toNat).Points) k.toNat).T))))) i.toNat).Points) k.toNat).T)] else (gStroke (ss'.set i.toNat (Stroke.withPoints (at_ ss' i.toNat) (((at_ ss' i.toNat).Points).set k.toNat (Point.mk (((at_ ((at_ ss' i.toNat).Points) k.toNat).X) + dx) ((at_ ((at_ ss' i.toNat).Points) k.toNat).Y) ((at_ ((at_ ss' i.toNat).Points) k.toNat).T)))))) i.toNat q) else (gStroke (ss'.set i.toNat (Stroke.withPoints (at_ ss' i.toNat) (((at_ ss' i.toNat).Points).set k.toNat (Point.mk (((at_ ((at_ ss' i.toNat).Points) k.toNat).X) + dx) ((at_ ((at_ ss' i.toNat).Points) k.toNat).Y) ((at_ ((at_ ss' i.toNat).Points) k.toNat).T)))))) q))] [(0 : Int) ≤ i ∧ i < (((ss'.set i.toNat (Stroke.withPoints (at_ ss' i.toNat) (((at_ ss' i.toNat).Points).set k.toNat (Point.mk (((at_ ((at_ ss' i.toNat).Points) k.toNat).X) + dx) ((at_ ((at_ ss' i.toNat).Points) k.toNat).Y) ((at_ ((at_ ss' i.toNat).Points) k.toNat).T))))).length) : Int), i.toNat < (ss'.set i.toNat (Stroke.withPoints (at_ ss' i.toNat) (((at_ ss' i.toNat).Points).set k.toNat (Point.mk (((at_ ((at_ ss' i.toNat).Points) k.toNat).X) + dx) ((at_ ((at_ ss' i.toNat).Points) k.toNat).Y) ((at_ ((at_ ss' i.toNat).Points) k.toNat).T))))).length, i.toNat < (ss'.set i.toNat (Stroke.withPoints (at_ ss' i.toNat) (((at_ ss' i.toNat).Points).set k.toNat (Point.mk (((at_ ((at_ ss' i.toNat).Points) k.toNat).X) + dx) ((at_ ((at_ ss' i.toNat).Points) k.toNat).Y) ((at_ ((at_ ss' i.toNat).Points) k.toNat).T))))).length ∧ (0 : Int) ≤ k ∧ k < ((((at_ (ss'.set i.toNat (Stroke.withPoints (at_ ss' i.toNat) (((at_ ss' i.toNat).Points).set k.toNat (Point.mk (((at_ ((at_ ss' i.toNat).Points) k.toNat).X) + dx) ((at_ ((at_ ss' i.toNat).Points) k.toNat).Y) ((at_ ((at_ ss' i.toNat).Points) k.toNat).T))))) i.toNat).Points).length) : Int), i.toNat < (ss'.set i.toNat (Stroke.withPoints (at_ ss' i.toNat) (((at_ ss' i.toNat).Points).set k.toNat (Point.mk (((at_ ((at_ ss' i.toNat).Points) k.toNat).X) + dx) ((at_ ((at_ ss' i.toNat).Points) k.toNat).Y) ((at_ ((at_ ss' i.toNat).Points) k.toNat).T))))).length ∧ k.toNat < ((at_ (ss'.set i.toNat (Stroke.withPoints (at_ ss' i.toNat) (((at_ ss' i.toNat).Points).set k.toNat (Point.mk (((at_ ((at_ ss' i.toNat).Points) k.toNat).X) + dx) ((at_ ((at_ ss' i.toNat).Points) k.toNat).Y) ((at_ ((at_ ss' i.toNat).Points) k.toNat).T))))) i.toNat).Points).length, inR .i64 (((at_ ((at_ (ss'.set i.toNat (Stroke.withPoints (at_ ss' i.toNat) (((at_ ss' i.toNat).Points).set k.toNat (Point.mk (((at_ ((at_ ss' i.toNat).Points) k.toNat).X) + dx) ((at_ ((at_ ss' i.toNat).Points) k.toNat).Y) ((at_ ((at_ ss' i.toNat).Points) k.toNat).T))))) i.toNat).Points) k.toNat).Y) + dy), i.toNat < (ss'.set i.toNat (Stroke.withPoints (at_ ss' i.toNat) (((at_ ss' i.toNat).Points).set k.toNat (Point.mk (((at_ ((at_ ss' i.toNat).Points) k.toNat).X) + dx) ((at_ ((at_ ss' i.toNat).Points) k.toNat).Y) ((at_ ((at_ ss' i.toNat).Points) k.toNat).T))))).length ∧ (0 : Int) ≤ k ∧ k < ((((at_ (ss'.set i.toNat (Stroke.withPoints (at_ ss' i.toNat) (((at_ ss' i.toNat).Points).set k.toNat (Point.mk (((at_ ((at_ ss' i.toNat).Points) k.toNat).X) + dx) ((at_ ((at_ ss' i.toNat).Points) k.toNat).Y) ((at_ ((at_ ss' i.toNat).Points) k.toNat).T))))) i.toNat).Points).length) : Int), i.toNat < (ss'.set i.toNat (Stroke.withPoints (at_ ss' i.toNat) (((at_ ss' i.toNat).Points).set k.toNat (Point.mk (((at_ ((at_ ss' i.toNat).Points) k.toNat).X) + dx) ((at_ ((at_ ss' i.toNat).Points) k.toNat).Y) ((at_ ((at_ ss' i.toNat).Points) k.toNat).T))))).length ∧ k.toNat < ((at_ (ss'.set i.toNat (Stroke.withPoints (at_ ss' i.toNat) (((at_ ss' i.toNat).Points).set k.toNat (Point.mk (((at_ ((at_ ss' i.toNat).Points) k.toNat).X) + dx) ((at_ ((at_ ss' i.toNat).Points) k.toNat).Y) ((at_ ((at_ ss' i.toNat).Points) k.toNat).T))))) i.toNat).Points).length] (by kernel_rfl) ⟨⟨(by (try simp only [List.length_set, at_setS hlx, at_setS hlk, Stroke.withPoints, List.set_set]); omega), (by (try simp only [List.length_set, at_setS hlx, at_setS hlk, Stroke.withPoints, List.set_set]); omega)⟩, (by (try simp only [List.length_set, at_setS hlx, at_setS hlk, Stroke.withPoints, List.set_set]); omega), ⟨(by (try simp only [List.length_set, at_setS hlx, at_setS hlk, Stroke.withPoints, List.set_set]); omega), (by omega), (by (try simp only [List.length_set, at_setS hlx, at_setS hlk, Stroke.withPoints, List.set_set]); omega)⟩, ⟨(by (try simp only [List.length_set, at_setS hlx, at_setS hlk, Stroke.withPoints, List.set_set]); omega), (by (try simp only [List.length_set, at_setS hlx, at_setS hlk, Stroke.withPoints, List.set_set]); omega)⟩, (by (try simp only [List.length_set, at_setS hlx, at_setS hlk, Stroke.withPoints, List.set_set]); exact inR_i64 (by omega) (by omega)), ⟨(by (try simp only [List.length_set, at_setS hlx, at_setS hlk, Stroke.withPoints, List.set_set]); omega), (by omega), (by (try simp only [List.length_set, at_setS hlx, at_setS hlk, Stroke.withPoints, List.set_set]); omega)⟩, ⟨(by (try simp only [List.length_set, at_setS hlx, at_setS hlk, Stroke.withPoints, List.set_set]); omega), (by (try simp only [List.length_set, at_setS hlx, at_setS hlk, Stroke.withPoints, List.set_set]); omega)⟩, trivial⟩ ?_
      refine xe_block 3 ?_
      refine xe_then ?_
      refine x_weak [] (T := [(1, I dx), (2, I dy), (6, .ref 6 0), (7, .ref 7 0), (8, I i), (9, I k)]) (O := [(6, .box [nilA]), (7, .box [.arr 8031]), (8031, .oar [8032] 1 (((ss'.set i.toNat (Stroke.withPoints (at_ ss' i.toNat) (((at_ ss' i.toNat).Points).set k.toNat (Point.mk (((at_ ((at_ ss' i.toNat).Points) k.toNat).X) + dx) ((at_ ((at_ ss' i.toNat).Points) k.toNat).Y) ((at_ ((at_ ss' i.toNat).Points) k.toNat).T))))).set i.toNat (Stroke.withPoints (at_ (ss'.set i.toNat (Stroke.withPoints (at_ ss' i.toNat) (((at_ ss' i.toNat).Points).set k.toNat (Point.mk (((at_ ((at_ ss' i.toNat).Points) k.toNat).X) + dx) ((at_ ((at_ ss' i.toNat).Points) k.toNat).Y) ((at_ ((at_ ss' i.toNat).Points) k.toNat).T))))) i.toNat) (((at_ (ss'.set i.toNat (Stroke.withPoints (at_ ss' i.toNat) (((at_ ss' i.toNat).Points).set k.toNat (Point.mk (((at_ ((at_ ss' i.toNat).Points) k.toNat).X) + dx) ((at_ ((at_ ss' i.toNat).Points) k.toNat).Y) ((at_ ((at_ ss' i.toNat).Points) k.toNat).T))))) i.toNat).Points).set k.toNat (Point.mk ((at_ ((at_ (ss'.set i.toNat (Stroke.withPoints (at_ ss' i.toNat) (((at_ ss' i.toNat).Points).set k.toNat (Point.mk (((at_ ((at_ ss' i.toNat).Points) k.toNat).X) + dx) ((at_ ((at_ ss' i.toNat).Points) k.toNat).Y) ((at_ ((at_ ss' i.toNat).Points) k.toNat).T))))) i.toNat).Points) k.toNat).X) (((at_ ((at_ (ss'.set i.toNat (Stroke.withPoints (at_ ss' i.toNat) (((at_ ss' i.toNat).Points).set k.toNat (Point.mk (((at_ ((at_ ss' i.toNat).Points) k.toNat).X) + dx) ((at_ ((at_ ss' i.toNat).Points) k.toNat).Y) ((at_ ((at_ ss' i.toNat).Points) k.toNat).T))))) i.toNat).Points) k.toNat).Y) + dy) ((at_ ((at_ (ss'.set i.toNat (Stroke.withPoints (at_ ss' i.toNat) (((at_ ss' i.toNat).Points).set k.toNat (Point.mk (((at_ ((at_ ss' i.toNat).Points) k.toNat).X) + dx) ((at_ ((at_ ss' i.toNat).Points) k.toNat).Y) ((at_ ((at_ ss' i.toNat).Points) k.toNat).T))))) i.toNat).Points) k.toNat).T))))).length) (oStroke 8032 ((ss'.set i.toNat (Stroke.withPoints (at_ ss' i.toNat) (((at_ ss' i.toNat).Points).set k.toNat (Point.mk (((at_ ((at_ ss' i.toNat).Points) k.toNat).X) + dx) ((at_ ((at_ ss' i.toNat).Points) k.toNat).Y) ((at_ ((at_ ss' i.toNat).Points) k.toNat).T))))).set i.toNat (Stroke.withPoints (at_ (ss'.set i.toNat (Stroke.withPoints (at_ ss' i.toNat) (((at_ ss' i.toNat).Points).set k.toNat (Point.mk (((at_ ((at_ ss' i.toNat).Points) k.toNat).X) + dx) ((at_ ((at_ ss' i.toNat).Points) k.toNat).Y) ((at_ ((at_ ss' i.toNat).Points) k.toNat).T))))) i.toNat) (((at_ (ss'.set i.toNat (Stroke.withPoints (at_ ss' i.toNat) (((at_ ss' i.toNat).Points).set k.toNat (Point.mk (((at_ ((at_ ss' i.toNat).Points) k.toNat).X) + dx) ((at_ ((at_ ss' i.toNat).Points) k.toNat).Y) ((at_ ((at_ ss' i.toNat).Points) k.toNat).T))))) i.toNat).Points).set k.toNat (Point.mk ((at_ ((at_ (ss'.set i.toNat (Stroke.withPoints (at_ ss' i.toNat) (((at_ ss' i.toNat).Points).set k.toNat (Point.mk (((at_ ((at_ ss' i.toNat).Points) k.toNat).X) + dx) ((at_ ((at_ ss' i.toNat).Points) k.toNat).Y) ((at_ ((at_ ss' i.toNat).Points) k.toNat).T))))) i.toNat).Points) k.toNat).X) (((at_ ((at_ (ss'.set i.toNat (Stroke.withPoints (at_ ss' i.toNat) (((at_ ss' i.toNat).Points).set k.toNat (Point.mk (((at_ ((at_ ss' i.toNat).Points) k.toNat).X) + dx) ((at_ ((at_ ss' i.toNat).Points) k.toNat).Y) ((at_ ((at_ ss' i.toNat).Points) k.toNat).T))))) i.toNat).Points) k.toNat).Y) + dy) ((at_ ((at_ (ss'.set i.toNat (Stroke.withPoints (at_ ss' i.toNat) (((at_ ss' i.toNat).Points).set k.toNat (Point.mk (((at_ ((at_ ss' i.toNat).Points) k.toNat).X) + dx) ((at_ ((at_ ss' i.toNat).Points) k.toNat).Y) ((at_ ((at_ ss' i.toNat).Points) k.toNat).T))))) i.toNat).Points) k.toNat).T))))))), (8032, .fam ((ss'.set i.toNat (Stroke.withPoints (at_ ss' i.toNat) (((at_ ss' i.toNat).Points).set k.toNat (Point.mk (((at_ ((at_ ss' i.toNat).Points) k.toNat).X) + dx) ((at_ ((at_ ss' i.toNat).Points) k.toNat).Y) ((at_ ((at_ ss' i.toNat).Points) k.toNat).T))))).set i.toNat (Stroke.withPoints (at_ (ss'.set i.toNat (Stroke.withPoints (at_ ss' i.toNat) (((at_ ss' i.toNat).Points).set k.toNat (Point.mk (((at_ ((at_ ss' i.toNat).Points) k.toNat).X) + dx) ((at_ ((at_ ss' i.toNat).Points) k.toNat).Y) ((at_ ((at_ ss' i.toNat).Points) k.toNat).T))))) i.toNat) (((at_ (ss'.set i.toNat (Stroke.withPoints (at_ ss' i.toNat) (((at_ ss' i.toNat).Points).set k.toNat (Point.mk (((at_ ((at_ ss' i.toNat).Points) k.toNat).X) + dx) ((at_ ((at_ ss' i.toNat).Points) k.toNat).Y) ((at_ ((at_ ss' i.toNat).Points) k.toNat).T))))) i.toNat).Points).set k.toNat (Point.mk ((at_ ((at_ (ss'.set i.toNat (Stroke.withPoints (at_ ss' i.toNat) (((at_ ss' i.toNat).Points).set k.toNat (Point.mk (((at_ ((at_ ss' i.toNat).Points) k.toNat).X) + dx) ((at_ ((at_ ss' i.toNat).Points) k.toNat).Y) ((at_ ((at_ ss' i.toNat).Points) k.toNat).T))))) i.toNat).Points) k.toNat).X) (((at_ ((at_ (ss'.set i.toNat (Stroke.withPoints (at_ ss' i.toNat) (((at_ ss' i.toNat).Points).set k.toNat (Point.mk (((at_ ((at_ ss' i.toNat).Points) k.toNat).X) + dx) ((at_ ((at_ ss' i.toNat).Points) k.toNat).Y) ((at_ ((at_ ss' i.toNat).Points) k.toNat).T))))) i.toNat).Points) k.toNat).Y) + dy) ((at_ ((at_ (ss'.set i.toNat (Stroke.withPoints (at_ ss' i.toNat) (((at_ ss' i.toNat).Points).set k.toNat (Point.mk (((at_ ((at_ ss' i.toNat).Points) k.toNat).X) + dx) ((at_ ((at_ ss' i.toNat).Points) k.toNat).Y) ((at_ ((at_ ss' i.toNat).Points) k.toNat).T))))) i.toNat).Points) k.toNat).T))))).length 3 (mStroke ((ss'.set i.toNat (Stroke.withPoints (at_ ss' i.toNat) (((at_ ss' i.toNat).Points).set k.toNat (Point.mk (((at_ ((at_ ss' i.toNat).Points) k.toNat).X) + dx) ((at_ ((at_ ss' i.toNat).Points) k.toNat).Y) ((at_ ((at_ ss' i.toNat).Points) k.toNat).T))))).set i.toNat (Stroke.withPoints (at_ (ss'.set i.toNat (Stroke.withPoints (at_ ss' i.toNat) (((at_ ss' i.toNat).Points).set k.toNat (Point.mk (((at_ ((at_ ss' i.toNat).Points) k.toNat).X) + dx) ((at_ ((at_ ss' i.toNat).Points) k.toNat).Y) ((at_ ((at_ ss' i.toNat).Points) k.toNat).T))))) i.toNat) (((at_ (ss'.set i.toNat (Stroke.withPoints (at_ ss' i.toNat) (((at_ ss' i.toNat).Points).set k.toNat (Point.mk (((at_ ((at_ ss' i.toNat).Points) k.toNat).X) + dx) ((at_ ((at_ ss' i.toNat).Points) k.toNat).Y) ((at_ ((at_ ss' i.toNat).Points) k.toNat).T))))) i.toNat).Points).set k.toNat (Point.mk ((at_ ((at_ (ss'.set i.toNat (Stroke.withPoints (at_ ss' i.toNat) (((at_ ss' i.toNat).Points).set k.toNat (Point.mk (((at_ ((at_ ss' i.toNat).Points) k.toNat).X) + dx) ((at_ ((at_ ss' i.toNat).Points) k.toNat).Y) ((at_ ((at_ ss' i.toNat).Points) k.toNat).T))))) i.toNat).Points) k.toNat).X) (((at_ ((at_ (ss'.set i.toNat (Stroke.withPoints (at_ ss' i.toNat) (((at_ ss' i.toNat).Points).set k.toNat (Point.mk (((at_ ((at_ ss' i.toNat).Points) k.toNat).X) + dx) ((at_ ((at_ ss' i.toNat).Points) k.toNat).Y) ((at_ ((at_ ss' i.toNat).Points) k.toNat).T))))) i.toNat).Points) k.toNat).Y) + dy) ((at_ ((at_ (ss'.set i.toNat (Stroke.withPoints (at_ ss' i.toNat) (((at_ ss' i.toNat).Points).set k.toNat (Point.mk (((at_ ((at_ ss' i.toNat).Points) k.toNat).X) + dx) ((at_ ((at_ ss' i.toNat).Points) k.toNat).Y) ((at_ ((at_ ss' i.toNat).Points) k.toNat).T))))) i.toNat).Points) k.toNat).T)))))) (gStroke ((ss'.set i.toNat (Stroke.withPoints (at_ ss' i.toNat) (((at_ ss' i.toNat).Points).set k.toNat (Point.mk (((at_ ((at_ ss' i.toNat).Points) k.toNat).X) + dx) ((at_ ((at_ ss' i.toNat).Points) k.toNat).Y) ((at_ ((at_ ss' i.toNat).Points) k.toNat).T))))).set i.toNat (Stroke.withPoints (at_ (ss'.set i.toNat (Stroke.withPoints (at_ ss' i.toNat) (((at_ ss' i.toNat).Points).set k.toNat (Point.mk (((at_ ((at_ ss' i.toNat).Points) k.toNat).X) + dx) ((at_ ((at_ ss' i.toNat).Points) k.toNat).Y) ((at_ ((at_ ss' i.toNat).Points) k.toNat).T))))) i.toNat) (((at_ (ss'.set i.toNat (Stroke.withPoints (at_ ss' i.toNat) (((at_ ss' i.toNat).Points).set k.toNat (Point.mk (((at_ ((at_ ss' i.toNat).Points) k.toNat).X) + dx) ((at_ ((at_ ss' i.toNat).Points) k.toNat).Y) ((at_ ((at_ ss' i.toNat).Points) k.toNat).T))))) i.toNat).Points).set k.toNat (Point.mk ((at_ ((at_ (ss'.set i.toNat (Stroke.withPoints (at_ ss' i.toNat) (((at_ ss' i.toNat).Points).set k.toNat (Point.mk (((at_ ((at_ ss' i.toNat).Points) k.toNat).X) + dx) ((at_ ((at_ ss' i.toNat).Points) k.toNat).Y) ((at_ ((at_ ss' i.toNat).Points) k.toNat).T))))) i.toNat).Points) k.toNat).X) (((at_ ((at_ (ss'.set i.toNat (Stroke.withPoints (at_ ss' i.toNat) (((at_ ss' i.toNat).Points).set k.toNat (Point.mk (((at_ ((at_ ss' i.toNat).Points) k.toNat).X) + dx) ((at_ ((at_ ss' i.toNat).Points) k.toNat).Y) ((at_ ((at_ ss' i.toNat).Points) k.toNat).T))))) i.toNat).Points) k.toNat).Y) + dy) ((at_ ((at_ (ss'.set i.toNat (Stroke.withPoints (at_ ss' i.toNat) (((at_ ss' i.toNat).Points).set k.toNat (Point.mk (((at_ ((at_ ss' i.toNat).Points) k.toNat).X) + dx) ((at_ ((at_ ss' i.toNat).Points) k.toNat).Y) ((at_ ((at_ ss' i.toNat).Points) k.toNat).T))))) i.toNat).Points) k.toNat).T)))))))]) rfl (⟨.inl rfl, .inl rfl, .inl rfl, .inl rfl, .inl rfl, .inl rfl, trivial⟩) (⟨.inl rfl, .inl rfl, .inr ⟨rfl, rfl, (by first | rfl | (simp; done) | omega), fun i_ hi_ => .inl (osetStroke 8032 i.toNat (ss'.set i.toNat (Stroke.withPoints (at_ ss' i.toNat) (((at_ ss' i.toNat).Points).set k.toNat (Point.mk (((at_ ((at_ ss' i.toNat).Points) k.toNat).X) + dx) ((at_ ((at_ ss' i.toNat).Points) k.toNat).Y) ((at_ ((at_ ss' i.toNat).Points) k.toNat).T))))) (((at_ (ss'.set i.toNat (Stroke.withPoints (at_ ss' i.toNat) (((at_ ss' i.toNat).Points).set k.toNat (Point.mk (((at_ ((at_ ss' i.toNat).Points) k.toNat).X) + dx) ((at_ ((at_ ss' i.toNat).Points) k.toNat).Y) ((at_ ((at_ ss' i.toNat).Points) k.toNat).T))))) i.toNat).Points).set k.toNat (Point.mk ((at_ ((at_ (ss'.set i.toNat (Stroke.withPoints (at_ ss' i.toNat) (((at_ ss' i.toNat).Points).set k.toNat (Point.mk (((at_ ((at_ ss' i.toNat).Points) k.toNat).X) + dx) ((at_ ((at_ ss' i.toNat).Points) k.toNat).Y) ((at_ ((at_ ss' i.toNat).Points) k.toNat).T))))) i.toNat).Points) k.toNat).X) (((at_ ((at_ (ss'.set i.toNat (Stroke.withPoints (at_ ss' i.toNat) (((at_ ss' i.toNat).Points).set k.toNat (Point.mk (((at_ ((at_ ss' i.toNat).Points) k.toNat).X) + dx) ((at_ ((at_ ss' i.toNat).Points) k.toNat).Y) ((at_ ((at_ ss' i.toNat).Points) k.toNat).T))))) i.toNat).Points) k.toNat).Y) + dy) ((at_ ((at_ (ss'.set i.toNat (Stroke.withPoints (at_ ss' i.toNat) (((at_ ss' i.toNat).Points).set k.toNat (Point.mk (((at_ ((at_ ss' i.toNat).Points) k.toNat).X) + dx) ((at_ ((at_ ss' i.toNat).Points) k.toNat).Y) ((at_ ((at_ ss' i.toNat).Points) k.toNat).T))))) i.toNat).Points) k.toNat).T))) i_)⟩, .inr (fsetStroke (P := i.toNat) (k := k.toNat) ((by (try simp only [List.length_set, at_setS hlx, at_setS hlk, Stroke.withPoints, List.set_set]); omega)) ((by (try simp only [List.length_set, at_setS hlx, at_setS hlk, Stroke.withPoints, List.set_set]); omega)) (by simp only [Nat.beq_refl, cond_true]; try rfl) (by intro i hi; simp only [Nat.beq_refl, cond_true, beq_ne hi, cond_false]; try rfl) (by intro p hp; simp only [beq_ne hp, cond_false])), trivial⟩) ?_
      refine x_reg [] [1, 2, 6, 7, 8, 9] [6, 7, 8031, 8032] [I dx, I dy, .ref 6 0, .ref 7 0, I i, I (k + 1)] [some (.box [nilA]), some (.box [.arr 8031]), some (.oar [8032] 1 (((ss'.set i.toNat (Stroke.withPoints (at_ ss' i.toNat) (((at_ ss' i.toNat).Points).set k.toNat (Point.mk (((at_ ((at_ ss' i.toNat).Points) k.toNat).X) + dx) ((at_ ((at_ ss' i.toNat).Points) k.toNat).Y) ((at_ ((at_ ss' i.toNat).Points) k.toNat).T))))).set i.toNat (Stroke.withPoints (at_ (ss'.set i.toNat (Stroke.withPoints (at_ ss' i.toNat) (((at_ ss' i.toNat).Points).set k.toNat (Point.mk (((at_ ((at_ ss' i.toNat).Points) k.toNat).X) + dx) ((at_ ((at_ ss' i.toNat).Points) k.toNat).Y) ((at_ ((at_ ss' i.toNat).Points) k.toNat).T))))) i.toNat) (((at_ (ss'.set i.toNat (Stroke.withPoints (at_ ss' i.toNat) (((at_ ss' i.toNat).Points).set k.toNat (Point.mk (((at_ ((at_ ss' i.toNat).Points) k.toNat).X) + dx) ((at_ ((at_ ss' i.toNat).Points) k.toNat).Y) ((at_ ((at_ ss' i.toNat).Points) k.toNat).T))))) i.toNat).Points).set k.toNat (Point.mk ((at_ ((at_ (ss'.set i.toNat (Stroke.withPoints (at_ ss' i.toNat) (((at_ ss' i.toNat).Points).set k.toNat (Point.mk (((at_ ((at_ ss' i.toNat).Points) k.toNat).X) + dx) ((at_ ((at_ ss' i.toNat).Points) k.toNat).Y) ((at_ ((at_ ss' i.toNat).Points) k.toNat).T))))) i.toNat).Points) k.toNat).X) (((at_ ((at_ (ss'.set i.toNat (Stroke.withPoints (at_ ss' i.toNat) (((at_ ss' i.toNat).Points).set k.toNat (Point.mk (((at_ ((at_ ss' i.toNat).Points) k.toNat).X) + dx) ((at_ ((at_ ss' i.toNat).Points) k.toNat).Y) ((at_ ((at_ ss' i.toNat).Points) k.toNat).T))))) i.toNat).Points) k.toNat).Y) + dy) ((at_ ((at_ (ss'.set i.toNat (Stroke.withPoints (at_ ss' i.toNat) (((at_ ss' i.toNat).Points).set k.toNat (Point.mk (((at_ ((at_ ss' i.toNat).Points) k.toNat).X) + dx) ((at_ ((at_ ss' i.toNat).Points) k.toNat).Y) ((at_ ((at_ ss' i.toNat).Points) k.toNat).T))))) i.toNat).Points) k.toNat).T))))).length) (oStroke 8032 ((ss'.set i.toNat (Stroke.withPoints (at_ ss' i.toNat) (((at_ ss' i.toNat).Points).set k.toNat (Point.mk (((at_ ((at_ ss' i.toNat).Points) k.toNat).X) + dx) ((at_ ((at_ ss' i.toNat).Points) k.toNat).Y) ((at_ ((at_ ss' i.toNat).Points) k.toNat).T))))).set i.toNat (Stroke.withPoints (at_ (ss'.set i.toNat (Stroke.withPoints (at_ ss' i.toNat) (((at_ ss' i.toNat).Points).set k.toNat (Point.mk (((at_ ((at_ ss' i.toNat).Points) k.toNat).X) + dx) ((at_ ((at_ ss' i.toNat).Points) k.toNat).Y) ((at_ ((at_ ss' i.toNat).Points) k.toNat).T))))) i.toNat) (((at_ (ss'.set i.toNat (Stroke.withPoints (at_ ss' i.toNat) (((at_ ss' i.toNat).Points).set k.toNat (Point.mk (((at_ ((at_ ss' i.toNat).Points) k.toNat).X) + dx) ((at_ ((at_ ss' i.toNat).Points) k.toNat).Y) ((at_ ((at_ ss' i.toNat).Points) k.toNat).T))))) i.toNat).Points).set k.toNat (Point.mk ((at_ ((at_ (ss'.set i.toNat (Stroke.withPoints (at_ ss' i.toNat) (((at_ ss' i.toNat).Points).set k.toNat (Point.mk (((at_ ((at_ ss' i.toNat).Points) k.toNat).X) + dx) ((at_ ((at_ ss' i.toNat).Points) k.toNat).Y) ((at_ ((at_ ss' i.toNat).Points) k.toNat).T))))) i.toNat).Points) k.toNat).X) (((at_ ((at_ (ss'.set i.toNat (Stroke.withPoints (at_ ss' i.toNat) (((at_ ss' i.toNat).Points).set k.toNat (Point.mk (((at_ ((at_ ss' i.toNat).Points) k.toNat).X) + dx) ((at_ ((at_ ss' i.toNat).Points) k.toNat).Y) ((at_ ((at_ ss' i.toNat).Points) k.toNat).T))))) i.toNat).Points) k.toNat).Y) + dy) ((at_ ((at_ (ss'.set i.toNat (Stroke.withPoints (at_ ss' i.toNat) (((at_ ss' i.toNat).Points).set k.toNat (Point.mk (((at_ ((at_ ss' i.toNat).Points) k.toNat).X) + dx) ((at_ ((at_ ss' i.toNat).Points) k.toNat).Y) ((at_ ((at_ ss' i.toNat).Points) k.toNat).T))))) i.toNat).Points) k.toNat).T))))))), some (.fam ((ss'.set i.toNat (Stroke.withPoints (at_ ss' i.toNat) (((at_ ss' i.toNat).Points).set k.toNat (Point.mk (((at_ ((at_ ss' i.toNat).Points) k.toNat).X) + dx) ((at_ ((at_ ss' i.toNat).Points) k.toNat).Y) ((at_ ((at_ ss' i.toNat).Points) k.toNat).T))))).set i.toNat (Stroke.withPoints (at_ (ss'.set i.toNat (Stroke.withPoints (at_ ss' i.toNat) (((at_ ss' i.toNat).Points).set k.toNat (Point.mk (((at_ ((at_ ss' i.toNat).Points) k.toNat).X) + dx) ((at_ ((at_ ss' i.toNat).Points) k.toNat).Y) ((at_ ((at_ ss' i.toNat).Points) k.toNat).T))))) i.toNat) (((at_ (ss'.set i.toNat (Stroke.withPoints (at_ ss' i.toNat) (((at_ ss' i.toNat).Points).set k.toNat (Point.mk (((at_ ((at_ ss' i.toNat).Points) k.toNat).X) + dx) ((at_ ((at_ ss' i.toNat).Points) k.toNat).Y) ((at_ ((at_ ss' i.toNat).Points) k.toNat).T))))) i.toNat).Points).set k.toNat (Point.mk ((at_ ((at_ (ss'.set i.toNat (Stroke.withPoints (at_ ss' i.toNat) (((at_ ss' i.toNat).Points).set k.toNat (Point.mk (((at_ ((at_ ss' i.toNat).Points) k.toNat).X) + dx) ((at_ ((at_ ss' i.toNat).Points) k.toNat).Y) ((at_ ((at_ ss' i.toNat).Points) k.toNat).T))))) i.toNat).Points) k.toNat).X) (((at_ ((at_ (ss'.set i.toNat (Stroke.withPoints (at_ ss' i.toNat) (((at_ ss' i.toNat).Points).set k.toNat (Point.mk (((at_ ((at_ ss' i.toNat).Points) k.toNat).X) + dx) ((at_ ((at_ ss' i.toNat).Points) k.toNat).Y) ((at_ ((at_ ss' i.toNat).Points) k.toNat).T))))) i.toNat).Points) k.toNat).Y) + dy) ((at_ ((at_ (ss'.set i.toNat (Stroke.withPoints (at_ ss' i.toNat) (((at_ ss' i.toNat).Points).set k.toNat (Point.mk (((at_ ((at_ ss' i.toNat).Points) k.toNat).X) + dx) ((at_ ((at_ ss' i.toNat).Points) k.toNat).Y) ((at_ ((at_ ss' i.toNat).Points) k.toNat).T))))) i.toNat).Points) k.toNat).T))))).length 3 (mStroke ((ss'.set i.toNat (Stroke.withPoints (at_ ss' i.toNat) (((at_ ss' i.toNat).Points).set k.toNat (Point.mk (((at_ ((at_ ss' i.toNat).Points) k.toNat).X) + dx) ((at_ ((at_ ss' i.toNat).Points) k.toNat).Y) ((at_ ((at_ ss' i.toNat).Points) k.toNat).T))))).set i.toNat (Stroke.withPoints (at_ (ss'.set i.toNat (Stroke.withPoints (at_ ss' i.toNat) (((at_ ss' i.toNat).Points).set k.toNat (Point.mk (((at_ ((at_ ss' i.toNat).Points) k.toNat).X) + dx) ((at_ ((at_ ss' i.toNat).Points) k.toNat).Y) ((at_ ((at_ ss' i.toNat).Points) k.toNat).T))))) i.toNat) (((at_ (ss'.set i.toNat (Stroke.withPoints (at_ ss' i.toNat) (((at_ ss' i.toNat).Points).set k.toNat (Point.mk (((at_ ((at_ ss' i.toNat).Points) k.toNat).X) + dx) ((at_ ((at_ ss' i.toNat).Points) k.toNat).Y) ((at_ ((at_ ss' i.toNat).Points) k.toNat).T))))) i.toNat).Points).set k.toNat (Point.mk ((at_ ((at_ (ss'.set i.toNat (Stroke.withPoints (at_ ss' i.toNat) (((at_ ss' i.toNat).Points).set k.toNat (Point.mk (((at_ ((at_ ss' i.toNat).Points) k.toNat).X) + dx) ((at_ ((at_ ss' i.toNat).Points) k.toNat).Y) ((at_ ((at_ ss' i.toNat).Points) k.toNat).T))))) i.toNat).Points) k.toNat).X) (((at_ ((at_ (ss'.set i.toNat (Stroke.withPoints (at_ ss' i.toNat) (((at_ ss' i.toNat).Points).set k.toNat (Point.mk (((at_ ((at_ ss' i.toNat).Points) k.toNat).X) + dx) ((at_ ((at_ ss' i.toNat).Points) k.toNat).Y) ((at_ ((at_ ss' i.toNat).Points) k.toNat).T))))) i.toNat).Points) k.toNat).Y) + dy) ((at_ ((at_ (ss'.set i.toNat (Stroke.withPoints (at_ ss' i.toNat) (((at_ ss' i.toNat).Points).set k.toNat (Point.mk (((at_ ((at_ ss' i.toNat).Points) k.toNat).X) + dx) ((at_ ((at_ ss' i.toNat).Points) k.toNat).Y) ((at_ ((at_ ss' i.toNat).Points) k.toNat).T))))) i.toNat).Points) k.toNat).T)))))) (gStroke ((ss'.set i.toNat (Stroke.withPoints (at_ ss' i.toNat) (((at_ ss' i.toNat).Points).set k.toNat (Point.mk (((at_ ((at_ ss' i.toNat).Points) k.toNat).X) + dx) ((at_ ((at_ ss' i.toNat).Points) k.toNat).Y) ((at_ ((at_ ss' i.toNat).Points) k.toNat).T))))).set i.toNat (Stroke.withPoints (at_ (ss'.set i.toNat (Stroke.withPoints (at_ ss' i.toNat) (((at_ ss' i.toNat).Points).set k.toNat (Point.mk (((at_ ((at_ ss' i.toNat).Points) k.toNat).X) + dx) ((at_ ((at_ ss' i.toNat).Points) k.toNat).Y) ((at_ ((at_ ss' i.toNat).Points) k.toNat).T))))) i.toNat) (((at_ (ss'.set i.toNat (Stroke.withPoints (at_ ss' i.toNat) (((at_ ss' i.toNat).Points).set k.toNat (Point.mk (((at_ ((at_ ss' i.toNat).Points) k.toNat).X) + dx) ((at_ ((at_ ss' i.toNat).Points) k.toNat).Y) ((at_ ((at_ ss' i.toNat).Points) k.toNat).T))))) i.toNat).Points).set k.toNat (Point.mk ((at_ ((at_ (ss'.set i.toNat (Stroke.withPoints (at_ ss' i.toNat) (((at_ ss' i.toNat).Points).set k.toNat (Point.mk (((at_ ((at_ ss' i.toNat).Points) k.toNat).X) + dx) ((at_ ((at_ ss' i.toNat).Points) k.toNat).Y) ((at_ ((at_ ss' i.toNat).Points) k.toNat).T))))) i.toNat).Points) k.toNat).X) (((at_ ((at_ (ss'.set i.toNat (Stroke.withPoints (at_ ss' i.toNat) (((at_ ss' i.toNat).Points).set k.toNat (Point.mk (((at_ ((at_ ss' i.toNat).Points) k.toNat).X) + dx) ((at_ ((at_ ss' i.toNat).Points) k.toNat).Y) ((at_ ((at_ ss' i.toNat).Points) k.toNat).T))))) i.toNat).Points) k.toNat).Y) + dy) ((at_ ((at_ (ss'.set i.toNat (Stroke.withPoints (at_ ss' i.toNat) (((at_ ss' i.toNat).Points).set k.toNat (Point.mk (((at_ ((at_ ss' i.toNat).Points) k.toNat).X) + dx) ((at_ ((at_ ss' i.toNat).Points) k.toNat).Y) ((at_ ((at_ ss' i.toNat).Points) k.toNat).T))))) i.toNat).Points) k.toNat).T)))))))] [inR .i64 (k + 1)] (by kernel_rfl) ⟨(inR_i64 (by omega) (by omega)), trivial⟩ ?_
      exact xe_again ((k + 1), ((ss'.set i.toNat (Stroke.withPoints (at_ ss' i.toNat) (((at_ ss' i.toNat).Points).set k.toNat (Point.mk (((at_ ((at_ ss' i.toNat).Points) k.toNat).X) + dx) ((at_ ((at_ ss' i.toNat).Points) k.toNat).Y) ((at_ ((at_ ss' i.toNat).Points) k.toNat).T))))).set i.toNat (Stroke.withPoints (at_ (ss'.set i.toNat (Stroke.withPoints (at_ ss' i.toNat) (((at_ ss' i.toNat).Points).set k.toNat (Point.mk (((at_ ((at_ ss' i.toNat).Points) k.toNat).X) + dx) ((at_ ((at_ ss' i.toNat).Points) k.toNat).Y) ((at_ ((at_ ss' i.toNat).Points) k.toNat).T))))) i.toNat) (((at_ (ss'.set i.toNat (Stroke.withPoints (at_ ss' i.toNat) (((at_ ss' i.toNat).Points).set k.toNat (Point.mk (((at_ ((at_ ss' i.toNat).Points) k.toNat).X) + dx) ((at_ ((at_ ss' i.toNat).Points) k.toNat).Y) ((at_ ((at_ ss' i.toNat).Points) k.toNat).T))))) i.toNat).Points).set k.toNat (Point.mk ((at_ ((at_ (ss'.set i.toNat (Stroke.withPoints (at_ ss' i.toNat) (((at_ ss' i.toNat).Points).set k.toNat (Point.mk (((at_ ((at_ ss' i.toNat).Points) k.toNat).X) + dx) ((at_ ((at_ ss' i.toNat).Points) k.toNat).Y) ((at_ ((at_ ss' i.toNat).Points) k.toNat).T))))) i.toNat).Points) k.toNat).X) (((at_ ((at_ (ss'.set i.toNat (Stroke.withPoints (at_ ss' i.toNat) (((at_ ss' i.toNat).Points).set k.toNat (Point.mk (((at_ ((at_ ss' i.toNat).Points) k.toNat).X) + dx) ((at_ ((at_ ss' i.toNat).Points) k.toNat).Y) ((at_ ((at_ ss' i.toNat).Points) k.toNat).T))))) i.toNat).Points) k.toNat).Y) + dy) ((at_ ((at_ (ss'.set i.toNat (Stroke.withPoints (at_ ss' i.toNat) (((at_ ss' i.toNat).Points).set k.toNat (Point.mk (((at_ ((at_ ss' i.toNat).Points) k.toNat).X) + dx) ((at_ ((at_ ss' i.toNat).Points) k.toNat).Y) ((at_ ((at_ ss' i.toNat).Points) k.toNat).T))))) i.toNat).Points) k.toNat).T)))))) rfl (show (0 ≤ (k + 1) ∧ (k + 1) ≤ ((at_ ik.Strokes i.toNat).Points.length : Int)) ∧ (((ss'.set i.toNat (Stroke.withPoints (at_ ss' i.toNat) (((at_ ss' i.toNat).Points).set k.toNat (Point.mk (((at_ ((at_ ss' i.toNat).Points) k.toNat).X) + dx) ((at_ ((at_ ss' i.toNat).Points) k.toNat).Y) ((at_ ((at_ ss' i.toNat).Points) k.toNat).T))))).set i.toNat (Stroke.withPoints (at_ (ss'.set i.toNat (Stroke.withPoints (at_ ss' i.toNat) (((at_ ss' i.toNat).Points).set k.toNat (Point.mk (((at_ ((at_ ss' i.toNat).Points) k.toNat).X) + dx) ((at_ ((at_ ss' i.toNat).Points) k.toNat).Y) ((at_ ((at_ ss' i.toNat).Points) k.toNat).T))))) i.toNat) (((at_ (ss'.set i.toNat (Stroke.withPoints (at_ ss' i.toNat) (((at_ ss' i.toNat).Points).set k.toNat (Point.mk (((at_ ((at_ ss' i.toNat).Points) k.toNat).X) + dx) ((at_ ((at_ ss' i.toNat).Points) k.toNat).Y) ((at_ ((at_ ss' i.toNat).Points) k.toNat).T))))) i.toNat).Points).set k.toNat (Point.mk ((at_ ((at_ (ss'.set i.toNat (Stroke.withPoints (at_ ss' i.toNat) (((at_ ss' i.toNat).Points).set k.toNat (Point.mk (((at_ ((at_ ss' i.toNat).Points) k.toNat).X) + dx) ((at_ ((at_ ss' i.toNat).Points) k.toNat).Y) ((at_ ((at_ ss' i.toNat).Points) k.toNat).T))))) i.toNat).Points) k.toNat).X) (((at_ ((at_ (ss'.set i.toNat (Stroke.withPoints (at_ ss' i.toNat) (((at_ ss' i.toNat).Points).set k.toNat (Point.mk (((at_ ((at_ ss' i.toNat).Points) k.toNat).X) + dx) ((at_ ((at_ ss' i.toNat).Points) k.toNat).Y) ((at_ ((at_ ss' i.toNat).Points) k.toNat).T))))) i.toNat).Points) k.toNat).Y) + dy) ((at_ ((at_ (ss'.set i.toNat (Stroke.withPoints (at_ ss' i.toNat) (((at_ ss' i.toNat).Points).set k.toNat (Point.mk (((at_ ((at_ ss' i.toNat).Points) k.toNat).X) + dx) ((at_ ((at_ ss' i.toNat).Points) k.toNat).Y) ((at_ ((at_ ss' i.toNat).Points) k.toNat).T))))) i.toNat).Points) k.toNat).T))))) = mvIn dx dy i.toNat (k + 1).toNat ik.Strokes) ∧ (((ss'.set i.toNat (Stroke.withPoints (at_ ss' i.toNat) (((at_ ss' i.toNat).Points).set k.toNat (Point.mk (((at_ ((at_ ss' i.toNat).Points) k.toNat).X) + dx) ((at_ ((at_ ss' i.toNat).Points) k.toNat).Y) ((at_ ((at_ ss' i.toNat).Points) k.toNat).T))))).set i.toNat (Stroke.withPoints (at_ (ss'.set i.toNat (Stroke.withPoints (at_ ss' i.toNat) (((at_ ss' i.toNat).Points).set k.toNat (Point.mk (((at_ ((at_ ss' i.toNat).Points) k.toNat).X) + dx) ((at_ ((at_ ss' i.toNat).Points) k.toNat).Y) ((at_ ((at_ ss' i.toNat).Points) k.toNat).T))))) i.toNat) (((at_ (ss'.set i.toNat (Stroke.withPoints (at_ ss' i.toNat) (((at_ ss' i.toNat).Points).set k.toNat (Point.mk (((at_ ((at_ ss' i.toNat).Points) k.toNat).X) + dx) ((at_ ((at_ ss' i.toNat).Points) k.toNat).Y) ((at_ ((at_ ss' i.toNat).Points) k.toNat).T))))) i.toNat).Points).set k.toNat (Point.mk ((at_ ((at_ (ss'.set i.toNat (Stroke.withPoints (at_ ss' i.toNat) (((at_ ss' i.toNat).Points).set k.toNat (Point.mk (((at_ ((at_ ss' i.toNat).Points) k.toNat).X) + dx) ((at_ ((at_ ss' i.toNat).Points) k.toNat).Y) ((at_ ((at_ ss' i.toNat).Points) k.toNat).T))))) i.toNat).Points) k.toNat).X) (((at_ ((at_ (ss'.set i.toNat (Stroke.withPoints (at_ ss' i.toNat) (((at_ ss' i.toNat).Points).set k.toNat (Point.mk (((at_ ((at_ ss' i.toNat).Points) k.toNat).X) + dx) ((at_ ((at_ ss' i.toNat).Points) k.toNat).Y) ((at_ ((at_ ss' i.toNat).Points) k.toNat).T))))) i.toNat).Points) k.toNat).Y) + dy) ((at_ ((at_ (ss'.set i.toNat (Stroke.withPoints (at_ ss' i.toNat) (((at_ ss' i.toNat).Points).set k.toNat (Point.mk (((at_ ((at_ ss' i.toNat).Points) k.toNat).X) + dx) ((at_ ((at_ ss' i.toNat).Points) k.toNat).Y) ((at_ ((at_ ss' i.toNat).Points) k.toNat).T))))) i.toNat).Points) k.toNat).T))))).length = ik.Strokes.length) ∧ ((at_ ((ss'.set i.toNat (Stroke.withPoints (at_ ss' i.toNat) (((at_ ss' i.toNat).Points).set k.toNat (Point.mk (((at_ ((at_ ss' i.toNat).Points) k.toNat).X) + dx) ((at_ ((at_ ss' i.toNat).Points) k.toNat).Y) ((at_ ((at_ ss' i.toNat).Points) k.toNat).T))))).set i.toNat (Stroke.withPoints (at_ (ss'.set i.toNat (Stroke.withPoints (at_ ss' i.toNat) (((at_ ss' i.toNat).Points).set k.toNat (Point.mk (((at_ ((at_ ss' i.toNat).Points) k.toNat).X) + dx) ((at_ ((at_ ss' i.toNat).Points) k.toNat).Y) ((at_ ((at_ ss' i.toNat).Points) k.toNat).T))))) i.toNat) (((at_ (ss'.set i.toNat (Stroke.withPoints (at_ ss' i.toNat) (((at_ ss' i.toNat).Points).set k.toNat (Point.mk (((at_ ((at_ ss' i.toNat).Points) k.toNat).X) + dx) ((at_ ((at_ ss' i.toNat).Points) k.toNat).Y) ((at_ ((at_ ss' i.toNat).Points) k.toNat).T))))) i.toNat).Points).set k.toNat (Point.mk ((at_ ((at_ (ss'.set i.toNat (Stroke.withPoints (at_ ss' i.toNat) (((at_ ss' i.toNat).Points).set k.toNat (Point.mk (((at_ ((at_ ss' i.toNat).Points) k.toNat).X) + dx) ((at_ ((at_ ss' i.toNat).Points) k.toNat).Y) ((at_ ((at_ ss' i.toNat).Points) k.toNat).T))))) i.toNat).Points) k.toNat).X) (((at_ ((at_ (ss'.set i.toNat (Stroke.withPoints (at_ ss' i.toNat) (((at_ ss' i.toNat).Points).set k.toNat (Point.mk (((at_ ((at_ ss' i.toNat).Points) k.toNat).X) + dx) ((at_ ((at_ ss' i.toNat).Points) k.toNat).Y) ((at_ ((at_ ss' i.toNat).Points) k.toNat).T))))) i.toNat).Points) k.toNat).Y) + dy) ((at_ ((at_ (ss'.set i.toNat (Stroke.withPoints (at_ ss' i.toNat) (((at_ ss' i.toNat).Points).set k.toNat (Point.mk (((at_ ((at_ ss' i.toNat).Points) k.toNat).X) + dx) ((at_ ((at_ ss' i.toNat).Points) k.toNat).Y) ((at_ ((at_ ss' i.toNat).Points) k.toNat).T))))) i.toNat).Points) k.toNat).T))))) i.toNat).Points.length = (at_ ik.Strokes i.toNat).Points.length) ∧ True from ⟨(by omega), (by (try simp only [List.length_set, at_setS hlx, at_setS hlk, Stroke.withPoints, List.set_set]); exact mvIn_next hs1 hk0.1 hi hk), (by simp; omega), (by (try simp only [List.length_set, at_setS hlx, at_setS hlk, Stroke.withPoints, List.set_set]); exact hr1), trivial⟩) (by show ((((at_ ik.Strokes i.toNat).Points.length : Int) - (k + 1)).toNat : Nat) < (((at_ ik.Strokes i.toNat).Points.length : Int) - k).toNat; omega)
     ·refine x_reg [(8, .dec false)] [1, 2, 6, 7, 8, 9, 27] [6, 7, 8031, 8032] [I dx, I dy, .ref 6 0, .ref 7 0, I i, I k, Bv false] [some (.box [nilA]), some (.box [.arr 8031]), some (.oar [8032] 1 ss'.length (oStroke 8032 ss')), some (.fam ss'.length 3 (mStroke ss') (gStroke ss'))] [(0 : Int) ≤ i ∧ i < (ss'.length : Int), i.toNat < ss'.length, i.toNat < ss'.length, ¬ (k < ((((at_ ss' i.toNat).Points).length) : Int))] (by kernel_rfl) ⟨⟨(by omega), (by omega)⟩, (by omega), (by omega), h2, trivial⟩ ?_
      refine xe_then ?_
      refine x_false rfl ?_
      refine x_exit ?_
      refine xe_exit_then ?_
      refine xe_loop_exit ?_
      refine xe_exit_same ?_
      refine xe_block 1 ?_
      refine xe_then ?_
      refine x_reg [] [1, 2, 6, 7, 8] [6, 7, 8031, 8032] [I dx, I dy, .ref 6 0, .ref 7 0, I (i + 1)] [some (.box [nilA]), some (.box [.arr 8031]), some (.oar [8032] 1 ss'.length (oStroke 8032 ss')), some (.fam ss'.length 3 (mStroke ss') (gStroke ss'))] [inR .i64 (i + 1)] (by kernel_rfl) ⟨(inR_i64 (by omega) (by omega)), trivial⟩ ?_
      exact xe_again ((i + 1), ss') rfl (show (0 ≤ (i + 1) ∧ (i + 1) ≤ (ik.Strokes.length : Int)) ∧ (ss' = mvFst dx dy (i + 1).toNat ik.Strokes) ∧ (ss'.length = ik.Strokes.length) ∧ True from ⟨(by omega), (by exact mvIn_exit hs1 (by omega) hi (by omega)), (by omega), trivial⟩) (by show (((ik.Strokes.length : Int) - (i + 1)).toNat : Nat) < ((ik.Strokes.length : Int) - i).toNat; omega)
    ·refine x_reg [(4, .dec false)] [1, 2, 6, 7, 8, 16] [6, 7, 8031, 8032] [I dx, I dy, .ref 6 0, .ref 7 0, I i, Bv false] [some (.box [nilA]), some (.box [.arr 8031]), some (.oar [8032] 1 ss.length (oStroke 8032 ss)), some (.fam ss.length 3 (mStroke ss) (gStroke ss))] [¬ (i < (ss.length : Int))] (by kernel_rfl) ⟨h1, trivial⟩ ?_
     refine xe_then ?_
     refine x_false rfl ?_
     refine x_exit ?_
     refine xe_exit_then ?_
     refine xe_loop_exit ?_
     refine xe_exit_same ?_
     refine xe_then ?_
     refine x_seq ?_
     refine x_reg [] [6] [6, 8031, 8032] [.ref 6 0] [some (.box [.arr 8031]), some (.oar [8032] 1 ss.length (oStroke 8032 ss)), some (.fam ss.length 3 (mStroke ss) (gStroke ss))] [] (by kernel_rfl) trivial ?_
     refine xe_then ?_
     refine x_ret ?_
     refine xe_weak [(8051, 8031)] (T := [(6, .ref 6 0)]) (O := [(6, .box [.arr 8051]), (8032, .fam ss.length 3 (mStroke ss) (gStroke ss)), (8051, .oar [8032] 1 ss.length (oStroke 8032 ss))]) rfl (⟨.inl rfl, trivial⟩) (⟨.inl rfl, .inl rfl, .inl rfl, trivial⟩) ?_
     refine xe_end ss (show (ss = (mvI dx dy ik).Strokes) ∧ (True) from ⟨(by rw [hs0]; exact mvFst_all (by omega)), trivial⟩) (⟨.inl rfl, .inl rfl, trivial⟩) (.agg [.arr 8051]) (by kernel_rfl) (.inl rfl) (fun h => by cases h) (fun h => by cases h)
  obtain ⟨ss, ⟨hh0, _⟩, hc⟩ := hh
  exact ⟨ss, hh0, hc⟩


-- spec.MoveInk
theorem MoveInk_ok (ik : Ink) (dx : Int) (dy : Int) : ∃ (v : Ink) (c : Int), (c = 0 → v = mvI dx dy ik ∧ okInk' ik = true ∧ okInk' v = true) ∧ Con Tryz.prog 20 [.agg [slStroke false ik.Strokes], I dx, I dy] true (.tup [.agg [slStroke true v.Strokes], I c]) := by
  have hh : ∃ r : Ink × Int, ((r.2 = 0 → r.1 = mvI dx dy ik ∧ okInk' ik = true ∧ okInk' r.1 = true) ∧ (True)) ∧ CallOK Tryz.prog 20 [.agg [slStroke false ik.Strokes], I dx, I dy] (lookO []) true (.tup [.agg [slStroke true r.1.Strokes], I r.2]) (lookO []) := by
    refine fn_okX (Φ := fun r : Ink × Int => (r.2 = 0 → r.1 = mvI dx dy ik ∧ okInk' ik = true ∧ okInk' r.1 = true) ∧ (True)) [] (fun r => []) (fn := Tryz.f20) (nt := 36) Tryz.func20 rfl rfl (args := [.agg [slStroke false ik.Strokes], I dx, I dy]) rfl (allcons (.inl ⟨rfl, by simp [tagged, taggedL, tagStroke]⟩) (allcons (.inl ⟨rfl, trivial⟩) (allcons (.inl ⟨rfl, trivial⟩) allnil))) (res := fun r => .tup [.agg [slStroke true r.1.Strokes], I r.2]) ?_
    refine x_seq ?_
    refine x_reg [(0, .new 3), (1, .new 6)] [1, 2, 3, 6] [3, 6] [I dx, I dy, .ref 3 0, .ref 6 0] [some (.box [slStroke false ik.Strokes]), some (.box [nilA])] [] (by kernel_rfl) trivial ?_
    refine xe_then ?_
    refine x_seq ?_
    refine x_seq ?_
    rcases Bool.eq_false_or_eq_true (okInk' ik) with h1 | h1
    ·refine x_reg [(0, .call [(false, .ptr false [slStroke false ik.Strokes])] true (Bv true))] [1, 2, 3, 6, 11] [3, 6] [I dx, I dy, .ref 3 0, .ref 6 0, Bv false] [some (.box [slStroke false ik.Strokes]), some (.box [nilA])] [Con Tryz.prog 49 [.ptr false [slStroke false ik.Strokes]] true (Bv true) ∧ ((false = true → true = true) ∧ AV.idsL [slStroke false ik.Strokes] = [] ∧ ((false = true → false = true) ∧ 1 = 1 ∧ ik.Strokes.length = ik.Strokes.length ∧ ∀ i, i < ik.Strokes.length → (fStroke false ik.Strokes) i = (fStroke false ik.Strokes) i ∨ (AV.idsL ((fStroke false ik.Strokes) i) = [] ∧ leL (fun _ => none) false ((fStroke false ik.Strokes) i) ((fStroke false ik.Strokes) i))) ∧ ([] : List AV) = []) ∧ True] (by kernel_rfl) ⟨⟨(con_bool h1 (l02Ok_ok ik)), ⟨(fun h => by cases h), rfl, ⟨⟨(fun h => by cases h), rfl, rfl, fun i _ => .inl rfl⟩, rfl⟩⟩, trivial⟩, trivial⟩ ?_
     refine xe_then ?_
     refine x_false rfl ?_
     refine x_skip ?_
     refine xe_then ?_
     refine x_seq ?_
     rcases Bool.eq_false_or_eq_true (inB dx (-4095) 4095) with h2 | h2
     ·rcases Bool.eq_false_or_eq_true (inB dy (-4095) 4095) with h3 | h3
      ·refine x_reg [(1, .call [(true, I dx), (true, I (-4095)), (true, I 4095)] true (Bv true)), (5, .call [(true, I dy), (true, I (-4095)), (true, I 4095)] true (Bv true))] [1, 2, 3, 6, 8] [3, 6] [I dx, I dy, .ref 3 0, .ref 6 0, Bv false] [some (.box [slStroke false ik.Strokes]), some (.box [nilA])] [Con Tryz.prog 46 [I dx, I (-4095), I 4095] true (Bv true) ∧ ((I dx : AV) = I dx) ∧ ((I (-4095) : AV) = I (-4095)) ∧ ((I 4095 : AV) = I 4095) ∧ True, Con Tryz.prog 46 [I dy, I (-4095), I 4095] true (Bv true) ∧ ((I dy : AV) = I dy) ∧ ((I (-4095) : AV) = I (-4095)) ∧ ((I 4095 : AV) = I 4095) ∧ True] (by kernel_rfl) ⟨⟨(con_bool h2 (l00In_ok dx (-4095) 4095)), rfl, rfl, rfl, trivial⟩, ⟨(con_bool h3 (l00In_ok dy (-4095) 4095)), rfl, rfl, rfl, trivial⟩, trivial⟩ ?_
       refine xe_then ?_
       refine x_seq ?_
       refine x_seq ?_
       refine x_reg [] [1, 2, 3, 6, 27] [3, 6] [I dx, I dy, .ref 3 0, .ref 6 0, Bv false] [some (.box [slStroke false ik.Strokes]), some (.box [nilA])] [] (by kernel_rfl) trivial ?_
       refine xe_then ?_
       refine x_false rfl ?_
       refine x_skip ?_
       refine xe_then ?_
       refine x_seq ?_
       refine x_weak [] (T := [(1, I dx), (2, I dy), (3, .ptr true [slStroke false ik.Strokes]), (6, .ref 6 0), (27, Bv false)]) (O := [(6, .box [nilA])]) rfl (⟨.inl rfl, .inl rfl, .inr ⟨(fun _ => rfl), rfl, ⟨⟨(fun h => by cases h), rfl, rfl, fun i _ => .inl rfl⟩, rfl⟩⟩, .inl rfl, .inl rfl, trivial⟩) (⟨.inl rfl, trivial⟩) ?_
       obtain ⟨ss_1, hx1_0, hc1⟩ := l02Move_ok ik dx dy (okI_mem h1) (by have := okI_len h1; omega) (by first | (exact mv_hd rfl (by simp only [inB, decide_eq_true_eq, decide_eq_false_iff_not] at *; omega)))
       refine x_reg [(2, .lend [] [(8032, .fam ss_1.length 3 (mStroke ss_1) (gStroke ss_1)), (8051, .oar [8032] 1 ss_1.length (oStroke 8032 ss_1))] [(false, .ptr false [slStroke false ik.Strokes]), (true, I dx), (true, I dy)] false (.agg [.arr 8051])), (3, .new 9)] [6, 9] [6, 9, 8032, 8051] [.ref 6 0, .ref 9 0] [some (.box [nilA]), some (.box [.arr 8051]), some (.fam ss_1.length 3 (mStroke ss_1) (gStroke ss_1)), some (.oar [8032] 1 ss_1.length (oStroke 8032 ss_1))] [CallOK Tryz.prog 50 [.ptr false [slStroke false ik.Strokes], I dx, I dy] (lookO []) false (.agg [.arr 8051]) (lookO [(8032, .fam ss_1.length 3 (mStroke ss_1) (gStroke ss_1)), (8051, .oar [8032] 1 ss_1.length (oStroke 8032 ss_1))]) ∧ ((false = true → true = true) ∧ AV.idsL [slStroke false ik.Strokes] = [] ∧ ((false = true → false = true) ∧ 1 = 1 ∧ ik.Strokes.length = ik.Strokes.length ∧ ∀ i, i < ik.Strokes.length → (fStroke false ik.Strokes) i = (fStroke false ik.Strokes) i ∨ (AV.idsL ((fStroke false ik.Strokes) i) = [] ∧ leL (fun _ => none) false ((fStroke false ik.Strokes) i) ((fStroke false ik.Strokes) i))) ∧ ([] : List AV) = []) ∧ ((I dx : AV) = I dx) ∧ ((I dy : AV) = I dy) ∧ True] (by kernel_rfl) ⟨⟨hc1, ⟨(fun h => by cases h), rfl, ⟨⟨(fun h => by cases h), rfl, rfl, fun i _ => .inl rfl⟩, rfl⟩⟩, rfl, rfl, trivial⟩, trivial⟩ ?_
       refine xe_then ?_
       refine x_seq ?_
       refine x_seq ?_
       rcases Bool.eq_false_or_eq_true (okInk' (Ink.mk ss_1)) with h4 | h4
       ·refine x_reg [(0, .call [(false, .ptr false [slStroke false ss_1])] true (Bv true))] [6, 9, 33] [6, 9, 8032, 8051] [.ref 6 0, .ref 9 0, Bv false] [some (.box [nilA]), some (.box [.arr 8051]), some (.fam ss_1.length 3 (mStroke ss_1) (gStroke ss_1)), some (.oar [8032] 1 ss_1.length (oStroke 8032 ss_1))] [Con Tryz.prog 49 [.ptr false [slStroke false ss_1]] true (Bv true) ∧ ((false = true → true = true) ∧ AV.idsL [slStroke false ss_1] = [] ∧ ((false = true → true = true) ∧ 1 = 1 ∧ ss_1.length = ss_1.length ∧ ∀ i, i < ss_1.length → AV.idsL ((fStroke false ss_1) i) = [] ∧ leL (lookO [(8032, .fam ss_1.length 3 (mStroke ss_1) (gStroke ss_1))]) true ((oStroke 8032 ss_1) i) ((fStroke false ss_1) i)) ∧ ([] : List AV) = []) ∧ True] (by kernel_rfl) ⟨⟨(con_bool h4 (l02Ok_ok (Ink.mk ss_1))), ⟨(fun h => by cases h), rfl, ⟨⟨(fun h => by cases h), rfl, rfl, oleStroke _ _ rfl⟩, rfl⟩⟩, trivial⟩, trivial⟩ ?_
        refine xe_then ?_
        refine x_false rfl ?_
        refine x_skip ?_
        refine xe_then ?_
        refine x_seq ?_
        refine x_reg [] [6, 7] [6, 8032, 8051] [.ref 6 0, I 0] [some (.box [.arr 8051]), some (.fam ss_1.length 3 (mStroke ss_1) (gStroke ss_1)), some (.oar [8032] 1 ss_1.length (oStroke 8032 ss_1))] [] (by kernel_rfl) trivial ?_
        refine xe_then ?_
        refine x_ret ?_
        refine xe_end ((Ink.mk ss_1), 0) (show (0 = 0 → (Ink.mk ss_1) = mvI dx dy ik ∧ okInk' ik = true ∧ okInk' (Ink.mk ss_1) = true) ∧ (True) from ⟨(by first | (intro hc0; exact absurd hc0 (by decide)) | (intro _; simp only [*]; exact ⟨trivial, trivial, trivial⟩) | (intro _; refine ⟨by simp only [*], by assumption, by assumption⟩)), trivial⟩) (trivial) (.tup [.agg [.arr 8051], I 0]) (by kernel_rfl) (.inr ⟨⟨⟨(fun _ => rfl), rfl, rfl, oleStroke _ _ rfl⟩, rfl⟩, ⟨rfl, rfl⟩⟩) (fun _ => rfl) (fun _ => (by simp [tagged, taggedL, tagStroke]))
       ·refine x_reg [(0, .call [(false, .ptr false [slStroke false ss_1])] true (Bv false))] [6, 9, 33] [6, 9, 8032, 8051] [.ref 6 0, .ref 9 0, Bv true] [some (.box [nilA]), some (.box [.arr 8051]), some (.fam ss_1.length 3 (mStroke ss_1) (gStroke ss_1)), some (.oar [8032] 1 ss_1.length (oStroke 8032 ss_1))] [Con Tryz.prog 49 [.ptr false [slStroke false ss_1]] true (Bv false) ∧ ((false = true → true = true) ∧ AV.idsL [slStroke false ss_1] = [] ∧ ((false = true → true = true) ∧ 1 = 1 ∧ ss_1.length = ss_1.length ∧ ∀ i, i < ss_1.length → AV.idsL ((fStroke false ss_1) i) = [] ∧ leL (lookO [(8032, .fam ss_1.length 3 (mStroke ss_1) (gStroke ss_1))]) true ((oStroke 8032 ss_1) i) ((fStroke false ss_1) i)) ∧ ([] : List AV) = []) ∧ True] (by kernel_rfl) ⟨⟨(con_bool h4 (l02Ok_ok (Ink.mk ss_1))), ⟨(fun h => by cases h), rfl, ⟨⟨(fun h => by cases h), rfl, rfl, oleStroke _ _ rfl⟩, rfl⟩⟩, trivial⟩, trivial⟩ ?_
        refine xe_then ?_
        refine x_true rfl ?_
        refine x_seq ?_
        refine x_reg [] [6, 7] [6] [.ref 6 0, I 2] [some (.box [nilA])] [] (by kernel_rfl) trivial ?_
        refine xe_then ?_
        refine x_ret ?_
        refine xe_ret_then ?_
        refine xe_end ((Ink.mk ([] : List Stroke)), 2) (show (2 = 0 → (Ink.mk ([] : List Stroke)) = mvI dx dy ik ∧ okInk' ik = true ∧ okInk' (Ink.mk ([] : List Stroke)) = true) ∧ (True) from ⟨(by first | (intro hc0; exact absurd hc0 (by decide)) | (intro _; simp only [*]; exact ⟨trivial, trivial, trivial⟩) | (intro _; refine ⟨by simp only [*], by assumption, by assumption⟩)), trivial⟩) (trivial) (.tup [.agg [nilA], I 2]) (by kernel_rfl) (.inr ⟨⟨⟨rfl, rfl⟩, rfl⟩, ⟨rfl, rfl⟩⟩) (fun _ => rfl) (fun _ => (by simp [tagged, taggedL, tagStroke]))
      ·refine x_reg [(1, .call [(true, I dx), (true, I (-4095)), (true, I 4095)] true (Bv true)), (5, .call [(true, I dy), (true, I (-4095)), (true, I 4095)] true (Bv false))] [1, 2, 3, 6, 8] [3, 6] [I dx, I dy, .ref 3 0, .ref 6 0, Bv true] [some (.box [slStroke false ik.Strokes]), some (.box [nilA])] [Con Tryz.prog 46 [I dx, I (-4095), I 4095] true (Bv true) ∧ ((I dx : AV) = I dx) ∧ ((I (-4095) : AV) = I (-4095)) ∧ ((I 4095 : AV) = I 4095) ∧ True, Con Tryz.prog 46 [I dy, I (-4095), I 4095] true (Bv false) ∧ ((I dy : AV) = I dy) ∧ ((I (-4095) : AV) = I (-4095)) ∧ ((I 4095 : AV) = I 4095) ∧ True] (by kernel_rfl) ⟨⟨(con_bool h2 (l00In_ok dx (-4095) 4095)), rfl, rfl, rfl, trivial⟩, ⟨(con_bool h3 (l00In_ok dy (-4095) 4095)), rfl, rfl, rfl, trivial⟩, trivial⟩ ?_
       refine xe_then ?_
       refine x_seq ?_
       refine x_seq ?_
       by_cases h5 : 0 < (ik.Strokes.length : Int)
       ·refine x_reg [(5, .dec true)] [1, 2, 3, 6, 27] [3, 6] [I dx, I dy, .ref 3 0, .ref 6 0, Bv true] [some (.box [slStroke false ik.Strokes]), some (.box [nilA])] [0 < (ik.Strokes.length : Int)] (by kernel_rfl) ⟨h5, trivial⟩ ?_
        refine xe_then ?_
        refine x_true rfl ?_
        refine x_seq ?_
        refine x_reg [] [6, 7] [6] [.ref 6 0, I 2] [some (.box [nilA])] [] (by kernel_rfl) trivial ?_
        refine xe_then ?_
        refine x_ret ?_
        refine xe_ret_then ?_
        refine xe_end ((Ink.mk ([] : List Stroke)), 2) (show (2 = 0 → (Ink.mk ([] : List Stroke)) = mvI dx dy ik ∧ okInk' ik = true ∧ okInk' (Ink.mk ([] : List Stroke)) = true) ∧ (True) from ⟨(by first | (intro hc0; exact absurd hc0 (by decide)) | (intro _; simp only [*]; exact ⟨trivial, trivial, trivial⟩) | (intro _; refine ⟨by simp only [*], by assumption, by assumption⟩)), trivial⟩) (trivial) (.tup [.agg [nilA], I 2]) (by kernel_rfl) (.inr ⟨⟨⟨rfl, rfl⟩, rfl⟩, ⟨rfl, rfl⟩⟩) (fun _ => rfl) (fun _ => (by simp [tagged, taggedL, tagStroke]))
       ·refine x_reg [(5, .dec false)] [1, 2, 3, 6, 27] [3, 6] [I dx, I dy, .ref 3 0, .ref 6 0, Bv false] [some (.box [slStroke false ik.Strokes]), some (.box [nilA])] [¬ (0 < (ik.Strokes.length : Int))] (by kernel_rfl) ⟨h5, trivial⟩ ?_
        refine xe_then ?_
        refine x_false rfl ?_
        refine x_skip ?_
        refine xe_then ?_
        refine x_seq ?_
        refine x_weak [] (T := [(1, I dx), (2, I dy), (3, .ptr true [slStroke false ik.Strokes]), (6, .ref 6 0), (27, Bv false)]) (O := [(6, .box [nilA])]) rfl (⟨.inl rfl, .inl rfl, .inr ⟨(fun _ => rfl), rfl, ⟨⟨(fun h => by cases h), rfl, rfl, fun i _ => .inl rfl⟩, rfl⟩⟩, .inl rfl, .inl rfl, trivial⟩) (⟨.inl rfl, trivial⟩) ?_
        obtain ⟨ss_2, hx2_0, hc2⟩ := l02Move_ok ik dx dy (okI_mem h1) (by have := okI_len h1; omega) (by first | (exact mv_hd rfl (by simp only [inB, decide_eq_true_eq, decide_eq_false_iff_not] at *; omega)))
        refine x_reg [(2, .lend [] [(8032, .fam ss_2.length 3 (mStroke ss_2) (gStroke ss_2)), (8051, .oar [8032] 1 ss_2.length (oStroke 8032 ss_2))] [(false, .ptr false [slStroke false ik.Strokes]), (true, I dx), (true, I dy)] false (.agg [.arr 8051])), (3, .new 9)] [6, 9] [6, 9, 8032, 8051] [.ref 6 0, .ref 9 0] [some (.box [nilA]), some (.box [.arr 8051]), some (.fam ss_2.length 3 (mStroke ss_2) (gStroke ss_2)), some (.oar [8032] 1 ss_2.length (oStroke 8032 ss_2))] [CallOK Tryz.prog 50 [.ptr false [slStroke false ik.Strokes], I dx, I dy] (lookO []) false (.agg [.arr 8051]) (lookO [(8032, .fam ss_2.length 3 (mStroke ss_2) (gStroke ss_2)), (8051, .oar [8032] 1 ss_2.length (oStroke 8032 ss_2))]) ∧ ((false = true → true = true) ∧ AV.idsL [slStroke false ik.Strokes] = [] ∧ ((false = true → false = true) ∧ 1 = 1 ∧ ik.Strokes.length = ik.Strokes.length ∧ ∀ i, i < ik.Strokes.length → (fStroke false ik.Strokes) i = (fStroke false ik.Strokes) i ∨ (AV.idsL ((fStroke false ik.Strokes) i) = [] ∧ leL (fun _ => none) false ((fStroke false ik.Strokes) i) ((fStroke false ik.Strokes) i))) ∧ ([] : List AV) = []) ∧ ((I dx : AV) = I dx) ∧ ((I dy : AV) = I dy) ∧ True] (by kernel_rfl) ⟨⟨hc2, ⟨(fun h => by cases h), rfl, ⟨⟨(fun h => by cases h), rfl, rfl, fun i _ => .inl rfl⟩, rfl⟩⟩, rfl, rfl, trivial⟩, trivial⟩ ?_
        refine xe_then ?_
        refine x_seq ?_
        refine x_seq ?_
        rcases Bool.eq_false_or_eq_true (okInk' (Ink.mk ss_2)) with h6 | h6
        ·refine x_reg [(0, .call [(false, .ptr false [slStroke false ss_2])] true (Bv true))] [6, 9, 33] [6, 9, 8032, 8051] [.ref 6 0, .ref 9 0, Bv false] [some (.box [nilA]), some (.box [.arr 8051]), some (.fam ss_2.length 3 (mStroke ss_2) (gStroke ss_2)), some (.oar [8032] 1 ss_2.length (oStroke 8032 ss_2))] [Con Tryz.prog 49 [.ptr false [slStroke false ss_2]] true (Bv true) ∧ ((false = true → true = true) ∧ AV.idsL [slStroke false ss_2] = [] ∧ ((false = true → true = true) ∧ 1 = 1 ∧ ss_2.length = ss_2.length ∧ ∀ i, i < ss_2.length → AV.idsL ((fStroke false ss_2) i) = [] ∧ leL (lookO [(8032, .fam ss_2.length 3 (mStroke ss_2) (gStroke ss_2))]) true ((oStroke 8032 ss_2) i) ((fStroke false ss_2) i)) ∧ ([] : List AV) = []) ∧ True] (by kernel_rfl) ⟨⟨(con_bool h6 (l02Ok_ok (Ink.mk ss_2))), ⟨(fun h => by cases h), rfl, ⟨⟨(fun h => by cases h), rfl, rfl, oleStroke _ _ rfl⟩, rfl⟩⟩, trivial⟩, trivial⟩ ?_
         refine xe_then ?_
         refine x_false rfl ?_
         refine x_skip ?_
         refine xe_then ?_
         refine x_seq ?_
         refine x_reg [] [6, 7] [6, 8032, 8051] [.ref 6 0, I 0] [some (.box [.arr 8051]), some (.fam ss_2.length 3 (mStroke ss_2) (gStroke ss_2)), some (.oar [8032] 1 ss_2.length (oStroke 8032 ss_2))] [] (by kernel_rfl) trivial ?_
         refine xe_then ?_
         refine x_ret ?_
         refine xe_end ((Ink.mk ss_2), 0) (show (0 = 0 → (Ink.mk ss_2) = mvI dx dy ik ∧ okInk' ik = true ∧ okInk' (Ink.mk ss_2) = true) ∧ (True) from ⟨(by first | (intro hc0; exact absurd hc0 (by decide)) | (intro _; simp only [*]; exact ⟨trivial, trivial, trivial⟩) | (intro _; refine ⟨by simp only [*], by assumption, by assumption⟩)), trivial⟩) (trivial) (.tup [.agg [.arr 8051], I 0]) (by kernel_rfl) (.inr ⟨⟨⟨(fun _ => rfl), rfl, rfl, oleStroke _ _ rfl⟩, rfl⟩, ⟨rfl, rfl⟩⟩) (fun _ => rfl) (fun _ => (by simp [tagged, taggedL, tagStroke]))
        ·refine x_reg [(0, .call [(false, .ptr false [slStroke false ss_2])] true (Bv false))] [6, 9, 33] [6, 9, 8032, 8051] [.ref 6 0, .ref 9 0, Bv true] [some (.box [nilA]), some (.box [.arr 8051]), some (.fam ss_2.length 3 (mStroke ss_2) (gStroke ss_2)), some (.oar [8032] 1 ss_2.length (oStroke 8032 ss_2))] [Con Tryz.prog 49 [.ptr false [slStroke false ss_2]] true (Bv false) ∧ ((false = true → true = true) ∧ AV.idsL [slStroke false ss_2] = [] ∧ ((false = true → true = true) ∧ 1 = 1 ∧ ss_2.length = ss_2.length ∧ ∀ i, i < ss_2.length → AV.idsL ((fStroke false ss_2) i) = [] ∧ leL (lookO [(8032, .fam ss_2.length 3 (mStroke ss_2) (gStroke ss_2))]) true ((oStroke 8032 ss_2) i) ((fStroke false ss_2) i)) ∧ ([] : List AV) = []) ∧ True] (by kernel_rfl) ⟨⟨(con_bool h6 (l02Ok_ok (Ink.mk ss_2))), ⟨(fun h => by cases h), rfl, ⟨⟨(fun h => by cases h), rfl, rfl, oleStroke _ _ rfl⟩, rfl⟩⟩, trivial⟩, trivial⟩ ?_
         refine xe_then ?_
         refine x_true rfl ?_
         refine x_seq ?_
         refine x_reg [] [6, 7] [6] [.ref 6 0, I 2] [some (.box [nilA])] [] (by kernel_rfl) trivial ?_
         refine xe_then ?_
         refine x_ret ?_
         refine xe_ret_then ?_
         refine xe_end ((Ink.mk ([] : List Stroke)), 2) (show (2 = 0 → (Ink.mk ([] : List Stroke)) = mvI dx dy ik ∧ okInk' ik = true ∧ okInk' (Ink.mk ([] : List Stroke)) = true) ∧ (True) from ⟨(by first | (intro hc0; exact absurd hc0 (by decide)) | (intro _; simp only [*]; exact ⟨trivial, trivial, trivial⟩) | (intro _; refine ⟨by simp only [*], by assumption, by assumption⟩)), trivial⟩) (trivial) (.tup [.agg [nilA], I 2]) (by kernel_rfl) (.inr ⟨⟨⟨rfl, rfl⟩, rfl⟩, ⟨rfl, rfl⟩⟩) (fun _ => rfl) (fun _ => (by simp [tagged, taggedL, tagStroke]))
     ·refine x_reg [(1, .call [(true, I dx), (true, I (-4095)), (true, I 4095)] true (Bv false))] [1, 2, 3, 6, 8] [3, 6] [I dx, I dy, .ref 3 0, .ref 6 0, Bv true] [some (.box [slStroke false ik.Strokes]), some (.box [nilA])] [Con Tryz.prog 46 [I dx, I (-4095), I 4095] true (Bv false) ∧ ((I dx : AV) = I dx) ∧ ((I (-4095) : AV) = I (-4095)) ∧ ((I 4095 : AV) = I 4095) ∧ True] (by kernel_rfl) ⟨⟨(con_bool h2 (l00In_ok dx (-4095) 4095)), rfl, rfl, rfl, trivial⟩, trivial⟩ ?_
      refine xe_then ?_
      refine x_seq ?_
      refine x_seq ?_
      by_cases h7 : 0 < (ik.Strokes.length : Int)
      ·refine x_reg [(5, .dec true)] [1, 2, 3, 6, 27] [3, 6] [I dx, I dy, .ref 3 0, .ref 6 0, Bv true] [some (.box [slStroke false ik.Strokes]), some (.box [nilA])] [0 < (ik.Strokes.length : Int)] (by kernel_rfl) ⟨h7, trivial⟩ ?_
       refine xe_then ?_
       refine x_true rfl ?_
       refine x_seq ?_
       refine x_reg [] [6, 7] [6] [.ref 6 0, I 2] [some (.box [nilA])] [] (by kernel_rfl) trivial ?_
       refine xe_then ?_
       refine x_ret ?_
       refine xe_ret_then ?_
       refine xe_end ((Ink.mk ([] : List Stroke)), 2) (show (2 = 0 → (Ink.mk ([] : List Stroke)) = mvI dx dy ik ∧ okInk' ik = true ∧ okInk' (Ink.mk ([] : List Stroke)) = true) ∧ (True) from ⟨(by first | (intro hc0; exact absurd hc0 (by decide)) | (intro _; simp only [*]; exact ⟨trivial, trivial, trivial⟩) | (intro _; refine ⟨by simp only [*], by assumption, by assumption⟩)), trivial⟩) (trivial) (.tup [.agg [nilA], I 2]) (by kernel_rfl) (.inr ⟨⟨⟨rfl, rfl⟩, rfl⟩, ⟨rfl, rfl⟩⟩) (fun _ => rfl) (fun _ => (by simp [tagged, taggedL, tagStroke]))
      ·refine x_reg [(5, .dec false)] [1, 2, 3, 6, 27] [3, 6] [I dx, I dy, .ref 3 0, .ref 6 0, Bv false] [some (.box [slStroke false ik.Strokes]), some (.box [nilA])] [¬ (0 < (ik.Strokes.length : Int))] (by kernel_rfl) ⟨h7, trivial⟩ ?_
       refine xe_then ?_
       refine x_false rfl ?_
       refine x_skip ?_
       refine xe_then ?_
       refine x_seq ?_
       refine x_weak [] (T := [(1, I dx), (2, I dy), (3, .ptr true [slStroke false ik.Strokes]), (6, .ref 6 0), (27, Bv false)]) (O := [(6, .box [nilA])]) rfl (⟨.inl rfl, .inl rfl, .inr ⟨(fun _ => rfl), rfl, ⟨⟨(fun h => by cases h), rfl, rfl, fun i _ => .inl rfl⟩, rfl⟩⟩, .inl rfl, .inl rfl, trivial⟩) (⟨.inl rfl, trivial⟩) ?_
       obtain ⟨ss_3, hx3_0, hc3⟩ := l02Move_ok ik dx dy (okI_mem h1) (by have := okI_len h1; omega) (by first | (exact mv_hd rfl (by simp only [inB, decide_eq_true_eq, decide_eq_false_iff_not] at *; omega)))
       refine x_reg [(2, .lend [] [(8032, .fam ss_3.length 3 (mStroke ss_3) (gStroke ss_3)), (8051, .oar [8032] 1 ss_3.length (oStroke 8032 ss_3))] [(false, .ptr false [slStroke false ik.Strokes]), (true, I dx), (true, I dy)] false (.agg [.arr 8051])), (3, .new 9)] [6, 9] [6, 9, 8032, 8051] [.ref 6 0, .ref 9 0] [some (.box [nilA]), some (.box [.arr 8051]), some (.fam ss_3.length 3 (mStroke ss_3) (gStroke ss_3)), some (.oar [8032] 1 ss_3.length (oStroke 8032 ss_3))] [CallOK Tryz.prog 50 [.ptr false [slStroke false ik.Strokes], I dx, I dy] (lookO []) false (.agg [.arr 8051]) (lookO [(8032, .fam ss_3.length 3 (mStroke ss_3) (gStroke ss_3)), (8051, .oar [8032] 1 ss_3.length (oStroke 8032 ss_3))]) ∧ ((false = true → true = true) ∧ AV.idsL [slStroke false ik.Strokes] = [] ∧ ((false = true → false = true) ∧ 1 = 1 ∧ ik.Strokes.length = ik.Strokes.length ∧ ∀ i, i < ik.Strokes.length → (fStroke false ik.Strokes) i = (fStroke false ik.Strokes) i ∨ (AV.idsL ((fStroke false ik.Strokes) i) = [] ∧ leL (fun _ => none) false ((fStroke false ik.Strokes) i) ((fStroke false ik.Strokes) i))) ∧ ([] : List AV) = []) ∧ ((I dx : AV) = I dx) ∧ ((I dy : AV) = I dy) ∧ True] (by kernel_rfl) ⟨⟨hc3, ⟨(fun h => by cases h), rfl, ⟨⟨(fun h => by cases h), rfl, rfl, fun i _ => .inl rfl⟩, rfl⟩⟩, rfl, rfl, trivial⟩, trivial⟩ ?_
       refine xe_then ?_
       refine x_seq ?_
       refine x_seq ?_
       rcases Bool.eq_false_or_eq_true (okInk' (Ink.mk ss_3)) with h8 | h8
       ·refine x_reg [(0, .call [(false, .ptr false [slStroke false ss_3])] true (Bv true))] [6, 9, 33] [6, 9, 8032, 8051] [.ref 6 0, .ref 9 0, Bv false] [some (.box [nilA]), some (.box [.arr 8051]), some (.fam ss_3.length 3 (mStroke ss_3) (gStroke ss_3)), some (.oar [8032] 1 ss_3.length (oStroke 8032 ss_3))] [Con Tryz.prog 49 [.ptr false [slStroke false ss_3]] true (Bv true) ∧ ((false = true → true = true) ∧ AV.idsL [slStroke false ss_3] = [] ∧ ((false = true → true = true) ∧ 1 = 1 ∧ ss_3.length = ss_3.length ∧ ∀ i, i < ss_3.length → AV.idsL ((fStroke false ss_3) i) = [] ∧ leL (lookO [(8032, .fam ss_3.length 3 (mStroke ss_3) (gStroke ss_3))]) true ((oStroke 8032 ss_3) i) ((fStroke false ss_3) i)) ∧ ([] : List AV) = []) ∧ True] (by kernel_rfl) ⟨⟨(con_bool h8 (l02Ok_ok (Ink.mk ss_3))), ⟨(fun h => by cases h), rfl, ⟨⟨(fun h => by cases h), rfl, rfl, oleStroke _ _ rfl⟩, rfl⟩⟩, trivial⟩, trivial⟩ ?_
        refine xe_then ?_
        refine x_false rfl ?_
        refine x_skip ?_
        refine xe_then ?_
        refine x_seq ?_
        refine x_reg [] [6, 7] [6, 8032, 8051] [.ref 6 0, I 0] [some (.box [.arr 8051]), some (.fam ss_3.length 3 (mStroke ss_3) (gStroke ss_3)), some (.oar [8032] 1 ss_3.length (oStroke 8032 ss_3))] [] (by kernel_rfl) trivial ?_
        refine xe_then ?_
        refine x_ret ?_
        refine xe_end ((Ink.mk ss_3), 0) (show (0 = 0 → (Ink.mk ss_3) = mvI dx dy ik ∧ okInk' ik = true ∧ okInk' (Ink.mk ss_3) = true) ∧ (True) from ⟨(by first | (intro hc0; exact absurd hc0 (by decide)) | (intro _; simp only [*]; exact ⟨trivial, trivial, trivial⟩) | (intro _; refine ⟨by simp only [*], by assumption, by assumption⟩)), trivial⟩) (trivial) (.tup [.agg [.arr 8051], I 0]) (by kernel_rfl) (.inr ⟨⟨⟨(fun _ => rfl), rfl, rfl, oleStroke _ _ rfl⟩, rfl⟩, ⟨rfl, rfl⟩⟩) (fun _ => rfl) (fun _ => (by simp [tagged, taggedL, tagStroke]))
       ·refine x_reg [(0, .call [(false, .ptr false [slStroke false ss_3])] true (Bv false))] [6, 9, 33] [6, 9, 8032, 8051] [.ref 6 0, .ref 9 0, Bv true] [some (.box [nilA]), some (.box [.arr 8051]), some (.fam ss_3.length 3 (mStroke ss_3) (gStroke ss_3)), some (.oar [8032] 1 ss_3.length (oStroke 8032 ss_3))] [Con Tryz.prog 49 [.ptr false [slStroke false ss_3]] true (Bv false) ∧ ((false = true → true = true) ∧ AV.idsL [slStroke false ss_3] = [] ∧ ((false = true → true = true) ∧ 1 = 1 ∧ ss_3.length = ss_3.length ∧ ∀ i, i < ss_3.length → AV.idsL ((fStroke false ss_3) i) = [] ∧ leL (lookO [(8032, .fam ss_3.length 3 (mStroke ss_3) (gStroke ss_3))]) true ((oStroke 8032 ss_3) i) ((fStroke false ss_3) i)) ∧ ([] : List AV) = []) ∧ True] (by kernel_rfl) ⟨⟨(con_bool h8 (l02Ok_ok (Ink.mk ss_3))), ⟨(fun h => by cases h), rfl, ⟨⟨(fun h => by cases h), rfl, rfl, oleStroke _ _ rfl⟩, rfl⟩⟩, trivial⟩, trivial⟩ ?_
        refine xe_then ?_
        refine x_true rfl ?_
        refine x_seq ?_
        refine x_reg [] [6, 7] [6] [.ref 6 0, I 2] [some (.box [nilA])] [] (by kernel_rfl) trivial ?_
        refine xe_then ?_
        refine x_ret ?_
        refine xe_ret_then ?_
        refine xe_end ((Ink.mk ([] : List Stroke)), 2) (show (2 = 0 → (Ink.mk ([] : List Stroke)) = mvI dx dy ik ∧ okInk' ik = true ∧ okInk' (Ink.mk ([] : List Stroke)) = true) ∧ (True) from ⟨(by first | (intro hc0; exact absurd hc0 (by decide)) | (intro _; simp only [*]; exact ⟨trivial, trivial, trivial⟩) | (intro _; refine ⟨by simp only [*], by assumption, by assumption⟩)), trivial⟩) (trivial) (.tup [.agg [nilA], I 2]) (by kernel_rfl) (.inr ⟨⟨⟨rfl, rfl⟩, rfl⟩, ⟨rfl, rfl⟩⟩) (fun _ => rfl) (fun _ => (by simp [tagged, taggedL, tagStroke]))
    ·refine x_reg [(0, .call [(false, .ptr false [slStroke false ik.Strokes])] true (Bv false))] [1, 2, 3, 6, 11] [3, 6] [I dx, I dy, .ref 3 0, .ref 6 0, Bv true] [some (.box [slStroke false ik.Strokes]), some (.box [nilA])] [Con Tryz.prog 49 [.ptr false [slStroke false ik.Strokes]] true (Bv false) ∧ ((false = true → true = true) ∧ AV.idsL [slStroke false ik.Strokes] = [] ∧ ((false = true → false = true) ∧ 1 = 1 ∧ ik.Strokes.length = ik.Strokes.length ∧ ∀ i, i < ik.Strokes.length → (fStroke false ik.Strokes) i = (fStroke false ik.Strokes) i ∨ (AV.idsL ((fStroke false ik.Strokes) i) = [] ∧ leL (fun _ => none) false ((fStroke false ik.Strokes) i) ((fStroke false ik.Strokes) i))) ∧ ([] : List AV) = []) ∧ True] (by kernel_rfl) ⟨⟨(con_bool h1 (l02Ok_ok ik)), ⟨(fun h => by cases h), rfl, ⟨⟨(fun h => by cases h), rfl, rfl, fun i _ => .inl rfl⟩, rfl⟩⟩, trivial⟩, trivial⟩ ?_
     refine xe_then ?_
     refine x_true rfl ?_
     refine x_seq ?_
     refine x_reg [] [6, 7] [6] [.ref 6 0, I 1] [some (.box [nilA])] [] (by kernel_rfl) trivial ?_
     refine xe_then ?_
     refine x_ret ?_
     refine xe_ret_then ?_
     refine xe_end ((Ink.mk ([] : List Stroke)), 1) (show (1 = 0 → (Ink.mk ([] : List Stroke)) = mvI dx dy ik ∧ okInk' ik = true ∧ okInk' (Ink.mk ([] : List Stroke)) = true) ∧ (True) from ⟨(by first | (intro hc0; exact absurd hc0 (by decide)) | (intro _; simp only [*]; exact ⟨trivial, trivial, trivial⟩) | (intro _; refine ⟨by simp only [*], by assumption, by assumption⟩)), trivial⟩) (trivial) (.tup [.agg [nilA], I 1]) (by kernel_rfl) (.inr ⟨⟨⟨rfl, rfl⟩, rfl⟩, ⟨rfl, rfl⟩⟩) (fun _ => rfl) (fun _ => (by simp [tagged, taggedL, tagStroke]))
  obtain ⟨⟨v, c⟩, ⟨hh0, _⟩, hc⟩ := hh
  exact ⟨v, c, hh0, hc⟩


theorem gestR_ok {s : Stroke} (h : (gestR s).2 = 0) : okStroke' s = true := by
  unfold gestR at h
  split at h
  · assumption
  · cases h
theorem gestR_mv {s t : Stroke} {dx dy : Int} (ok : okStroke' s = true) (e : t = mvS dx dy s) (ok2 : okStroke' t = true) : (gestR t).2 = 0 ∧ (gestR t).1 = (gestR s).1 ∧ nameB (gestR s).1 ≠ ⟨#[]⟩ := by
  have h1 := okS_len ok
  have e1 : gestR s = (gestI s, 0) := by simp [gestR, ok]
  have e2 : gestR t = (gestI t, 0) := by simp [gestR, ok2]
  rw [e1, e2]
  refine ⟨rfl, ?_, nameB_ne (gestI_bd s)⟩
  show gestI t = gestI s
  rw [e]; exact gest_mv (by omega)

/-- What is known of a line that was drawn. -/
def drawnRow (l : CellRow) : Prop := l.Text.size ≤ 300 ∧ (-1 ≤ l.X ∧ l.X ≤ 4096) ∧ (-1 ≤ l.Y ∧ l.Y ≤ 4096) ∧ (1 ≤ l.Cell ∧ l.Cell ≤ 61)

-- laws.FnGestures
theorem fnGestures_con (code : List Int) (ok_code : ∀ y ∈ code, inR .u8 y) : Con Tryz.prog 3 [slU8 false code] true (Bv true) := by
  refine fn_ok (fn := Tryz.f3) (nt := 146) Tryz.func3 rfl rfl rfl rfl (by simp [taggedL, tagged, tagU8]) fun B hB => ?_
  refine aw_lens (x := slU8 false code) 0 rfl (fun len_code => ?_)
  simp [LenOK, LenL, cU8, fU8, slU8] at len_code
  refine aw_seq ?_
  refine aw_reg [] [0] [] [slU8 false code] [] [] (by kernel_rfl) hB trivial ?_
  refine ae_then ?_
  refine aw_seq ?_
  refine aw_seq ?_
  rcases Bool.eq_false_or_eq_true (decide (4096 < (code.length : Int))) with h1 | h1
  ·refine aw_reg [(1, .call [(true, slU8 false code)] true (Bv true))] [0, 25] [] [slU8 false code, Bv true] [] [Con Tryz.prog 5 [slU8 false code] true (Bv true) ∧ ((slU8 false code : AV) = slU8 false code) ∧ True] (by kernel_rfl) hB ⟨⟨(con_bool h1 (f6big_ok code)), rfl, trivial⟩, trivial⟩ ?_
   refine ae_then ?_
   refine aw_true rfl ?_
   refine aw_seq ?_
   refine aw_reg [] [2] [] [Bv true] [] [] (by kernel_rfl) hB trivial ?_
   refine ae_then ?_
   refine aw_ret ?_
   refine ae_ret_then ?_
   refine ae_ret hB (Bv true) (by kernel_rfl) (.inl rfl) rfl (fun _ => trivial)
  ·have hc : (∀ j, j < code.length → 0 ≤ at_ code j ∧ at_ code j ≤ 255) ∧ code.length ≤ 4611686018427387904 := ⟨fun j hj => ok_code _ (at_mem hj), by first | omega | (simp at h1; omega)⟩
   refine aw_reg [(1, .call [(true, slU8 false code)] true (Bv false))] [0, 25] [] [slU8 false code, Bv false] [] [Con Tryz.prog 5 [slU8 false code] true (Bv false) ∧ ((slU8 false code : AV) = slU8 false code) ∧ True] (by kernel_rfl) hB ⟨⟨(con_bool h1 (f6big_ok code)), rfl, trivial⟩, trivial⟩ ?_
   refine ae_then ?_
   refine aw_false rfl ?_
   refine aw_skip ?_
   refine ae_then ?_
   refine aw_seq ?_
   obtain ⟨v_1, hc1⟩ := DrawGestureOf_ok code (by assumption)
   refine aw_reg [(1, .call [(true, slU8 false code)] true (.agg [slPoint true v_1.Points])), (2, .new 3)] [0, 3] [3] [slU8 false code, .ref 3 0] [some (.box [slPoint true v_1.Points])] [Con Tryz.prog 6 [slU8 false code] true (.agg [slPoint true v_1.Points]) ∧ ((slU8 false code : AV) = slU8 false code) ∧ True] (by kernel_rfl) hB ⟨⟨hc1, rfl, trivial⟩, trivial⟩ ?_
   refine ae_then ?_
   refine aw_seq ?_
   refine aw_reg [(1, .call [(false, .agg [slPoint false v_1.Points])] true (.tup [I ((gestR v_1).1), I ((gestR v_1).2)]))] [0, 3, 4, 5] [3] [slU8 false code, .ref 3 0, I ((gestR v_1).1), I ((gestR v_1).2)] [some (.box [slPoint true v_1.Points])] [Con Tryz.prog 7 [.agg [slPoint false v_1.Points]] true (.tup [I ((gestR v_1).1), I ((gestR v_1).2)]) ∧ (((false = true → true = true) ∧ 3 = 3 ∧ v_1.Points.length = v_1.Points.length ∧ ∀ i, i < v_1.Points.length → (fPoint v_1.Points) i = (fPoint v_1.Points) i ∨ (AV.idsL ((fPoint v_1.Points) i) = [] ∧ leL (fun _ => none) false ((fPoint v_1.Points) i) ((fPoint v_1.Points) i))) ∧ ([] : List AV) = []) ∧ True] (by kernel_rfl) hB ⟨⟨(implGestureOf_ok v_1), ⟨⟨(fun h => by cases h), rfl, rfl, fun i _ => .inl rfl⟩, rfl⟩, trivial⟩, trivial⟩ ?_
   refine ae_then ?_
   refine aw_seq ?_
   refine aw_reg [(1, .call [(false, .agg [slPoint false v_1.Points])] true (.tup [I ((gestR v_1).1), I ((gestR v_1).2)]))] [0, 3, 4, 5, 6, 7] [3] [slU8 false code, .ref 3 0, I ((gestR v_1).1), I ((gestR v_1).2), I ((gestR v_1).1), I ((gestR v_1).2)] [some (.box [slPoint true v_1.Points])] [Con Tryz.prog 8 [.agg [slPoint false v_1.Points]] true (.tup [I ((gestR v_1).1), I ((gestR v_1).2)]) ∧ (((false = true → true = true) ∧ 3 = 3 ∧ v_1.Points.length = v_1.Points.length ∧ ∀ i, i < v_1.Points.length → (fPoint v_1.Points) i = (fPoint v_1.Points) i ∨ (AV.idsL ((fPoint v_1.Points) i) = [] ∧ leL (fun _ => none) false ((fPoint v_1.Points) i) ((fPoint v_1.Points) i))) ∧ ([] : List AV) = []) ∧ True] (by kernel_rfl) hB ⟨⟨(specGestureOf_ok v_1), ⟨⟨(fun h => by cases h), rfl, rfl, fun i _ => .inl rfl⟩, rfl⟩, trivial⟩, trivial⟩ ?_
   refine ae_then ?_
   refine aw_seq ?_
   refine aw_reg [(1, .call [(false, .agg [slPoint false v_1.Points])] true (.tup [I ((revR v_1).1), I ((revR v_1).2)]))] [0, 3, 4, 5, 6, 7, 8, 9] [3] [slU8 false code, .ref 3 0, I ((gestR v_1).1), I ((gestR v_1).2), I ((gestR v_1).1), I ((gestR v_1).2), I ((revR v_1).1), I ((revR v_1).2)] [some (.box [slPoint true v_1.Points])] [Con Tryz.prog 9 [.agg [slPoint false v_1.Points]] true (.tup [I ((revR v_1).1), I ((revR v_1).2)]) ∧ (((false = true → true = true) ∧ 3 = 3 ∧ v_1.Points.length = v_1.Points.length ∧ ∀ i, i < v_1.Points.length → (fPoint v_1.Points) i = (fPoint v_1.Points) i ∨ (AV.idsL ((fPoint v_1.Points) i) = [] ∧ leL (fun _ => none) false ((fPoint v_1.Points) i) ((fPoint v_1.Points) i))) ∧ ([] : List AV) = []) ∧ True] (by kernel_rfl) hB ⟨⟨(implReversalsOf_ok v_1), ⟨⟨(fun h => by cases h), rfl, rfl, fun i _ => .inl rfl⟩, rfl⟩, trivial⟩, trivial⟩ ?_
   refine ae_then ?_
   refine aw_seq ?_
   refine aw_reg [(1, .call [(false, .agg [slPoint false v_1.Points])] true (.tup [I ((revR v_1).1), I ((revR v_1).2)]))] [0, 3, 4, 5, 6, 7, 8, 9, 10, 11] [3] [slU8 false code, .ref 3 0, I ((gestR v_1).1), I ((gestR v_1).2), I ((gestR v_1).1), I ((gestR v_1).2), I ((revR v_1).1), I ((revR v_1).2), I ((revR v_1).1), I ((revR v_1).2)] [some (.box [slPoint true v_1.Points])] [Con Tryz.prog 10 [.agg [slPoint false v_1.Points]] true (.tup [I ((revR v_1).1), I ((revR v_1).2)]) ∧ (((false = true → true = true) ∧ 3 = 3 ∧ v_1.Points.length = v_1.Points.length ∧ ∀ i, i < v_1.Points.length → (fPoint v_1.Points) i = (fPoint v_1.Points) i ∨ (AV.idsL ((fPoint v_1.Points) i) = [] ∧ leL (fun _ => none) false ((fPoint v_1.Points) i) ((fPoint v_1.Points) i))) ∧ ([] : List AV) = []) ∧ True] (by kernel_rfl) hB ⟨⟨(specReversalsOf_ok v_1), ⟨⟨(fun h => by cases h), rfl, rfl, fun i _ => .inl rfl⟩, rfl⟩, trivial⟩, trivial⟩ ?_
   refine ae_then ?_
   refine aw_seq ?_
   obtain ⟨v_2, hx2_0, hc2⟩ := DrawGestureName_ok code (by assumption)
   refine aw_reg [(1, .call [(true, slU8 false code)] true (I v_2))] [0, 3, 4, 5, 6, 7, 8, 9, 10, 11, 12] [3] [slU8 false code, .ref 3 0, I ((gestR v_1).1), I ((gestR v_1).2), I ((gestR v_1).1), I ((gestR v_1).2), I ((revR v_1).1), I ((revR v_1).2), I ((revR v_1).1), I ((revR v_1).2), I v_2] [some (.box [slPoint true v_1.Points])] [Con Tryz.prog 11 [slU8 false code] true (I v_2) ∧ ((slU8 false code : AV) = slU8 false code) ∧ True] (by kernel_rfl) hB ⟨⟨hc2, rfl, trivial⟩, trivial⟩ ?_
   refine ae_then ?_
   refine aw_seq ?_
   obtain ⟨l_3, x_3, hx3_0, hc3⟩ := DrawCellAt_ok code (by assumption)
   refine aw_reg [(1, .call [(true, slU8 false code)] true (.tup [agCellRow l_3, I x_3])), (5, .new 13)] [0, 3, 4, 5, 6, 7, 8, 9, 10, 11, 12, 13, 14] [3, 13] [slU8 false code, .ref 3 0, I ((gestR v_1).1), I ((gestR v_1).2), I ((gestR v_1).1), I ((gestR v_1).2), I ((revR v_1).1), I ((revR v_1).2), I ((revR v_1).1), I ((revR v_1).2), I v_2, .ref 13 0, I x_3] [some (.box [slPoint true v_1.Points]), some (bxCellRow l_3)] [Con Tryz.prog 12 [slU8 false code] true (.tup [agCellRow l_3, I x_3]) ∧ ((slU8 false code : AV) = slU8 false code) ∧ True] (by kernel_rfl) hB ⟨⟨hc3, rfl, trivial⟩, trivial⟩ ?_
   refine ae_then ?_
   refine aw_seq ?_
   refine aw_reg [(2, .call [(true, agCellRow l_3), (true, I x_3)] true (.tup [I ((cellAtR l_3 x_3).1), I ((cellAtR l_3 x_3).2)]))] [0, 3, 4, 5, 6, 7, 8, 9, 10, 11, 12, 13, 14, 15, 16] [3, 13] [slU8 false code, .ref 3 0, I ((gestR v_1).1), I ((gestR v_1).2), I ((gestR v_1).1), I ((gestR v_1).2), I ((revR v_1).1), I ((revR v_1).2), I ((revR v_1).1), I ((revR v_1).2), I v_2, .ref 13 0, I x_3, I ((cellAtR l_3 x_3).1), I ((cellAtR l_3 x_3).2)] [some (.box [slPoint true v_1.Points]), some (bxCellRow l_3)] [Con Tryz.prog 13 [agCellRow l_3, I x_3] true (.tup [I ((cellAtR l_3 x_3).1), I ((cellAtR l_3 x_3).2)]) ∧ ((agCellRow l_3 : AV) = agCellRow l_3) ∧ ((I x_3 : AV) = I x_3) ∧ True] (by kernel_rfl) hB ⟨⟨(implCellAt_ok l_3 x_3 (by omega)), rfl, rfl, trivial⟩, trivial⟩ ?_
   refine ae_then ?_
   refine aw_seq ?_
   refine aw_reg [(2, .call [(true, agCellRow l_3), (true, I x_3)] true (.tup [I ((cellAtR l_3 x_3).1), I ((cellAtR l_3 x_3).2)]))] [0, 3, 4, 5, 6, 7, 8, 9, 10, 11, 12, 13, 15, 16, 17, 18] [3, 13] [slU8 false code, .ref 3 0, I ((gestR v_1).1), I ((gestR v_1).2), I ((gestR v_1).1), I ((gestR v_1).2), I ((revR v_1).1), I ((revR v_1).2), I ((revR v_1).1), I ((revR v_1).2), I v_2, .ref 13 0, I ((cellAtR l_3 x_3).1), I ((cellAtR l_3 x_3).2), I ((cellAtR l_3 x_3).1), I ((cellAtR l_3 x_3).2)] [some (.box [slPoint true v_1.Points]), some (bxCellRow l_3)] [Con Tryz.prog 14 [agCellRow l_3, I x_3] true (.tup [I ((cellAtR l_3 x_3).1), I ((cellAtR l_3 x_3).2)]) ∧ ((agCellRow l_3 : AV) = agCellRow l_3) ∧ ((I x_3 : AV) = I x_3) ∧ True] (by kernel_rfl) hB ⟨⟨(specCellAt_ok l_3 x_3 (by omega)), rfl, rfl, trivial⟩, trivial⟩ ?_
   refine ae_then ?_
   refine aw_seq ?_
   refine aw_seq ?_
   rcases Bool.eq_false_or_eq_true (okRow l_3) with h2 | h2
   ·refine aw_reg [(2, .dec false), (6, .dec false), (11, .dec false), (16, .dec false), (20, .call [(true, I v_2)] true (Sv (nameB v_2))), (22, .call [(true, I v_2)] true (Sv (nameB v_2))), (23, .dec false), (28, .dec false), (33, .dec false), (37, .call [(true, agCellRow l_3)] true (Bv true)), (39, .call [(true, agCellRow l_3)] true (Bv true))] [0, 3, 4, 5, 108] [3] [slU8 false code, .ref 3 0, I ((gestR v_1).1), I ((gestR v_1).2), Bv false] [some (.box [slPoint true v_1.Points])] [¬ (((gestR v_1).2) ≠ ((gestR v_1).2)), ¬ (((gestR v_1).1) ≠ ((gestR v_1).1)), ¬ (((revR v_1).2) ≠ ((revR v_1).2)), ¬ (((revR v_1).1) ≠ ((revR v_1).1)), Con Tryz.prog 15 [I v_2] true (Sv (nameB v_2)) ∧ ((I v_2 : AV) = I v_2) ∧ True, Con Tryz.prog 16 [I v_2] true (Sv (nameB v_2)) ∧ ((I v_2 : AV) = I v_2) ∧ True, ¬ ((nameB v_2) ≠ (nameB v_2)), ¬ (((cellAtR l_3 x_3).2) ≠ ((cellAtR l_3 x_3).2)), ¬ (((cellAtR l_3 x_3).1) ≠ ((cellAtR l_3 x_3).1)), Con Tryz.prog 17 [agCellRow l_3] true (Bv true) ∧ ((agCellRow l_3 : AV) = agCellRow l_3) ∧ True, Con Tryz.prog 18 [agCellRow l_3] true (Bv true) ∧ ((agCellRow l_3 : AV) = agCellRow l_3) ∧ True] (by kernel_rfl) hB ⟨(fun hq => hq rfl), (fun hq => hq rfl), (fun hq => hq rfl), (fun hq => hq rfl), ⟨(implGestureName_ok v_2), rfl, trivial⟩, ⟨(specGestureName_ok v_2), rfl, trivial⟩, (fun hq => hq rfl), (fun hq => hq rfl), (fun hq => hq rfl), ⟨(con_bool h2 (ValidCellRow_ok l_3 (by omega))), rfl, trivial⟩, ⟨(con_bool h2 (specValidCellRow_ok l_3 (by omega))), rfl, trivial⟩, trivial⟩ ?_
    refine ae_then ?_
    refine aw_false rfl ?_
    refine aw_skip ?_
    refine ae_then ?_
    refine aw_seq ?_
    refine aw_seq ?_
    by_cases h3 : ((gestR v_1).2) = 0
    ·have hok1 := gestR_ok h3
     refine aw_reg [(1, .dec false)] [0, 3, 4, 110] [3] [slU8 false code, .ref 3 0, I ((gestR v_1).1), Bv false] [some (.box [slPoint true v_1.Points])] [¬ (((gestR v_1).2) ≠ 0)] (by kernel_rfl) hB ⟨(fun hq => hq h3), trivial⟩ ?_
     refine ae_then ?_
     refine aw_false rfl ?_
     refine aw_skip ?_
     refine ae_then ?_
     refine aw_seq ?_
     obtain ⟨d'_4, hx4_0, hc4⟩ := f6roll_ok code 2301 (by assumption) (by omega)
     refine aw_reg [(1, .lend [] [(7002, bxf6dice d'_4)] [(true, slU8 false code), (true, .val (.int .u64 2301))] false (.ref 7002 0))] [3, 4, 19] [3, 7002] [.ref 3 0, I ((gestR v_1).1), .ref 7002 0] [some (.box [slPoint true v_1.Points]), some (bxf6dice d'_4)] [CallOK Tryz.prog 19 [slU8 false code, .val (.int .u64 2301)] (lookO []) false (.ref 7002 0) (lookO [(7002, bxf6dice d'_4)]) ∧ ((slU8 false code : AV) = slU8 false code) ∧ ((.val (.int .u64 2301) : AV) = .val (.int .u64 2301)) ∧ True] (by kernel_rfl) hB ⟨⟨hc4, rfl, rfl, trivial⟩, trivial⟩ ?_
     refine ae_then ?_
     refine aw_seq ?_
     obtain ⟨v_5, d'_5, hx5_0, hx5_1, hc5⟩ := below_ok d'_4 200 (by assumption) (by omega)
     obtain ⟨v_6, d'_6, hx6_0, hx6_1, hc6⟩ := below_ok d'_5 200 (by assumption) (by omega)
     obtain ⟨v_7, c_7, hx7_0, hc7⟩ := MoveInk_ok (Ink.mk ([v_1])) v_5 v_6
     refine aw_reg [(1, .new 115), (4, .lend [(7002, bxf6dice d'_4, bxf6dice d'_5)] [] [(true, .ref 7002 0), (true, I 200)] true (I v_5)), (6, .lend [(7002, bxf6dice d'_5, bxf6dice d'_6)] [] [(true, .ref 7002 0), (true, I 200)] true (I v_6)), (7, .call [(false, .agg [slStroke false ([v_1])]), (true, I v_5), (true, I v_6)] true (.tup [.agg [slStroke true v_7.Strokes], I c_7])), (11, .new 20)] [4, 20, 21] [20] [I ((gestR v_1).1), .ref 20 0, I c_7] [some (.box [slStroke true v_7.Strokes])] [CallOK Tryz.prog 21 [.ref 7002 0, I 200] (lookO [(7002, bxf6dice d'_4)]) true (I v_5) (lookO [(7002, bxf6dice d'_5)]) ∧ ((.ref 7002 0 : AV) = .ref 7002 0) ∧ ((I 200 : AV) = I 200) ∧ (((bxf6dice d'_4 : Ob) = bxf6dice d'_4 ∨ obLe noOb true (bxf6dice d'_4) (bxf6dice d'_4)) ∧ taggedO false (bxf6dice d'_4)) ∧ True, CallOK Tryz.prog 21 [.ref 7002 0, I 200] (lookO [(7002, bxf6dice d'_5)]) true (I v_6) (lookO [(7002, bxf6dice d'_6)]) ∧ ((.ref 7002 0 : AV) = .ref 7002 0) ∧ ((I 200 : AV) = I 200) ∧ (((bxf6dice d'_5 : Ob) = bxf6dice d'_5 ∨ obLe noOb true (bxf6dice d'_5) (bxf6dice d'_5)) ∧ taggedO false (bxf6dice d'_5)) ∧ True, Con Tryz.prog 20 [.agg [slStroke false ([v_1])], I v_5, I v_6] true (.tup [.agg [slStroke true v_7.Strokes], I c_7]) ∧ (((false = true → true = true) ∧ 1 = 1 ∧ 1 = (([v_1]).length) ∧ ∀ i, i < (([v_1]).length) → (litF [slPoint true v_1.Points] 1) i = (fStroke false ([v_1])) i ∨ (AV.idsL ((fStroke false ([v_1])) i) = [] ∧ leL (fun _ => none) false ((litF [slPoint true v_1.Points] 1) i) ((fStroke false ([v_1])) i))) ∧ ([] : List AV) = []) ∧ ((I v_5 : AV) = I v_5) ∧ ((I v_6 : AV) = I v_6) ∧ True] (by kernel_rfl) hB ⟨⟨hc5, rfl, rfl, ⟨.inl rfl, (by simp [taggedO, taggedL, tagged, tagU8])⟩, trivial⟩, ⟨hc6, rfl, rfl, ⟨.inl rfl, (by simp [taggedO, taggedL, tagged, tagU8])⟩, trivial⟩, ⟨hc7, ⟨⟨(fun h => by cases h), rfl, (by first | rfl | (simp; done) | (simp; omega) | omega), fun i hi => (match i, hi with | 0, _ => .inr (show AV.idsL [slPoint true v_1.Points] = [] ∧ leL (fun _ => none) false [slPoint true v_1.Points] [slPoint false v_1.Points] from ⟨rfl, ⟨⟨(fun h => by cases h), rfl, rfl, fun i _ => .inl rfl⟩, rfl⟩⟩) | (i + 1), h => absurd h (by simp))⟩, rfl⟩, rfl, rfl, trivial⟩, trivial⟩ ?_
     refine ae_then ?_
     refine aw_seq ?_
     refine aw_seq ?_
     by_cases h4 : c_7 = 0
     ·have hmv := hx7_0 h4
      have hv1 : v_7.Strokes.length = 1 := by rw [hmv.1]; rfl
      have hv0 : at_ v_7.Strokes 0 = mvS v_5 v_6 v_1 := by rw [hmv.1]; rfl
      have hvo : okStroke' (at_ v_7.Strokes 0) = true := okI_all hmv.2.2 0 (by omega)
      have hgr := gestR_mv hok1 hv0 hvo
      refine aw_reg [(1, .dec false)] [4, 20, 125] [20] [I ((gestR v_1).1), .ref 20 0, Bv false] [some (.box [slStroke true v_7.Strokes])] [¬ (c_7 ≠ 0)] (by kernel_rfl) hB ⟨(fun hq => hq h4), trivial⟩ ?_
      refine ae_then ?_
      refine aw_false rfl ?_
      refine aw_skip ?_
      refine ae_then ?_
      refine aw_seq ?_
      refine aw_reg [(4, .call [(false, .agg [slPoint false ((at_ v_7.Strokes 0).Points)])] true (.tup [I ((gestR (at_ v_7.Strokes 0)).1), I ((gestR (at_ v_7.Strokes 0)).2)]))] [4, 22, 23] [] [I ((gestR v_1).1), I ((gestR (at_ v_7.Strokes 0)).1), I ((gestR (at_ v_7.Strokes 0)).2)] [] [(0 : Int) ≤ 0 ∧ 0 < (v_7.Strokes.length : Int), Con Tryz.prog 7 [.agg [slPoint false ((at_ v_7.Strokes 0).Points)]] true (.tup [I ((gestR (at_ v_7.Strokes 0)).1), I ((gestR (at_ v_7.Strokes 0)).2)]) ∧ (((false = true → true = true) ∧ 3 = 3 ∧ (((at_ v_7.Strokes 0).Points).length) = (((at_ v_7.Strokes 0).Points).length) ∧ ∀ i, i < (((at_ v_7.Strokes 0).Points).length) → (fPoint ((at_ v_7.Strokes 0).Points)) i = (fPoint ((at_ v_7.Strokes 0).Points)) i ∨ (AV.idsL ((fPoint ((at_ v_7.Strokes 0).Points)) i) = [] ∧ leL (fun _ => none) false ((fPoint ((at_ v_7.Strokes 0).Points)) i) ((fPoint ((at_ v_7.Strokes 0).Points)) i))) ∧ ([] : List AV) = []) ∧ True] (by kernel_rfl) hB ⟨⟨(by omega), (by omega)⟩, ⟨(implGestureOf_ok (at_ v_7.Strokes 0)), ⟨⟨(fun h => by cases h), rfl, rfl, fun i _ => .inl rfl⟩, rfl⟩, trivial⟩, trivial⟩ ?_
      refine ae_then ?_
      refine aw_seq ?_
      refine aw_reg [(1, .dec true), (5, .dec true), (9, .call [(true, I ((gestR v_1).1))] true (Sv (nameB ((gestR v_1).1))))] [2] [] [Bv (decide ((nameB ((gestR v_1).1)) ≠ (⟨#[]⟩ : ByteArray)))] [] [((gestR (at_ v_7.Strokes 0)).2) = 0, ((gestR (at_ v_7.Strokes 0)).1) = ((gestR v_1).1), Con Tryz.prog 15 [I ((gestR v_1).1)] true (Sv (nameB ((gestR v_1).1))) ∧ ((I ((gestR v_1).1) : AV) = I ((gestR v_1).1)) ∧ True] (by kernel_rfl) hB ⟨hgr.1, hgr.2.1, ⟨(implGestureName_ok ((gestR v_1).1)), rfl, trivial⟩, trivial⟩ ?_
      refine ae_then ?_
      refine aw_ret ?_
      refine ae_ret hB (Bv (decide ((nameB ((gestR v_1).1)) ≠ (⟨#[]⟩ : ByteArray)))) (by kernel_rfl) (.inl (by first | rfl | (simp [hgr.2.2]; done))) rfl (fun _ => trivial)
     ·refine aw_reg [(1, .dec true)] [4, 20, 125] [20] [I ((gestR v_1).1), .ref 20 0, Bv true] [some (.box [slStroke true v_7.Strokes])] [c_7 ≠ 0] (by kernel_rfl) hB ⟨h4, trivial⟩ ?_
      refine ae_then ?_
      refine aw_true rfl ?_
      refine aw_seq ?_
      refine aw_reg [] [2] [] [Bv true] [] [] (by kernel_rfl) hB trivial ?_
      refine ae_then ?_
      refine aw_ret ?_
      refine ae_ret_then ?_
      refine ae_ret hB (Bv true) (by kernel_rfl) (.inl rfl) rfl (fun _ => trivial)
    ·refine aw_reg [(1, .dec true)] [0, 3, 4, 110] [3] [slU8 false code, .ref 3 0, I ((gestR v_1).1), Bv true] [some (.box [slPoint true v_1.Points])] [((gestR v_1).2) ≠ 0] (by kernel_rfl) hB ⟨h3, trivial⟩ ?_
     refine ae_then ?_
     refine aw_true rfl ?_
     refine aw_seq ?_
     refine aw_reg [] [2] [] [Bv true] [] [] (by kernel_rfl) hB trivial ?_
     refine ae_then ?_
     refine aw_ret ?_
     refine ae_ret_then ?_
     refine ae_ret hB (Bv true) (by kernel_rfl) (.inl rfl) rfl (fun _ => trivial)
   ·refine aw_reg [(2, .dec false), (6, .dec false), (11, .dec false), (16, .dec false), (20, .call [(true, I v_2)] true (Sv (nameB v_2))), (22, .call [(true, I v_2)] true (Sv (nameB v_2))), (23, .dec false), (28, .dec false), (33, .dec false), (37, .call [(true, agCellRow l_3)] true (Bv false)), (39, .call [(true, agCellRow l_3)] true (Bv false))] [0, 3, 4, 5, 108] [3] [slU8 false code, .ref 3 0, I ((gestR v_1).1), I ((gestR v_1).2), Bv false] [some (.box [slPoint true v_1.Points])] [¬ (((gestR v_1).2) ≠ ((gestR v_1).2)), ¬ (((gestR v_1).1) ≠ ((gestR v_1).1)), ¬ (((revR v_1).2) ≠ ((revR v_1).2)), ¬ (((revR v_1).1) ≠ ((revR v_1).1)), Con Tryz.prog 15 [I v_2] true (Sv (nameB v_2)) ∧ ((I v_2 : AV) = I v_2) ∧ True, Con Tryz.prog 16 [I v_2] true (Sv (nameB v_2)) ∧ ((I v_2 : AV) = I v_2) ∧ True, ¬ ((nameB v_2) ≠ (nameB v_2)), ¬ (((cellAtR l_3 x_3).2) ≠ ((cellAtR l_3 x_3).2)), ¬ (((cellAtR l_3 x_3).1) ≠ ((cellAtR l_3 x_3).1)), Con Tryz.prog 17 [agCellRow l_3] true (Bv false) ∧ ((agCellRow l_3 : AV) = agCellRow l_3) ∧ True, Con Tryz.prog 18 [agCellRow l_3] true (Bv false) ∧ ((agCellRow l_3 : AV) = agCellRow l_3) ∧ True] (by kernel_rfl) hB ⟨(fun hq => hq rfl), (fun hq => hq rfl), (fun hq => hq rfl), (fun hq => hq rfl), ⟨(implGestureName_ok v_2), rfl, trivial⟩, ⟨(specGestureName_ok v_2), rfl, trivial⟩, (fun hq => hq rfl), (fun hq => hq rfl), (fun hq => hq rfl), ⟨(con_bool h2 (ValidCellRow_ok l_3 (by omega))), rfl, trivial⟩, ⟨(con_bool h2 (specValidCellRow_ok l_3 (by omega))), rfl, trivial⟩, trivial⟩ ?_
    refine ae_then ?_
    refine aw_false rfl ?_
    refine aw_skip ?_
    refine ae_then ?_
    refine aw_seq ?_
    refine aw_seq ?_
    by_cases h5 : ((gestR v_1).2) = 0
    ·have hok1 := gestR_ok h5
     refine aw_reg [(1, .dec false)] [0, 3, 4, 110] [3] [slU8 false code, .ref 3 0, I ((gestR v_1).1), Bv false] [some (.box [slPoint true v_1.Points])] [¬ (((gestR v_1).2) ≠ 0)] (by kernel_rfl) hB ⟨(fun hq => hq h5), trivial⟩ ?_
     refine ae_then ?_
     refine aw_false rfl ?_
     refine aw_skip ?_
     refine ae_then ?_
     refine aw_seq ?_
     obtain ⟨d'_8, hx8_0, hc8⟩ := f6roll_ok code 2301 (by assumption) (by omega)
     refine aw_reg [(1, .lend [] [(7002, bxf6dice d'_8)] [(true, slU8 false code), (true, .val (.int .u64 2301))] false (.ref 7002 0))] [3, 4, 19] [3, 7002] [.ref 3 0, I ((gestR v_1).1), .ref 7002 0] [some (.box [slPoint true v_1.Points]), some (bxf6dice d'_8)] [CallOK Tryz.prog 19 [slU8 false code, .val (.int .u64 2301)] (lookO []) false (.ref 7002 0) (lookO [(7002, bxf6dice d'_8)]) ∧ ((slU8 false code : AV) = slU8 false code) ∧ ((.val (.int .u64 2301) : AV) = .val (.int .u64 2301)) ∧ True] (by kernel_rfl) hB ⟨⟨hc8, rfl, rfl, trivial⟩, trivial⟩ ?_
     refine ae_then ?_
     refine aw_seq ?_
     obtain ⟨v_9, d'_9, hx9_0, hx9_1, hc9⟩ := below_ok d'_8 200 (by assumption) (by omega)
     obtain ⟨v_10, d'_10, hx10_0, hx10_1, hc10⟩ := below_ok d'_9 200 (by assumption) (by omega)
     obtain ⟨v_11, c_11, hx11_0, hc11⟩ := MoveInk_ok (Ink.mk ([v_1])) v_9 v_10
     refine aw_reg [(1, .new 115), (4, .lend [(7002, bxf6dice d'_8, bxf6dice d'_9)] [] [(true, .ref 7002 0), (true, I 200)] true (I v_9)), (6, .lend [(7002, bxf6dice d'_9, bxf6dice d'_10)] [] [(true, .ref 7002 0), (true, I 200)] true (I v_10)), (7, .call [(false, .agg [slStroke false ([v_1])]), (true, I v_9), (true, I v_10)] true (.tup [.agg [slStroke true v_11.Strokes], I c_11])), (11, .new 20)] [4, 20, 21] [20] [I ((gestR v_1).1), .ref 20 0, I c_11] [some (.box [slStroke true v_11.Strokes])] [CallOK Tryz.prog 21 [.ref 7002 0, I 200] (lookO [(7002, bxf6dice d'_8)]) true (I v_9) (lookO [(7002, bxf6dice d'_9)]) ∧ ((.ref 7002 0 : AV) = .ref 7002 0) ∧ ((I 200 : AV) = I 200) ∧ (((bxf6dice d'_8 : Ob) = bxf6dice d'_8 ∨ obLe noOb true (bxf6dice d'_8) (bxf6dice d'_8)) ∧ taggedO false (bxf6dice d'_8)) ∧ True, CallOK Tryz.prog 21 [.ref 7002 0, I 200] (lookO [(7002, bxf6dice d'_9)]) true (I v_10) (lookO [(7002, bxf6dice d'_10)]) ∧ ((.ref 7002 0 : AV) = .ref 7002 0) ∧ ((I 200 : AV) = I 200) ∧ (((bxf6dice d'_9 : Ob) = bxf6dice d'_9 ∨ obLe noOb true (bxf6dice d'_9) (bxf6dice d'_9)) ∧ taggedO false (bxf6dice d'_9)) ∧ True, Con Tryz.prog 20 [.agg [slStroke false ([v_1])], I v_9, I v_10] true (.tup [.agg [slStroke true v_11.Strokes], I c_11]) ∧ (((false = true → true = true) ∧ 1 = 1 ∧ 1 = (([v_1]).length) ∧ ∀ i, i < (([v_1]).length) → (litF [slPoint true v_1.Points] 1) i = (fStroke false ([v_1])) i ∨ (AV.idsL ((fStroke false ([v_1])) i) = [] ∧ leL (fun _ => none) false ((litF [slPoint true v_1.Points] 1) i) ((fStroke false ([v_1])) i))) ∧ ([] : List AV) = []) ∧ ((I v_9 : AV) = I v_9) ∧ ((I v_10 : AV) = I v_10) ∧ True] (by kernel_rfl) hB ⟨⟨hc9, rfl, rfl, ⟨.inl rfl, (by simp [taggedO, taggedL, tagged, tagU8])⟩, trivial⟩, ⟨hc10, rfl, rfl, ⟨.inl rfl, (by simp [taggedO, taggedL, tagged, tagU8])⟩, trivial⟩, ⟨hc11, ⟨⟨(fun h => by cases h), rfl, (by first | rfl | (simp; done) | (simp; omega) | omega), fun i hi => (match i, hi with | 0, _ => .inr (show AV.idsL [slPoint true v_1.Points] = [] ∧ leL (fun _ => none) false [slPoint true v_1.Points] [slPoint false v_1.Points] from ⟨rfl, ⟨⟨(fun h => by cases h), rfl, rfl, fun i _ => .inl rfl⟩, rfl⟩⟩) | (i + 1), h => absurd h (by simp))⟩, rfl⟩, rfl, rfl, trivial⟩, trivial⟩ ?_
     refine ae_then ?_
     refine aw_seq ?_
     refine aw_seq ?_
     by_cases h6 : c_11 = 0
     ·have hmv := hx11_0 h6
      have hv1 : v_11.Strokes.length = 1 := by rw [hmv.1]; rfl
      have hv0 : at_ v_11.Strokes 0 = mvS v_9 v_10 v_1 := by rw [hmv.1]; rfl
      have hvo : okStroke' (at_ v_11.Strokes 0) = true := okI_all hmv.2.2 0 (by omega)
      have hgr := gestR_mv hok1 hv0 hvo
      refine aw_reg [(1, .dec false)] [4, 20, 125] [20] [I ((gestR v_1).1), .ref 20 0, Bv false] [some (.box [slStroke true v_11.Strokes])] [¬ (c_11 ≠ 0)] (by kernel_rfl) hB ⟨(fun hq => hq h6), trivial⟩ ?_
      refine ae_then ?_
      refine aw_false rfl ?_
      refine aw_skip ?_
      refine ae_then ?_
      refine aw_seq ?_
      refine aw_reg [(4, .call [(false, .agg [slPoint false ((at_ v_11.Strokes 0).Points)])] true (.tup [I ((gestR (at_ v_11.Strokes 0)).1), I ((gestR (at_ v_11.Strokes 0)).2)]))] [4, 22, 23] [] [I ((gestR v_1).1), I ((gestR (at_ v_11.Strokes 0)).1), I ((gestR (at_ v_11.Strokes 0)).2)] [] [(0 : Int) ≤ 0 ∧ 0 < (v_11.Strokes.length : Int), Con Tryz.prog 7 [.agg [slPoint false ((at_ v_11.Strokes 0).Points)]] true (.tup [I ((gestR (at_ v_11.Strokes 0)).1), I ((gestR (at_ v_11.Strokes 0)).2)]) ∧ (((false = true → true = true) ∧ 3 = 3 ∧ (((at_ v_11.Strokes 0).Points).length) = (((at_ v_11.Strokes 0).Points).length) ∧ ∀ i, i < (((at_ v_11.Strokes 0).Points).length) → (fPoint ((at_ v_11.Strokes 0).Points)) i = (fPoint ((at_ v_11.Strokes 0).Points)) i ∨ (AV.idsL ((fPoint ((at_ v_11.Strokes 0).Points)) i) = [] ∧ leL (fun _ => none) false ((fPoint ((at_ v_11.Strokes 0).Points)) i) ((fPoint ((at_ v_11.Strokes 0).Points)) i))) ∧ ([] : List AV) = []) ∧ True] (by kernel_rfl) hB ⟨⟨(by omega), (by omega)⟩, ⟨(implGestureOf_ok (at_ v_11.Strokes 0)), ⟨⟨(fun h => by cases h), rfl, rfl, fun i _ => .inl rfl⟩, rfl⟩, trivial⟩, trivial⟩ ?_
      refine ae_then ?_
      refine aw_seq ?_
      refine aw_reg [(1, .dec true), (5, .dec true), (9, .call [(true, I ((gestR v_1).1))] true (Sv (nameB ((gestR v_1).1))))] [2] [] [Bv (decide ((nameB ((gestR v_1).1)) ≠ (⟨#[]⟩ : ByteArray)))] [] [((gestR (at_ v_11.Strokes 0)).2) = 0, ((gestR (at_ v_11.Strokes 0)).1) = ((gestR v_1).1), Con Tryz.prog 15 [I ((gestR v_1).1)] true (Sv (nameB ((gestR v_1).1))) ∧ ((I ((gestR v_1).1) : AV) = I ((gestR v_1).1)) ∧ True] (by kernel_rfl) hB ⟨hgr.1, hgr.2.1, ⟨(implGestureName_ok ((gestR v_1).1)), rfl, trivial⟩, trivial⟩ ?_
      refine ae_then ?_
      refine aw_ret ?_
      refine ae_ret hB (Bv (decide ((nameB ((gestR v_1).1)) ≠ (⟨#[]⟩ : ByteArray)))) (by kernel_rfl) (.inl (by first | rfl | (simp [hgr.2.2]; done))) rfl (fun _ => trivial)
     ·refine aw_reg [(1, .dec true)] [4, 20, 125] [20] [I ((gestR v_1).1), .ref 20 0, Bv true] [some (.box [slStroke true v_11.Strokes])] [c_11 ≠ 0] (by kernel_rfl) hB ⟨h6, trivial⟩ ?_
      refine ae_then ?_
      refine aw_true rfl ?_
      refine aw_seq ?_
      refine aw_reg [] [2] [] [Bv true] [] [] (by kernel_rfl) hB trivial ?_
      refine ae_then ?_
      refine aw_ret ?_
      refine ae_ret_then ?_
      refine ae_ret hB (Bv true) (by kernel_rfl) (.inl rfl) rfl (fun _ => trivial)
    ·refine aw_reg [(1, .dec true)] [0, 3, 4, 110] [3] [slU8 false code, .ref 3 0, I ((gestR v_1).1), Bv true] [some (.box [slPoint true v_1.Points])] [((gestR v_1).2) ≠ 0] (by kernel_rfl) hB ⟨h5, trivial⟩ ?_
     refine ae_then ?_
     refine aw_true rfl ?_
     refine aw_seq ?_
     refine aw_reg [] [2] [] [Bv true] [] [] (by kernel_rfl) hB trivial ?_
     refine ae_then ?_
     refine aw_ret ?_
     refine ae_ret_then ?_
     refine ae_ret hB (Bv true) (by kernel_rfl) (.inl rfl) rfl (fun _ => trivial)


/-! ### the row -/

theorem opens_t22 : OpensA Tryz.prog 22 (cLU8 false) (fun xs => ∀ y ∈ xs, inR .u8 y) :=
  opensA_slice (c := cU8) (sz := 1) Tryz.underlying22 (by kernel_rfl) (by decide) (fun x => ⟨rfl, by simp [oneA, cU8]⟩) (opensA_int Tryz.underlying5)

namespace fnGestures
set_option maxRecDepth 100000 in
theorem lifted (os : Os) (started : os.Started) (H : Type) (enc : TypeId × Value → H) :
    ReturnsInHanded {} Tryz.checked os 3 .any (fun w args => (Rows.fnGesturesSpec.pre enc Tryz.prog Tryz.f3 Rows.fnGesturesRow.domain false w args ∧ laidMetH Tryz.prog Rows.fnGesturesRow.laid w) ∧ sizedMet enc Tryz.prog Tryz.f3 (OpenSpec.ofChange Rows.fnGesturesSpec) false w args)
      (Rows.fnGesturesSpec.post enc Tryz.prog Tryz.f3 false true false false) := by
  refine returnsInHanded_of_change_and (C := Tryz.checked) (X := fun w _ => laidMetH Tryz.prog Rows.fnGesturesRow.laid w) (fun _ _ _ hh h => h.of_heap hh) Tryz.own started (by kernel_rfl) Tryz.func3
    (ChangeSpec.witness_shaped (enc := enc) (C := Tryz.checked) (os := os) (X := fun w _ => laidMetH Tryz.prog Rows.fnGesturesRow.laid w) false (World.laidAll Tryz.prog os Rows.fnGesturesRow.laid) #[.slice none 0 0] 8 (World.laidAll_os _ _ _)
      (World.shaped_of_ZipB (by kernel_rfl) (by kernel_rfl)) (by kernel_rfl) (by kernel_rfl) (by kernel_rfl)
      (by rw [MakeChecks.laidMetH_plain _ _ _ (by kernel_rfl)]; exact laidMet_laidAll _ (by kernel_rfl) (by kernel_rfl))) ?_
  intro W base args ds gs before hval0 hW hcnd hsz hL _
  have hW' := hW
  obtain ⟨p, q, hA0, hV, rfl, hfz, hnd⟩ := hW
  have hval : ∀ (j : Nat) t v, Tryz.f3.params[j]? = some t → args[j]? = some v → Value.okWide Tryz.prog W .any base t v := hval0
  have hA : DataW.TrodAll enc Tryz.prog W 0 (fun _ => true) true Tryz.f3.params.toList args.toList ds p := hA0
  rw [Tryz.params3] at hA hval
  obtain ⟨v0, vs0, d0, ds0, p0, q0, hargs, rfl, rfl, h0, r0⟩ := trodAll_cons hA
  obtain ⟨rfl, rfl, rfl⟩ := trodAll_nil r0
  obtain rfl : args = #[v0] := args_eq hargs
  obtain ⟨rfl, rfl⟩ := trodVars_none hV
  obtain ⟨fuel0, hf0⟩ := h0
  obtain ⟨A0, l0, c0, rfl⟩ := okWide_slice Tryz.underlying22 (hval 0 22 v0 rfl rfl)
  obtain ⟨x0, rx0, ok0⟩ := (opens_t22) enc W 0 _ _ _ _ _ hf0
  refine (walk_of0 (fnGestures_con x0 ok0) (fun w _ => WX_free w) (RelTL.cons (relTL_one rx0) RelTL.nil)).mono fun e W1 ⟨he, hb⟩ => ?_
  subst he
  exact ⟨_, rfl, law_post Tryz.laidOut rfl Tryz.underlying4 (of_decide_eq_true (by kernel_rfl)) rfl hW' hb rfl⟩

theorem over : Rows.fnGesturesRow.holds Tryz.pinned (OpenSpec.ofChange Rows.fnGesturesSpec) :=
  OpenClaim.holds_of_wide 3 Tryz.f3 rfl rfl rfl rfl rfl rfl rfl ⟨rfl, rfl, rfl, rfl, rfl⟩ rfl rfl rfl rfl rfl (by kernel_rfl) Tryz.func3 (by kernel_rfl)
    (of_decide_eq_true (by kernel_rfl)) (by unfold Func.isWrapper; first | (rw [if_pos (by decide +kernel)]; kernel_rfl) | (rw [if_neg (by decide +kernel)]; exact ⟨rfl, rfl⟩))
    (fun os started H enc _ => lifted os started H enc)

theorem proved : Rows.FnGesturesCardSaid :=
  Claim7.holds_tied_plain_at .later [] [.data, .pinned] true (true, "b9bd33f494e9a51198a3b03feb3e48ed423639fc2108cf0e88b89cbd7982b181") false over (fun _ h => by cases h) (by kernel_rfl) (fun _ h => by cases h) fnGestures_row_tie rfl ⟨rfl, rfl⟩ (by kernel_rfl) rfl
    (fun f fn hf hfn => by
      obtain rfl : f = 3 := Option.some.inj ((show Tryz.prog.funcNamed "loop.example/g00918/laws.FnGestures" = some 3 by kernel_rfl).symm.trans hf) |>.symm
      obtain rfl : fn = Tryz.f3 := (Option.some.inj (Tryz.func3.symm.trans hfn)).symm
      exact ⟨by kernel_rfl, fun j t ht => by
        rw [Tryz.params3] at ht
        have hm : t ∈ [22] := by simpa using Array.mem_of_getElem? ht
        have hall : ([22].all fun u => !Tryz.prog.wantsStandIn u) = true := by kernel_rfl
        exact (show Tryz.prog.wantsStandIn t = false by simpa using List.all_eq_true.1 hall t hm)⟩)
    (by kernel_rfl)
#print axioms proved
end fnGestures
end Go.Proofs.YtebcbkejkpjeoaaGreatDoor.Ax
