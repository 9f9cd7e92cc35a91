/- Contracts that the statement FnTraining reaches, part 3. No conditions. -/
import Derived.Test.YtblhhmcplocepaaGreatDoorAxLTraining2
import Derived.LaidMore
import Derived.Lay
import Derived.Lib.IndexBytes
import Derived.Lib.ItoaNum
import Derived.Lib.ParseIntBCases
import Derived.Lib.ParseIntBTie
import Derived.Lib.SplitLaws
import Derived.OpenShut
import Derived.SevenTiedAt
import Derived.Stop.Joined
import Derived.Test.YtblhhmcplocepaaGreatDoorAxBd
import Derived.Test.YtblhhmcplocepaaGreatDoorAxQ
import Derived.Test.YtblhhmcplocepaaGreatDoorAxR
import Derived.Test.YtblhhmcplocepaaGreatDoorAxS
import Derived.Test.YtblhhmcplocepaaGreatDoorAxY
import Derived.Test.YtblhhmcplocepaaGreatDoorDelShelf
namespace Go.Proofs.YtblhhmcplocepaaGreatDoor.Ax
open Go.RowKit Go.ChangeShapes Go.WideShapes
set_option linter.unusedVariables false
set_option linter.unusedSimpArgs false
theorem scoR_ok {p : Perceptron} {fs : List Feat} {v : List Int} {c : Int} (e : (v, c) = Zzk p fs) (h : c = 0) : Zbb p = true ∧ Zbo fs 384 = true ∧ v = scR p.Weights (Zeb fs) := by
  subst h
  unfold Zzk at e
  split at e
  · rename_i h; exact ⟨h.1, h.2, congrArg Prod.fst e⟩
  · exact absurd (show (0 : Int) = 1 from congrArg Prod.snd e) (by decide)
theorem clsR_no {p : Perceptron} {fs : List Feat} {v : List Int} {c : Int} (e : (v, c) = Zzk p fs) (h : ¬ c = 0) : Yco p fs = ((⟨#[]⟩, 0), c) := by
  unfold Zzk at e
  unfold Yco
  split at e
  · exact absurd (congrArg Prod.snd e) h
  · rename_i q; rw [if_neg q, show c = 1 from congrArg Prod.snd e]
theorem mg_one {l : List Int} (h1 : 1 ≤ l.length) (h : ¬ 0 < ((l.take (Zbj l).toNat ++ l.drop (Zbj l + 1).toNat).length : Int)) : mgI l = 0 := by
  have hb := Zji h1
  refine mg_none ?_
  rw [List.length_append, List.length_take, List.length_drop] at h
  omega
theorem mg_two {l : List Int} {M : Int} (h1 : 1 ≤ l.length) (h : 0 < ((l.take (Zbj l).toNat ++ l.drop (Zbj l + 1).toNat).length : Int)) (hm : Zwg (l.take (Zbj l).toNat ++ l.drop (Zbj l + 1).toNat) (l.take (Zbj l).toNat ++ l.drop (Zbj l + 1).toNat).length M) : at_ l (Zbj l).toNat - M = mgI l := by
  have hb := Zji h1
  have e : (Zbj l + 1).toNat = (Zbj l).toNat + 1 := by omega
  rw [e] at h hm
  refine mg_mx ?_ hm
  rw [List.length_append, List.length_take, List.length_drop] at h
  omega
theorem mx_bd {l : List Int} {k m A B : Int} (h : Zwg l k m) (hk : k ≤ (l.length : Int)) (hl : ∀ x ∈ l, A ≤ x ∧ x ≤ B) : A ≤ m ∧ m ≤ B := by
  obtain ⟨⟨j, h1, h2⟩, _⟩ := h
  have := hl _ (Zcs (xs := l) (i := j) (by omega))
  omega
theorem sc_bd {p : Perceptron} {fs : List Feat} (h1 : Zbb p = true) (h2 : Zbo fs 384 = true) : ∀ x ∈ scR p.Weights (Zeb fs), -12800000000 ≤ x ∧ x ≤ 12800000000 := fun x hx => by
  unfold scR at hx
  rw [List.mem_map] at hx
  obtain ⟨r, hr, rfl⟩ := hx
  obtain ⟨j, hj, e⟩ := List.getElem_of_mem hr
  have hq := Zct (okPerc_iff.1 h1).2.2 hj
  rw [Zex hj, e] at hq
  have := Zyg hq.2 (Zwh (Zjj h2).1) 25 (Nat.le_refl _)
  omega
theorem rest_mem {l : List Int} {a b : Nat} {x : Int} (h : x ∈ l.take a ++ l.drop b) : x ∈ l := by
  rcases List.mem_append.1 h with h | h
  · exact List.mem_of_mem_take h
  · exact List.mem_of_mem_drop h
def okS (s : Sample) : Bool := Zcg s.Label && Zbo s.Feats 384
def cdR (p : Perceptron) (list : List Sample) : Int := if Zbb p = true then (if Zik list.length (fun j => okS (at_ list j)) = true then (if Zik list.length (fun j => decide (0 ≤ Zaw p.Labels (at_ list j).Label)) = true then (if 40 < (list.length : Int) then 2 else 0) else 3) else 1) else 1
theorem fndL_mem {ls : List ByteArray} {l : ByteArray} (h : 0 ≤ Zaw ls l) : l ∈ ls := by
  unfold Zaw at h
  rcases Zhh ls.length (fun j => decide (at_ ls j = l)) with ⟨h1, _⟩ | ⟨k, _, h2, h3, _⟩
  · omega
  · rw [← of_decide_eq_true h3]; exact Zcs h2
theorem cd_ok {p : Perceptron} {list : List Sample} (h : cdR p list = 0) : Zbb p = true ∧ (∀ j, j < list.length → okS (at_ list j) = true ∧ (at_ list j).Label ∈ p.Labels ∧ Zbo (at_ list j).Feats 384 = true) ∧ list.length ≤ 40 := by
  unfold cdR at h
  split at h
  · rename_i h1
    split at h
    · rename_i h2
      split at h
      · rename_i h3
        split at h
        · cases h
        · refine ⟨h1, fun j hj => ?_, by omega⟩
          have a := Zhg h2 hj
          have b := Zhg h3 hj
          refine ⟨a, fndL_mem (of_decide_eq_true b), ?_⟩
          unfold okS at a
          rw [Bool.and_eq_true] at a; exact a.2
      · cases h
    · cases h
  · cases h
theorem cd_a {p : Perceptron} {list : List Sample} (h : Zbb p = false) : cdR p list = 1 := by unfold cdR; rw [h]; rfl
theorem cd_b {p : Perceptron} {list : List Sample} (h1 : Zbb p = true) (h : Zik list.length (fun j => okS (at_ list j)) = false) : cdR p list = 1 := by unfold cdR; rw [if_pos h1, h]; rfl
theorem cd_c {p : Perceptron} {list : List Sample} (h1 : Zbb p = true) (h2 : Zik list.length (fun j => okS (at_ list j)) = true) (h : Zik list.length (fun j => decide (0 ≤ Zaw p.Labels (at_ list j).Label)) = false) : cdR p list = 3 := by unfold cdR; rw [if_pos h1, if_pos h2, h]; rfl
theorem cd_d {p : Perceptron} {list : List Sample} (h1 : Zbb p = true) (h2 : Zik list.length (fun j => okS (at_ list j)) = true) (h3 : Zik list.length (fun j => decide (0 ≤ Zaw p.Labels (at_ list j).Label)) = true) (h : 40 < (list.length : Int)) : cdR p list = 2 := by unfold cdR; rw [if_pos h1, if_pos h2, if_pos h3, if_pos h]
theorem cd_e {p : Perceptron} {list : List Sample} (h1 : Zbb p = true) (h2 : Zik list.length (fun j => okS (at_ list j)) = true) (h3 : Zik list.length (fun j => decide (0 ≤ Zaw p.Labels (at_ list j).Label)) = true) (h : ¬ 40 < (list.length : Int)) : cdR p list = 0 := by unfold cdR; rw [if_pos h1, if_pos h2, if_pos h3, if_neg h]
def trnR (p : Perceptron) (s : Sample) : List (List Int) × Bool := if Zbj (scR p.Weights (Zeb s.Feats)) = Zaw p.Labels s.Label then (p.Weights, false) else (Zgh p.Weights (Zeb s.Feats) (Zaw p.Labels s.Label).toNat (Zbj (scR p.Weights (Zeb s.Feats))).toNat 25, true)
theorem Ycu {p : Perceptron} {s : Sample} (h : Zbj (scR p.Weights (Zeb s.Feats)) = Zaw p.Labels s.Label) : trnR p s = (p.Weights, false) := if_pos h
theorem Ycv {p : Perceptron} {s : Sample} (h : ¬ Zbj (scR p.Weights (Zeb s.Feats)) = Zaw p.Labels s.Label) : trnR p s = (Zgh p.Weights (Zeb s.Feats) (Zaw p.Labels s.Label).toNat (Zbj (scR p.Weights (Zeb s.Feats))).toNat 25, true) := if_neg h
theorem trn_step {p : Perceptron} {s : Sample} {W : List (List Int)} {ch : Bool} (hp : Zbb p = true) (e : (W, ch) = trnR p s) : (Zbb ⟨p.Labels, W⟩ = true → Zdt p s = (⟨p.Labels, W⟩, ch, 0)) ∧ (Zbb ⟨p.Labels, W⟩ = false → Zdt p s = (⟨[], []⟩, false, 5)) := by
  by_cases h : Zbj (scR p.Weights (Zeb s.Feats)) = Zaw p.Labels s.Label
  · rw [Ycu h, Prod.mk.injEq] at e
    obtain ⟨rfl, rfl⟩ := e
    refine ⟨fun _ => by rw [Zjx h], fun q => ?_⟩
    rw [show (⟨p.Labels, p.Weights⟩ : Perceptron) = p from rfl, hp] at q; cases q
  · rw [Ycv h, Prod.mk.injEq] at e
    obtain ⟨e1, e2⟩ := e
    subst e2
    have h3 := Zkz h
    have h4 := Zmj h
    rw [← e1] at h3 h4
    exact ⟨h3, fun q => h4 (by rw [q]; exact Bool.false_ne_true)⟩
def Zor (p : Perceptron) (list : List Sample) : Perceptron × Int × Int := if cdR p list = 0 then epR p list list.length else (⟨[], []⟩, 0, cdR p list)
theorem Ycw {p : Perceptron} {list : List Sample} (h : cdR p list = 0) : Zor p list = epR p list list.length := if_pos h
theorem tep_no {p : Perceptron} {list : List Sample} (h : ¬ cdR p list = 0) : Zor p list = (⟨[], []⟩, 0, cdR p list) := if_neg h
theorem Ycx {p : Perceptron} {list : List Sample} : ∀ k, ¬ (epR p list k).2.2 = 0 → epR p list k = (⟨[], []⟩, 0, (epR p list k).2.2)
  | 0, h => absurd rfl h
  | k + 1, h => by
    rw [epR] at h ⊢
    by_cases h1 : (epR p list k).2.2 = 0
    · rw [if_pos h1] at h ⊢
      by_cases h2 : (Zdt (epR p list k).1 (at_ list k)).2.2 = 0
      · rw [if_pos h2] at h; exact absurd rfl h
      · rw [if_neg h2]
    · rw [if_neg h1]; exact Ycx k h1
theorem lab_win {p : Perceptron} {l : ByteArray} {b : Int} (hp : Zbb p = true) (hl : l ∈ p.Labels) (hb : 0 ≤ b ∧ b < (p.Labels.length : Int)) : at_ p.Labels b.toNat = l ↔ b = Zaw p.Labels l := by
  have hpw := (Zke (okPerc_iff.1 hp).1).2
  rw [List.pairwise_iff_getElem] at hpw
  have hf := Zsi hl
  have hat : at_ p.Labels (Zaw p.Labels l).toNat = l := by
    unfold Zaw
    rcases Zhh p.Labels.length (fun j => decide (at_ p.Labels j = l)) with ⟨h1, _⟩ | ⟨k, h1, h2, h3, _⟩
    · unfold Zaw at hf; omega
    · rw [h1]; exact of_decide_eq_true h3
  constructor
  · intro h
    apply Classical.byContradiction
    intro hn
    rcases Int.lt_or_gt_of_ne hn with q | q
    · have := hpw b.toNat (Zaw p.Labels l).toNat (by omega) (by omega) (by omega)
      rw [← Zex, ← Zex, h, hat, Ycy] at this; cases this
    · have := hpw (Zaw p.Labels l).toNat b.toNat (by omega) (by omega) (by omega)
      rw [← Zex, ← Zex, h, hat, Ycy] at this; cases this
  · intro h; rw [h]; exact hat
theorem step_n {q : Perceptron} {s : Sample} (hs : (Zdt q s).2.2 = 0) : (Zdt q s).2.1 = false ↔ Zbj (scR q.Weights (Zeb s.Feats)) = Zaw q.Labels s.Label := by
  by_cases h1 : Zbj (scR q.Weights (Zeb s.Feats)) = Zaw q.Labels s.Label
  · rw [Zjx h1]; exact ⟨fun _ => h1, fun _ => rfl⟩
  · by_cases h2 : Zbb ⟨q.Labels, Zgh q.Weights (Zeb s.Feats) (Zaw q.Labels s.Label).toNat (Zbj (scR q.Weights (Zeb s.Feats))).toNat 25⟩ = true
    · rw [Zkz h1 h2]; exact ⟨fun z => absurd (show true = false from z) (by decide), fun z => absurd z h1⟩
    · rw [Zmj h1 h2] at hs; cases hs
theorem Ycz {p : Perceptron} {list : List Sample} {ls : List ByteArray} {W : List (List Int)} {n c : Int} (hp : Zbb p = true) (h1 : ls = p.Labels) (h2 : (epR p list list.length).2 = (n, c)) (h3 : c = 0 → W = (epR p list list.length).1.Weights) (hc : c = 0) : (Perceptron.mk ls W, n, (0 : Int)) = epR p list list.length := by
  have h4 := ep_ok (list := list) hp list.length (by rw [h2]; exact hc)
  refine Prod.ext ?_ ?_
  · show Perceptron.mk ls W = (epR p list list.length).1
    rw [h3 hc, h1, ← h4.2]
  · rw [h2, hc]
theorem Zwi {p : Perceptron} {list : List Sample} {n c : Int} (h2 : (epR p list list.length).2 = (n, c)) (hc : ¬ c = 0) : ((⟨[], []⟩ : Perceptron), (0 : Int), c) = epR p list list.length := by
  have := Ycx (p := p) (list := list) list.length (by rw [h2]; exact hc)
  rw [this, h2]
-- impl.validSample
theorem Zpo (s : Sample) (hz : s.Label.size ≤ 9223372036854775807) : Con Tryz.prog 89 [Zcx s] true (Bv (okS s)) := by
  refine Zdb (fn := Tryz.f89) (nt := 11) Tryz.func89 rfl rfl rfl rfl (by simp [Zah, Zak, Zed]) fun B hB => ?_
  refine Zce (x := Zcx s) 0 rfl (fun len_s => ?_)
  simp [Zdr, Zgi, Zhb, Zdp, Zau] at len_s
  refine aR [(0, .new 1)] [1] [1] [.ref 1 0] [some (Zfo s)] [] hB trivial ?_
  refine Zal ?_
  rcases Bool.eq_false_or_eq_true (Zcg s.Label) with h1 | h1
  ·refine Zbx [(2, .call [(true, .any)] true (Bv true)), (6, .call [(true, .any)] true (Bv (Zbo s.Feats 384)))] [2] [] [Bv (Zbo s.Feats 384)] [] [Con Tryz.prog 75 [Sv s.Label] true (Bv true) ∧ True, Con Tryz.prog 80 [Zau false s.Feats] true (Bv (Zbo s.Feats 384)) ∧ True] hB ⟨⟨(Zaq h1 (Zem s.Label hz)), trivial⟩, ⟨(Zid s.Feats), trivial⟩, trivial⟩ ?_
   refine Zac ?_
   refine Zax ?_
   refine Zba hB (Bv (Zbo s.Feats 384)) (by kernel_rfl) (.inl (by refine congrArg Bv ?_; unfold okS; first | (rw [show Zcg s.Label = false from by assumption]; rfl) | (rw [show Zcg s.Label = true from by assumption]; rfl))) rfl (fun _ => trivial)
  refine Zbx [(2, .call [(true, .any)] true (Bv false))] [2] [] [Bv false] [] [Con Tryz.prog 75 [Sv s.Label] true (Bv false) ∧ True] hB ⟨⟨(Zaq h1 (Zem s.Label hz)), trivial⟩, trivial⟩ ?_
  refine Zac ?_
  refine Zax ?_
  refine Zba hB (Bv false) (by kernel_rfl) (.inl (by refine congrArg Bv ?_; unfold okS; first | (rw [show Zcg s.Label = false from by assumption]; rfl) | (rw [show Zcg s.Label = true from by assumption]; rfl))) rfl (fun _ => trivial)
-- impl.trainable$1
theorem Zla (s : Sample) (hz : s.Label.size ≤ 9223372036854775807) : Con Tryz.prog 88 [Zcx s] true (Bv (!(okS s))) := by
  refine Zdb (fn := Tryz.f88) (nt := 6) Tryz.func88 rfl rfl rfl rfl (by simp [Zah, Zak, Zed]) fun B hB => ?_
  refine Zce (x := Zcx s) 0 rfl (fun len_s => ?_)
  simp [Zdr, Zgi, Zhb, Zdp, Zau] at len_s
  refine aR [(0, .new 1)] [1] [1] [.ref 1 0] [some (Zfo s)] [] hB trivial ?_
  refine aR [(1, .call [(true, .any)] true (Bv (okS s)))] [2] [] [Bv (!((okS s)))] [] [Con Tryz.prog 89 [Zcx s] true (Bv (okS s)) ∧ True] hB ⟨⟨(Zpo s hz), trivial⟩, trivial⟩ ?_
  refine Zax ?_
  refine Zba hB (Bv (!((okS s)))) (by kernel_rfl) (.inl (by first | rfl | (refine congrArg Bv ?_; simp [*]; done) | (refine congrArg Bv ?_; simp [*]; omega) | (refine congrArg Bv ?_; simp_all []; done) | (refine congrArg Bv ?_; simp_all []; omega))) rfl (fun _ => trivial)
-- slices.Index[[]string,string]
theorem Zuf (s : List ByteArray) (v : ByteArray) : Con Tryz.prog 112 [slS false s, Sv v] true (I (Zaw s v)) := by
  refine Zdb (fn := Tryz.f112) (nt := 19) Tryz.func112 rfl rfl rfl rfl (by simp [Zah, Zak, Zep]) fun B hB => ?_
  refine Zce (x := slS false s) 0 rfl (fun len_s => ?_)
  simp [Zdr, Zgi, cS, fS, slS] at len_s
  refine aR [] [0, 1] [] [slS false s, Sv v] [] [] hB trivial ?_
  refine Zal ?_
  refine aR [] [0, 1, 7, 8] [] [slS false s, Sv v, I (s.length : Int), I 0] [] [] hB trivial ?_
  refine Zbn ?_
  refine Zdk (fun gn gσ => ∃ (t8 : Int), gn = ((s.length : Int) - t8).toNat ∧ (0 ≤ t8 ∧ t8 ≤ (s.length : Int)) ∧ (∀ j : Nat, (j : Int) < t8 → ¬ at_ s j = v) ∧ gσ = mkS [(0, slS false s), (1, Sv v), (7, I (s.length : Int)), (8, I t8)] []) (((s.length : Int) - 0).toNat) ⟨0, rfl, (by omega), (by intro j hj; omega), rfl⟩ (fun gn gσ hI => ?_)
  obtain ⟨t8, rfl, hi0, hne, rfl⟩ := hI
  refine Zal ?_
  by_cases h1 : t8 < (s.length : Int)
  ·have hi : t8.toNat < s.length := by omega
   refine Zbx [(0, .dec true)] [0, 1, 7, 8, 9] [] [slS false s, Sv v, I (s.length : Int), I t8, Bv true] [] [t8 < (s.length : Int)] hB ⟨h1, trivial⟩ ?_
   refine Zac ?_
   refine Zal ?_
   refine Zbc rfl ?_
   refine Zbf ?_
   refine Zac ?_
   refine Zal ?_
   refine Zbn ?_
   refine aR [] [0, 1, 5, 7, 8] [] [slS false s, Sv v, I t8, I (s.length : Int), I t8] [] [] hB trivial ?_
   refine Zal ?_
   by_cases h2 : v = (at_ s t8.toNat)
   ·have hfin : Zaw s v = t8.toNat := Zev hi (decide_eq_true (Eq.symm h2)) (fun j hj => decide_eq_false (hne j (by omega)))
    refine Zbx [(5, .dec true)] [0, 1, 5, 7, 8, 16] [] [slS false s, Sv v, I t8, I (s.length : Int), I t8, Bv true] [] [(0 : Int) ≤ t8 ∧ t8 < (s.length : Int), v = (at_ s t8.toNat)] hB ⟨⟨(by omega), (by omega)⟩, h2, trivial⟩ ?_
    refine Zac ?_
    refine Zbc rfl ?_
    refine aR [] [4] [] [I t8] [] [] hB trivial ?_
    refine Zax ?_
    refine Zat (Zai (Zai (Zat (Zai ?_))))
    refine Zba hB (I t8) (by kernel_rfl) (.inl (by refine congrArg I ?_; first | (rw [hfin]; done) | (rw [hfin]; omega))) rfl (fun _ => trivial)
   have hno : ¬ at_ s t8.toNat = v := fun q => h2 q.symm
   refine Zbx [(5, .dec false)] [0, 1, 5, 7, 8, 16] [] [slS false s, Sv v, I t8, I (s.length : Int), I t8, Bv false] [] [(0 : Int) ≤ t8 ∧ t8 < (s.length : Int), ¬ (v = (at_ s t8.toNat))] hB ⟨⟨(by omega), (by omega)⟩, h2, trivial⟩ ?_
   refine Zac ?_
   refine Zay rfl ?_
   refine Zbf ?_
   refine Zcm 1 ?_
   refine Zac ?_
   refine Zbx [] [0, 1, 7, 8] [] [slS false s, Sv v, I (s.length : Int), I (t8 + 1)] [] [inR .i64 (t8 + 1)] hB ⟨(Zam (by omega) (by omega)), trivial⟩ ?_
   exact Zcp _ (by omega) ⟨(t8 + 1), rfl, (by omega), (by intro j hj; by_cases ej : j = t8.toNat; (subst ej; exact hno); exact hne j (by omega)), rfl⟩
  have hfin : Zaw s v = -1 := Zel (fun j hj => decide_eq_false (hne j (by omega)))
  refine Zbx [(0, .dec false)] [0, 1, 7, 8, 9] [] [slS false s, Sv v, I (s.length : Int), I t8, Bv false] [] [¬ (t8 < (s.length : Int))] hB ⟨h1, trivial⟩ ?_
  refine Zac ?_
  refine Zal ?_
  refine Zay rfl ?_
  refine Zdl ?_
  refine Zas ?_
  refine Zas ?_
  refine Zbw ?_
  refine Zac ?_
  refine aR [] [4] [] [I (-1)] [] [] hB trivial ?_
  refine Zax ?_
  refine Zba hB (I (-1)) (by kernel_rfl) (.inl (by refine congrArg I ?_; first | (rw [hfin]; done) | (rw [hfin]; omega))) rfl (fun _ => trivial)
-- slices.Contains[[]string,string]
theorem Zpp (s : List ByteArray) (v : ByteArray) : Con Tryz.prog 91 [slS false s, Sv v] true (Bv (decide (0 ≤ Zaw s v))) := by
  refine Zdb (fn := Tryz.f91) (nt := 9) Tryz.func91 rfl rfl rfl rfl (by simp [Zah, Zak, Zep]) fun B hB => ?_
  refine Zce (x := slS false s) 0 rfl (fun len_s => ?_)
  simp [Zdr, Zgi, cS, fS, slS] at len_s
  refine aR [] [0, 1] [] [slS false s, Sv v] [] [] hB trivial ?_
  refine aR [(2, .call [(true, .any), (true, .any)] true (I (Zaw s v)))] [4] [] [Bv (decide (0 ≤ (Zaw s v)))] [] [Con Tryz.prog 112 [slS false s, Sv v] true (I (Zaw s v)) ∧ True] hB ⟨⟨(Zuf s v), trivial⟩, trivial⟩ ?_
  refine Zax ?_
  refine Zba hB (Bv (decide (0 ≤ (Zaw s v)))) (by kernel_rfl) (.inl (by rfl)) rfl (fun _ => trivial)
-- impl.trainable$2
theorem Zlb (s : Sample) (p : Perceptron) : Con Tryz.prog 90 [Zcx s, .ptr false [slS false p.Labels, Zbg false p.Weights]] true (Bv (!(decide (0 ≤ Zaw p.Labels s.Label)))) := by
  refine Zdb (fn := Tryz.f90) (nt := 10) Tryz.func90 rfl rfl rfl rfl (by simp [Zah, Zak, Zed, Zdc, Zep]) fun B hB => ?_
  refine Zce (x := Zcx s) 0 rfl (fun len_s => ?_)
  simp [Zdr, Zgi, Zhb, Zdp, Zau] at len_s
  refine Zce (x := .ptr false [slS false p.Labels, Zbg false p.Weights]) 1 rfl (fun len_p => ?_)
  simp [Zdr, Zgi, cI, cLI, cS, fI, fLI, fS, slI, Zbg, slS] at len_p
  refine aR [(0, .new 2)] [1, 2] [2] [.ptr false [slS false p.Labels, Zbg false p.Weights], .ref 2 0] [some (Zfo s)] [] hB trivial ?_
  refine aR [(4, .call [(true, .any), (true, .any)] true (Bv (decide (0 ≤ Zaw p.Labels s.Label))))] [3] [] [Bv (!((decide (0 ≤ Zaw p.Labels s.Label))))] [] [Con Tryz.prog 91 [slS false p.Labels, Sv s.Label] true (Bv (decide (0 ≤ Zaw p.Labels s.Label))) ∧ True] hB ⟨⟨(Zpp p.Labels s.Label), trivial⟩, trivial⟩ ?_
  refine Zax ?_
  refine Zba hB (Bv (!((decide (0 ≤ Zaw p.Labels s.Label))))) (by kernel_rfl) (.inl (by first | rfl | (refine congrArg Bv ?_; simp [*]; done) | (refine congrArg Bv ?_; simp [*]; omega) | (refine congrArg Bv ?_; simp_all []; done) | (refine congrArg Bv ?_; simp_all []; omega))) rfl (fun _ => trivial)
-- impl.trainable
theorem Zly (s : List Sample) (hel : ∀ j, j < s.length → (at_ s j).Label.size ≤ 9223372036854775807) : Con Tryz.prog 111 [Zaj false s, .fn 88 []] true (I (Zcl s.length (fun j => (!(okS (at_ s j)))))) := by
  refine Zdb (fn := Tryz.f111) (nt := 19) Tryz.func111 rfl rfl rfl rfl (by simp [Zah, Zak, Zdo]) fun B hB => ?_
  refine Zce (x := Zaj false s) 0 rfl (fun len_s => ?_)
  simp [Zdr, Zgi, Zhb, Zea, Zdp, Zco, Zau, Zaj] at len_s
  refine aR [] [0, 1] [] [Zaj false s, .fn 88 []] [] [] hB trivial ?_
  refine Zal ?_
  refine aR [] [0, 1, 7, 8] [] [Zaj false s, .fn 88 [], I (s.length : Int), I 0] [] [] hB trivial ?_
  refine Zbn ?_
  refine Zdk (fun gn gσ => ∃ (t8 : Int), gn = ((s.length : Int) - t8).toNat ∧ (0 ≤ t8 ∧ t8 ≤ (s.length : Int)) ∧ (∀ j : Nat, (j : Int) < t8 → (!(okS (at_ s j))) = false) ∧ gσ = mkS [(0, Zaj false s), (1, .fn 88 []), (7, I (s.length : Int)), (8, I t8)] []) (((s.length : Int) - 0).toNat) ⟨0, rfl, (by omega), (by intro j hj; omega), rfl⟩ (fun gn gσ hI => ?_)
  obtain ⟨t8, rfl, hi0, hall0, rfl⟩ := hI
  refine Zal ?_
  by_cases h1 : t8 < (s.length : Int)
  ·have hi : t8.toNat < s.length := by omega
   refine Zbx [(0, .dec true)] [0, 1, 7, 8, 9] [] [Zaj false s, .fn 88 [], I (s.length : Int), I t8, Bv true] [] [t8 < (s.length : Int)] hB ⟨h1, trivial⟩ ?_
   refine Zac ?_
   refine Zal ?_
   refine Zbc rfl ?_
   refine Zbf ?_
   refine Zac ?_
   refine Zal ?_
   refine Zbn ?_
   refine aR [] [0, 1, 5, 7, 8] [] [Zaj false s, .fn 88 [], I t8, I (s.length : Int), I t8] [] [] hB trivial ?_
   refine Zal ?_
   rcases Bool.eq_false_or_eq_true (!(okS (at_ s t8.toNat))) with h2 | h2
   ·have hfin : Zcl s.length (fun j => (!(okS (at_ s j)))) = t8.toNat := Zev hi h2 (fun j hj => hall0 j (by omega))
    refine Zbx [(5, .call [(true, .any)] true (Bv true))] [0, 1, 5, 7, 8, 16] [] [Zaj false s, .fn 88 [], I t8, I (s.length : Int), I t8, Bv true] [] [(0 : Int) ≤ t8 ∧ t8 < (s.length : Int), Con Tryz.prog 88 [Zcx (at_ s t8.toNat)] true (Bv true) ∧ True] hB ⟨⟨(by omega), (by omega)⟩, ⟨(Zaq h2 (Zla (at_ s t8.toNat) (hel _ hi))), trivial⟩, trivial⟩ ?_
    refine Zac ?_
    refine Zbc rfl ?_
    refine aR [] [4] [] [I t8] [] [] hB trivial ?_
    refine Zax ?_
    refine Zat (Zai (Zai (Zat (Zai ?_))))
    refine Zba hB (I t8) (by kernel_rfl) (.inl (by refine congrArg I ?_; first | (rw [hfin]; done) | (rw [hfin]; omega))) rfl (fun _ => trivial)
   refine Zbx [(5, .call [(true, .any)] true (Bv false))] [0, 1, 5, 7, 8, 16] [] [Zaj false s, .fn 88 [], I t8, I (s.length : Int), I t8, Bv false] [] [(0 : Int) ≤ t8 ∧ t8 < (s.length : Int), Con Tryz.prog 88 [Zcx (at_ s t8.toNat)] true (Bv false) ∧ True] hB ⟨⟨(by omega), (by omega)⟩, ⟨(Zaq h2 (Zla (at_ s t8.toNat) (hel _ hi))), trivial⟩, trivial⟩ ?_
   refine Zac ?_
   refine Zay rfl ?_
   refine Zbf ?_
   refine Zcm 1 ?_
   refine Zac ?_
   refine Zbx [] [0, 1, 7, 8] [] [Zaj false s, .fn 88 [], I (s.length : Int), I (t8 + 1)] [] [inR .i64 (t8 + 1)] hB ⟨(Zam (by omega) (by omega)), trivial⟩ ?_
   exact Zcp _ (by omega) ⟨(t8 + 1), rfl, (by omega), (by intro j hj; by_cases ej : j = t8.toNat; (subst ej; first | assumption | rfl); exact hall0 j (by omega)), rfl⟩
  have hfin : Zcl s.length (fun j => (!(okS (at_ s j)))) = -1 := Zel (fun j hj => hall0 j (by omega))
  refine Zbx [(0, .dec false)] [0, 1, 7, 8, 9] [] [Zaj false s, .fn 88 [], I (s.length : Int), I t8, Bv false] [] [¬ (t8 < (s.length : Int))] hB ⟨h1, trivial⟩ ?_
  refine Zac ?_
  refine Zal ?_
  refine Zay rfl ?_
  refine Zdl ?_
  refine Zas ?_
  refine Zas ?_
  refine Zbw ?_
  refine Zac ?_
  refine aR [] [4] [] [I (-1)] [] [] hB trivial ?_
  refine Zax ?_
  refine Zba hB (I (-1)) (by kernel_rfl) (.inl (by refine congrArg I ?_; first | (rw [hfin]; done) | (rw [hfin]; omega))) rfl (fun _ => trivial)
theorem Zlc (s : List Sample) (hel : ∀ j, j < s.length → (at_ s j).Label.size ≤ 9223372036854775807) : Con Tryz.prog 87 [Zaj false s, .fn 88 []] true (Bv (Zkh s.length (fun j => (!(okS (at_ s j)))))) := by
  refine Zdb (fn := Tryz.f87) (nt := 9) Tryz.func87 rfl rfl rfl rfl (by simp [Zah, Zak, Zdo]) fun B hB => ?_
  refine Zce (x := Zaj false s) 0 rfl (fun len_s => ?_)
  simp [Zdr, Zgi, Zhb, Zea, Zdp, Zco, Zau, Zaj] at len_s
  refine aR [] [0, 1] [] [Zaj false s, .fn 88 []] [] [] hB trivial ?_
  refine aR [(2, .call [(true, .any), (true, .any)] true (I (Zcl s.length (fun j => (!(okS (at_ s j)))))))] [4] [] [Bv (decide (0 ≤ (Zcl s.length (fun j => (!(okS (at_ s j)))))))] [] [Con Tryz.prog 111 [Zaj false s, .fn 88 []] true (I (Zcl s.length (fun j => (!(okS (at_ s j)))))) ∧ True] hB ⟨⟨(Zly s hel), trivial⟩, trivial⟩ ?_
  refine Zax ?_
  refine Zba hB (Bv (decide (0 ≤ (Zcl s.length (fun j => (!(okS (at_ s j)))))))) (by kernel_rfl) (.inl (by exact congrArg Bv (Zht _ _))) rfl (fun _ => trivial)
theorem Zlz (s : List Sample) (p : Perceptron) : Con Tryz.prog 111 [Zaj false s, .fn 90 [.ptr false [slS false p.Labels, Zbg false p.Weights]]] true (I (Zcl s.length (fun j => (!(decide (0 ≤ Zaw p.Labels (at_ s j).Label)))))) := by
  refine Zdb (fn := Tryz.f111) (nt := 19) Tryz.func111 rfl rfl rfl rfl (by simp [Zah, Zak, Zdc, Zep, Zdo]) fun B hB => ?_
  refine Zce (x := Zaj false s) 0 rfl (fun len_s => ?_)
  simp [Zdr, Zgi, Zhb, Zea, Zdp, Zco, Zau, Zaj] at len_s
  refine aR [] [0, 1] [] [Zaj false s, .fn 90 [.ptr false [slS false p.Labels, Zbg false p.Weights]]] [] [] hB trivial ?_
  refine Zal ?_
  refine aR [] [0, 1, 7, 8] [] [Zaj false s, .fn 90 [.ptr false [slS false p.Labels, Zbg false p.Weights]], I (s.length : Int), I 0] [] [] hB trivial ?_
  refine Zbn ?_
  refine Zdk (fun gn gσ => ∃ (t8 : Int), gn = ((s.length : Int) - t8).toNat ∧ (0 ≤ t8 ∧ t8 ≤ (s.length : Int)) ∧ (∀ j : Nat, (j : Int) < t8 → (!(decide (0 ≤ Zaw p.Labels (at_ s j).Label))) = false) ∧ gσ = mkS [(0, Zaj false s), (1, .fn 90 [.ptr false [slS false p.Labels, Zbg false p.Weights]]), (7, I (s.length : Int)), (8, I t8)] []) (((s.length : Int) - 0).toNat) ⟨0, rfl, (by omega), (by intro j hj; omega), rfl⟩ (fun gn gσ hI => ?_)
  obtain ⟨t8, rfl, hi0, hall0, rfl⟩ := hI
  refine Zal ?_
  by_cases h1 : t8 < (s.length : Int)
  ·have hi : t8.toNat < s.length := by omega
   refine Zbx [(0, .dec true)] [0, 1, 7, 8, 9] [] [Zaj false s, .fn 90 [.ptr false [slS false p.Labels, Zbg false p.Weights]], I (s.length : Int), I t8, Bv true] [] [t8 < (s.length : Int)] hB ⟨h1, trivial⟩ ?_
   refine Zac ?_
   refine Zal ?_
   refine Zbc rfl ?_
   refine Zbf ?_
   refine Zac ?_
   refine Zal ?_
   refine Zbn ?_
   refine aR [] [0, 1, 5, 7, 8] [] [Zaj false s, .fn 90 [.ptr false [slS false p.Labels, Zbg false p.Weights]], I t8, I (s.length : Int), I t8] [] [] hB trivial ?_
   refine Zal ?_
   rcases Bool.eq_false_or_eq_true (!(decide (0 ≤ Zaw p.Labels (at_ s t8.toNat).Label))) with h2 | h2
   ·have hfin : Zcl s.length (fun j => (!(decide (0 ≤ Zaw p.Labels (at_ s j).Label)))) = t8.toNat := Zev hi h2 (fun j hj => hall0 j (by omega))
    refine Zbx [(5, .call [(true, .any), (true, .any)] true (Bv true))] [0, 1, 5, 7, 8, 16] [] [Zaj false s, .fn 90 [.ptr false [slS false p.Labels, Zbg false p.Weights]], I t8, I (s.length : Int), I t8, Bv true] [] [(0 : Int) ≤ t8 ∧ t8 < (s.length : Int), Con Tryz.prog 90 [Zcx (at_ s t8.toNat), .ptr false [slS false p.Labels, Zbg false p.Weights]] true (Bv true) ∧ True] hB ⟨⟨(by omega), (by omega)⟩, ⟨(Zaq h2 (Zlb (at_ s t8.toNat) p)), trivial⟩, trivial⟩ ?_
    refine Zac ?_
    refine Zbc rfl ?_
    refine aR [] [4] [] [I t8] [] [] hB trivial ?_
    refine Zax ?_
    refine Zat (Zai (Zai (Zat (Zai ?_))))
    refine Zba hB (I t8) (by kernel_rfl) (.inl (by refine congrArg I ?_; first | (rw [hfin]; done) | (rw [hfin]; omega))) rfl (fun _ => trivial)
   refine Zbx [(5, .call [(true, .any), (true, .any)] true (Bv false))] [0, 1, 5, 7, 8, 16] [] [Zaj false s, .fn 90 [.ptr false [slS false p.Labels, Zbg false p.Weights]], I t8, I (s.length : Int), I t8, Bv false] [] [(0 : Int) ≤ t8 ∧ t8 < (s.length : Int), Con Tryz.prog 90 [Zcx (at_ s t8.toNat), .ptr false [slS false p.Labels, Zbg false p.Weights]] true (Bv false) ∧ True] hB ⟨⟨(by omega), (by omega)⟩, ⟨(Zaq h2 (Zlb (at_ s t8.toNat) p)), trivial⟩, trivial⟩ ?_
   refine Zac ?_
   refine Zay rfl ?_
   refine Zbf ?_
   refine Zcm 1 ?_
   refine Zac ?_
   refine Zbx [] [0, 1, 7, 8] [] [Zaj false s, .fn 90 [.ptr false [slS false p.Labels, Zbg false p.Weights]], I (s.length : Int), I (t8 + 1)] [] [inR .i64 (t8 + 1)] hB ⟨(Zam (by omega) (by omega)), trivial⟩ ?_
   exact Zcp _ (by omega) ⟨(t8 + 1), rfl, (by omega), (by intro j hj; by_cases ej : j = t8.toNat; (subst ej; first | assumption | rfl); exact hall0 j (by omega)), rfl⟩
  have hfin : Zcl s.length (fun j => (!(decide (0 ≤ Zaw p.Labels (at_ s j).Label)))) = -1 := Zel (fun j hj => hall0 j (by omega))
  refine Zbx [(0, .dec false)] [0, 1, 7, 8, 9] [] [Zaj false s, .fn 90 [.ptr false [slS false p.Labels, Zbg false p.Weights]], I (s.length : Int), I t8, Bv false] [] [¬ (t8 < (s.length : Int))] hB ⟨h1, trivial⟩ ?_
  refine Zac ?_
  refine Zal ?_
  refine Zay rfl ?_
  refine Zdl ?_
  refine Zas ?_
  refine Zas ?_
  refine Zbw ?_
  refine Zac ?_
  refine aR [] [4] [] [I (-1)] [] [] hB trivial ?_
  refine Zax ?_
  refine Zba hB (I (-1)) (by kernel_rfl) (.inl (by refine congrArg I ?_; first | (rw [hfin]; done) | (rw [hfin]; omega))) rfl (fun _ => trivial)
theorem Zld (s : List Sample) (p : Perceptron) : Con Tryz.prog 87 [Zaj false s, .fn 90 [.ptr false [slS false p.Labels, Zbg false p.Weights]]] true (Bv (Zkh s.length (fun j => (!(decide (0 ≤ Zaw p.Labels (at_ s j).Label)))))) := by
  refine Zdb (fn := Tryz.f87) (nt := 9) Tryz.func87 rfl rfl rfl rfl (by simp [Zah, Zak, Zdc, Zep, Zdo]) fun B hB => ?_
  refine Zce (x := Zaj false s) 0 rfl (fun len_s => ?_)
  simp [Zdr, Zgi, Zhb, Zea, Zdp, Zco, Zau, Zaj] at len_s
  refine aR [] [0, 1] [] [Zaj false s, .fn 90 [.ptr false [slS false p.Labels, Zbg false p.Weights]]] [] [] hB trivial ?_
  refine aR [(2, .call [(true, .any), (true, .any)] true (I (Zcl s.length (fun j => (!(decide (0 ≤ Zaw p.Labels (at_ s j).Label)))))))] [4] [] [Bv (decide (0 ≤ (Zcl s.length (fun j => (!(decide (0 ≤ Zaw p.Labels (at_ s j).Label)))))))] [] [Con Tryz.prog 111 [Zaj false s, .fn 90 [.ptr false [slS false p.Labels, Zbg false p.Weights]]] true (I (Zcl s.length (fun j => (!(decide (0 ≤ Zaw p.Labels (at_ s j).Label)))))) ∧ True] hB ⟨⟨(Zlz s p), trivial⟩, trivial⟩ ?_
  refine Zax ?_
  refine Zba hB (Bv (decide (0 ≤ (Zcl s.length (fun j => (!(decide (0 ≤ Zaw p.Labels (at_ s j).Label)))))))) (by kernel_rfl) (.inl (by exact congrArg Bv (Zht _ _))) rfl (fun _ => trivial)
theorem Zug (p : Perceptron) (list : List Sample) (ok : ∀ y ∈ p.Labels, y.size ≤ 9223372036854775807) (ok2 : ∀ y ∈ list, y.Label.size ≤ 9223372036854775807) : Con Tryz.prog 51 [Zae p, Zaj false list] true (I (cdR p list)) := by
  refine Zdb (fn := Tryz.f51) (nt := 18) Tryz.func51 rfl rfl rfl rfl (by simp [Zah, Zak, Zdc, Zep, Zdo]) fun B hB => ?_
  refine Zce (x := Zae p) 0 rfl (fun len_p => ?_)
  simp [Zdr, Zgi, cI, cLI, cS, fI, fLI, fS, slI, Zbg, slS] at len_p
  refine Zce (x := Zaj false list) 1 rfl (fun len_list => ?_)
  simp [Zdr, Zgi, Zhb, Zea, Zdp, Zco, Zau, Zaj] at len_list
  refine aR [(0, .new 2)] [1, 2] [2] [Zaj false list, .ref 2 0] [some (Zag p)] [] hB trivial ?_
  refine Zal ?_
  refine Zal ?_
  rcases Bool.eq_false_or_eq_true (Zbb p) with h1 | h1
  ·have hpk := h1
   rcases Bool.eq_false_or_eq_true (Zkh list.length (fun j => (!(okS (at_ list j))))) with h2 | h2
   ·have hal : Zik list.length (fun j => okS (at_ list j)) = false := by have e : Zkh list.length (fun j => !(okS (at_ list j))) = !(Zik list.length (fun j => okS (at_ list j))) := Zdm _ _; rw [e] at h2; simpa using h2
    have hst := cd_b hpk hal
    refine Zbx [(1, .call [(true, .any)] true (Bv true)), (5, .call [(true, .any), (true, .any)] true (Bv true))] [1, 2, 11] [2] [Zaj false list, .ref 2 0, Bv true] [some (Zag p)] [Con Tryz.prog 14 [Zae p] true (Bv true) ∧ True, Con Tryz.prog 87 [Zaj false list, .fn 88 []] true (Bv true) ∧ True] hB ⟨⟨(Zaq h1 (Zbk p ok)), trivial⟩, ⟨(Zaq h2 (Zlc list (fun j hj => ok2 _ (Zcs hj)))), trivial⟩, trivial⟩ ?_
    refine Zac ?_
    refine Zbc rfl ?_
    refine aR [] [4] [] [I 1] [] [] hB trivial ?_
    refine Zax ?_
    refine Zai ?_
    refine Zba hB (I 1) (by kernel_rfl) (.inl (by exact congrArg I hst.symm)) rfl (fun _ => trivial)
   have hal : Zik list.length (fun j => okS (at_ list j)) = true := by have e : Zkh list.length (fun j => !(okS (at_ list j))) = !(Zik list.length (fun j => okS (at_ list j))) := Zdm _ _; rw [e] at h2; simpa using h2
   refine Zbx [(1, .call [(true, .any)] true (Bv true)), (5, .call [(true, .any), (true, .any)] true (Bv false))] [1, 2, 11] [2] [Zaj false list, .ref 2 0, Bv false] [some (Zag p)] [Con Tryz.prog 14 [Zae p] true (Bv true) ∧ True, Con Tryz.prog 87 [Zaj false list, .fn 88 []] true (Bv false) ∧ True] hB ⟨⟨(Zaq h1 (Zbk p ok)), trivial⟩, ⟨(Zaq h2 (Zlc list (fun j hj => ok2 _ (Zcs hj)))), trivial⟩, trivial⟩ ?_
   refine Zac ?_
   refine Zay rfl ?_
   refine Zbf ?_
   refine Zac ?_
   refine Zal ?_
   refine Zal ?_
   rcases Bool.eq_false_or_eq_true (Zkh list.length (fun j => (!(decide (0 ≤ Zaw p.Labels (at_ list j).Label))))) with h3 | h3
   ·have hal2 : Zik list.length (fun j => decide (0 ≤ Zaw p.Labels (at_ list j).Label)) = false := by have e : Zkh list.length (fun j => !(decide (0 ≤ Zaw p.Labels (at_ list j).Label))) = !(Zik list.length (fun j => decide (0 ≤ Zaw p.Labels (at_ list j).Label))) := Zdm _ _; rw [e] at h3; simpa using h3
    have hst := cd_c hpk hal hal2
    refine Zbx [(2, .call [(true, .any), (false, .fn 90 [.ptr false [slS false p.Labels, Zbg false p.Weights]])] true (Bv true))] [1, 14] [] [Zaj false list, Bv true] [] [Con Tryz.prog 87 [Zaj false list, .fn 90 [.ptr false [slS false p.Labels, Zbg false p.Weights]]] true (Bv true) ∧ (90 = 90 ∧ ((false = true → true = true) ∧ AV.idsL [slS false p.Labels, Zbg false p.Weights] = [] ∧ ((false = true → false = true) ∧ 1 = 1 ∧ p.Labels.length = p.Labels.length ∧ ∀ i_, i_ < p.Labels.length → (fS p.Labels) i_ = (fS p.Labels) i_ ∨ (AV.idsL ((fS p.Labels) i_) = [] ∧ leL (fun _ => none) false ((fS p.Labels) i_) ((fS p.Labels) i_))) ∧ ((false = true → false = true) ∧ 1 = 1 ∧ p.Weights.length = p.Weights.length ∧ ∀ i_, i_ < p.Weights.length → (fLI false p.Weights) i_ = (fLI false p.Weights) i_ ∨ (AV.idsL ((fLI false p.Weights) i_) = [] ∧ leL (fun _ => none) false ((fLI false p.Weights) i_) ((fLI false p.Weights) i_))) ∧ ([] : List AV) = []) ∧ ([] : List AV) = []) ∧ True] hB ⟨⟨(Zaq h3 (Zld list p)), ⟨rfl, ⟨⟨(fun h => by cases h), rfl, ⟨⟨(fun h => by cases h), rfl, rfl, fun i _ => .inl rfl⟩, ⟨⟨(fun h => by cases h), rfl, rfl, fun i _ => .inl rfl⟩, rfl⟩⟩⟩, rfl⟩⟩, trivial⟩, trivial⟩ ?_
    refine Zac ?_
    refine Zbc rfl ?_
    refine aR [] [4] [] [I 3] [] [] hB trivial ?_
    refine Zax ?_
    refine Zai ?_
    refine Zba hB (I 3) (by kernel_rfl) (.inl (by exact congrArg I hst.symm)) rfl (fun _ => trivial)
   have hal2 : Zik list.length (fun j => decide (0 ≤ Zaw p.Labels (at_ list j).Label)) = true := by have e : Zkh list.length (fun j => !(decide (0 ≤ Zaw p.Labels (at_ list j).Label))) = !(Zik list.length (fun j => decide (0 ≤ Zaw p.Labels (at_ list j).Label))) := Zdm _ _; rw [e] at h3; simpa using h3
   refine Zbx [(2, .call [(true, .any), (false, .fn 90 [.ptr false [slS false p.Labels, Zbg false p.Weights]])] true (Bv false))] [1, 14] [] [Zaj false list, Bv false] [] [Con Tryz.prog 87 [Zaj false list, .fn 90 [.ptr false [slS false p.Labels, Zbg false p.Weights]]] true (Bv false) ∧ (90 = 90 ∧ ((false = true → true = true) ∧ AV.idsL [slS false p.Labels, Zbg false p.Weights] = [] ∧ ((false = true → false = true) ∧ 1 = 1 ∧ p.Labels.length = p.Labels.length ∧ ∀ i_, i_ < p.Labels.length → (fS p.Labels) i_ = (fS p.Labels) i_ ∨ (AV.idsL ((fS p.Labels) i_) = [] ∧ leL (fun _ => none) false ((fS p.Labels) i_) ((fS p.Labels) i_))) ∧ ((false = true → false = true) ∧ 1 = 1 ∧ p.Weights.length = p.Weights.length ∧ ∀ i_, i_ < p.Weights.length → (fLI false p.Weights) i_ = (fLI false p.Weights) i_ ∨ (AV.idsL ((fLI false p.Weights) i_) = [] ∧ leL (fun _ => none) false ((fLI false p.Weights) i_) ((fLI false p.Weights) i_))) ∧ ([] : List AV) = []) ∧ ([] : List AV) = []) ∧ True] hB ⟨⟨(Zaq h3 (Zld list p)), ⟨rfl, ⟨⟨(fun h => by cases h), rfl, ⟨⟨(fun h => by cases h), rfl, rfl, fun i _ => .inl rfl⟩, ⟨⟨(fun h => by cases h), rfl, rfl, fun i _ => .inl rfl⟩, rfl⟩⟩⟩, rfl⟩⟩, trivial⟩, trivial⟩ ?_
   refine Zac ?_
   refine Zay rfl ?_
   refine Zbf ?_
   refine Zac ?_
   refine Zal ?_
   refine Zal ?_
   by_cases h4 : 40 < (list.length : Int)
   ·have hst := cd_d hpk hal hal2 h4
    refine Zbx [(2, .dec true)] [17] [] [Bv true] [] [40 < (list.length : Int)] hB ⟨h4, trivial⟩ ?_
    refine Zac ?_
    refine Zbc rfl ?_
    refine aR [] [4] [] [I 2] [] [] hB trivial ?_
    refine Zax ?_
    refine Zai ?_
    refine Zba hB (I 2) (by kernel_rfl) (.inl (by exact congrArg I hst.symm)) rfl (fun _ => trivial)
   have hst := cd_e hpk hal hal2 h4
   refine Zbx [(2, .dec false)] [17] [] [Bv false] [] [¬ (40 < (list.length : Int))] hB ⟨h4, trivial⟩ ?_
   refine Zac ?_
   refine Zay rfl ?_
   refine Zbf ?_
   refine Zac ?_
   refine aR [] [4] [] [I 0] [] [] hB trivial ?_
   refine Zax ?_
   refine Zba hB (I 0) (by kernel_rfl) (.inl (by exact congrArg I hst.symm)) rfl (fun _ => trivial)
  have hst := cd_a (list := list) h1
  refine Zbx [(1, .call [(true, .any)] true (Bv false))] [1, 2, 11] [2] [Zaj false list, .ref 2 0, Bv true] [some (Zag p)] [Con Tryz.prog 14 [Zae p] true (Bv false) ∧ True] hB ⟨⟨(Zaq h1 (Zbk p ok)), trivial⟩, trivial⟩ ?_
  refine Zac ?_
  refine Zbc rfl ?_
  refine aR [] [4] [] [I 1] [] [] hB trivial ?_
  refine Zax ?_
  refine Zai ?_
  refine Zba hB (I 1) (by kernel_rfl) (.inl (by exact congrArg I hst.symm)) rfl (fun _ => trivial)
-- slices.Clone[[]string,string]
theorem Yda (s : List ByteArray) (hl : s.length ≤ 100000) : ∃ (out : List ByteArray), (out = s) ∧ Zaz Tryz.prog 92 [slS false s] (Zaf []) false (.arr 8511) (Zaf [(8511, .arr 1 out.length (fS out))]) := by
  refine ⟨s, rfl, ?_⟩
  refine Zxa [] [(8511, .arr 1 s.length (fS s))] (fn := Tryz.f92) (nt := 8) Tryz.func92 rfl rfl (args := [slS false s]) rfl (Zbv (.inl ⟨rfl, Zep false _⟩) Zda) (res := .arr 8511) (fun B hB => ?_)
  refine Zal ?_
  refine Zip [] [0] [] [slS false s] [] [] (by kernel_rfl) hB trivial ?_
  refine Zac ?_
  refine Zal ?_
  refine Zal ?_
  refine Zip [] [0, 4] [] [slS false s, .nilq s.length] [] [] (by kernel_rfl) hB trivial ?_
  refine Zac ?_
  refine Yah (n := s.length) rfl (fun h1 => ?_) ?_
  · refine Zal ?_
    refine Zip [] [2] [] [Zao] [] [] (by kernel_rfl) hB trivial ?_
    refine Zac ?_
    refine Zax ?_
    refine Zai ?_
    refine ae_nil hB 2 8511 1 (fun _ => []) (by kernel_rfl) ?_
    refine Zfb hB [] (T := [(2, .arr 8511)]) (O := [(8511, .arr 1 s.length (fS s))]) rfl (⟨.inl rfl, trivial⟩) (⟨.inr ⟨rfl, (by omega), fun i_ hi_ => absurd hi_ (by omega)⟩, trivial⟩) ?_
    refine Zlm hB [(8511, .arr 1 s.length (fS s))] (⟨.inl rfl, trivial⟩) (.arr 8511) (by kernel_rfl) (.inl rfl) (fun h => by cases h) (fun h => by cases h)
  · refine Zbf ?_
    refine Zac ?_
    refine Zal ?_
    refine Zip [(0, .new 5), (2, .new 7)] [2] [7] [.arr 7] [some (.arr 1 (0 + s.length) (Zde 0 (Zcv [] 1) (fS s)))] [(0 + s.length) * 16 ≤ 140737488355328] (by kernel_rfl) hB ⟨(by omega), trivial⟩ ?_
    refine Zac ?_
    refine Zax ?_
    refine Zfb hB [(8511, 7)] (T := [(2, .arr 8511)]) (O := [(8511, .arr 1 s.length (fS s))]) rfl (⟨.inl rfl, trivial⟩) (⟨.inr ⟨rfl, (by simp), fun i_ hi_ => .inl (Znm i_)⟩, trivial⟩) ?_
    refine Zlm hB [(8511, .arr 1 s.length (fS s))] (⟨.inl rfl, trivial⟩) (.arr 8511) (by kernel_rfl) (.inl rfl) (fun h => by cases h) (fun h => by cases h)
-- slices.Clone[[]int64,int64]
theorem Zud (s : List Int) (hl : s.length ≤ 100000) : ∃ (out : List Int), (out = s) ∧ Zaz Tryz.prog 44 [slI false s] (Zaf []) false (.arr 8211) (Zaf [(8211, .arr 1 out.length (fI out))]) := by
  refine ⟨s, rfl, ?_⟩
  refine Zxa [] [(8211, .arr 1 s.length (fI s))] (fn := Tryz.f44) (nt := 8) Tryz.func44 rfl rfl (args := [slI false s]) rfl (Zbv (.inl ⟨rfl, Zpa false _⟩) Zda) (res := .arr 8211) (fun B hB => ?_)
  refine Zal ?_
  refine Zip [] [0] [] [slI false s] [] [] (by kernel_rfl) hB trivial ?_
  refine Zac ?_
  refine Zal ?_
  refine Zal ?_
  refine Zip [] [0, 4] [] [slI false s, .nilq s.length] [] [] (by kernel_rfl) hB trivial ?_
  refine Zac ?_
  refine Yah (n := s.length) rfl (fun h1 => ?_) ?_
  · refine Zal ?_
    refine Zip [] [2] [] [Zao] [] [] (by kernel_rfl) hB trivial ?_
    refine Zac ?_
    refine Zax ?_
    refine Zai ?_
    refine ae_nil hB 2 8211 1 (fun _ => []) (by kernel_rfl) ?_
    refine Zfb hB [] (T := [(2, .arr 8211)]) (O := [(8211, .arr 1 s.length (fI s))]) rfl (⟨.inl rfl, trivial⟩) (⟨.inr ⟨rfl, (by omega), fun i_ hi_ => absurd hi_ (by omega)⟩, trivial⟩) ?_
    refine Zlm hB [(8211, .arr 1 s.length (fI s))] (⟨.inl rfl, trivial⟩) (.arr 8211) (by kernel_rfl) (.inl rfl) (fun h => by cases h) (fun h => by cases h)
  · refine Zbf ?_
    refine Zac ?_
    refine Zal ?_
    refine Zip [(0, .new 5), (2, .new 7)] [2] [7] [.arr 7] [some (.arr 1 (0 + s.length) (Zde 0 (Zcv [] 1) (fI s)))] [(0 + s.length) * 8 ≤ 140737488355328] (by kernel_rfl) hB ⟨(by omega), trivial⟩ ?_
    refine Zac ?_
    refine Zax ?_
    refine Zfb hB [(8211, 7)] (T := [(2, .arr 8211)]) (O := [(8211, .arr 1 s.length (fI s))]) rfl (⟨.inl rfl, trivial⟩) (⟨.inr ⟨rfl, (by simp), fun i_ hi_ => .inl (Znm i_)⟩, trivial⟩) ?_
    refine Zlm hB [(8211, .arr 1 s.length (fI s))] (⟨.inl rfl, trivial⟩) (.arr 8211) (by kernel_rfl) (.inl rfl) (fun h => by cases h) (fun h => by cases h)
-- impl.copyPerceptron
theorem Zma (p : Perceptron) (hb : (p.Labels.length ≤ 100 ∧ p.Weights.length ≤ 100) ∧ ∀ j, j < p.Weights.length → (at_ p.Weights j).length ≤ 100) : ∃ (ls : List ByteArray) (ws : List (List Int)), (ls = p.Labels) ∧ (ws = p.Weights) ∧ Zaz Tryz.prog 52 [Zae p] (Zaf []) false (.agg [.arr 9251, .arr 9252]) (Zaf [(9251, tAS ls), (9203, Zbl ws), (9252, Zbu 9203 ws)]) := by
  have hh : ∃ r : (List ByteArray) × (List (List Int)), ((r.1 = p.Labels) ∧ (r.2 = p.Weights) ∧ (True)) ∧ Zaz Tryz.prog 52 [Zae p] (Zaf []) false (.agg [.arr 9251, .arr 9252]) (Zaf [(9251, tAS r.1), (9203, Zbl r.2), (9252, Zbu 9203 r.2)]) := by
    refine Zdd (Φ := fun r : (List ByteArray) × (List (List Int)) => (r.1 = p.Labels) ∧ (r.2 = p.Weights) ∧ (True)) [] (fun r => [(9251, tAS r.1), (9203, Zbl r.2), (9252, Zbu 9203 r.2)]) (fn := Tryz.f52) (nt := 26) Tryz.func52 rfl rfl (args := [Zae p]) rfl (Zbv (.inl ⟨rfl, by simp [Zak, Zah, Zdc, Zep]⟩) Zda) (res := fun r => .agg [.arr 9251, .arr 9252]) ?_
    refine xR [(0, .new 1), (1, .new 2)] [1, 2] [1, 2] [.ref 1 0, .ref 2 0] [some (Zag p), some (.box [Zao, Zao])] [] trivial ?_
    refine Zap ?_
    obtain ⟨out_1, hx1_0, hc1⟩ := Yda p.Labels (by omega)
    have hcs := hx1_0
    refine x_r [(2, .lend [] [(8511, tAS out_1)] [(true, .any)] false (.arr 8511)), (4, .new 3)] [1, 2, 3] [1, 2, 3, 8511] [.ref 1 0, .ref 2 0, .ref 3 0] [some (Zag p), some (.box [Zao, Zao]), some (.box [.arr 8511, Zao]), some (tAS out_1)] [Zaz Tryz.prog 92 [slS false p.Labels] (Zaf []) false (.arr 8511) (Zaf [(8511, tAS out_1)]) ∧ True] ⟨⟨hc1, trivial⟩, trivial⟩ ?_
    refine Zab ?_
    refine Zap ?_
    refine xR [] [2, 3, 11, 12, 13] [2, 3, 8511] [.ref 2 0, .ref 3 0, Zbg false p.Weights, I (p.Weights.length : Int), I 0] [some (.box [Zao, Zao]), some (.box [.arr 8511, Zao]), some (tAS out_1)] [] trivial ?_
    refine Zby ?_
    refine Zkk 3 1 731 1 (fun _ => []) rfl (by kernel_rfl) ?_
    refine Zyt 9203 1 (fun _ => 0) (fun _ _ => []) (by kernel_rfl) ?_
    refine Zcy [] (T := [(2, .ref 2 0), (3, .ref 3 0), (11, Zbg false p.Weights), (12, I (p.Weights.length : Int)), (13, I 0)]) (O := [(2, .box [Zao, Zao]), (3, .box [.arr 8511, .arr 731]), (731, Zbu 9203 ([] : List (List Int))), (8511, tAS out_1), (9203, Zbl ([] : List (List Int)))]) rfl (⟨.inl rfl, .inl rfl, .inl rfl, .inl rfl, .inl rfl, trivial⟩) (⟨.inl rfl, .inl rfl, .inr ⟨rfl, rfl, fun i hi => absurd hi (Nat.not_lt_zero _)⟩, .inl rfl, .inr ⟨rfl, rfl, fun p hp => absurd hp (Nat.not_lt_zero _)⟩, trivial⟩) ?_
    refine Zef (X := Int × (List (List Int))) (fun x => mkS [(2, .ref 2 0), (3, .ref 3 0), (11, Zbg false p.Weights), (12, I (p.Weights.length : Int)), (13, I x.1)] [(2, .box [Zao, Zao]), (3, .box [.arr 8511, .arr 731]), (731, Zbu 9203 x.2), (8511, tAS out_1), (9203, Zbl x.2)]) (fun x => (0 ≤ x.1 ∧ x.1 ≤ (p.Weights.length : Int)) ∧ (x.2 = p.Weights.take x.1.toNat) ∧ ((x.2.length : Int) = x.1) ∧ True) (fun x => ((p.Weights.length : Int) - x.1).toNat) (0, ([] : List (List Int))) rfl (show (0 ≤ (0 : Int) ∧ (0 : Int) ≤ (p.Weights.length : Int)) ∧ (([] : List (List Int)) = p.Weights.take (0 : Int).toNat) ∧ ((([] : List (List Int)).length : Int) = (0 : Int)) ∧ True from ⟨(by omega), (by rfl), (by rfl), trivial⟩) (fun x hI => ?_)
    obtain ⟨t13, ws⟩ := x
    obtain ⟨hi0, hws, hwl, _⟩ : (0 ≤ t13 ∧ t13 ≤ (p.Weights.length : Int)) ∧ (ws = p.Weights.take t13.toNat) ∧ ((ws.length : Int) = t13) ∧ True := hI
    show XW _ _ _ _ (mkS [(2, .ref 2 0), (3, .ref 3 0), (11, Zbg false p.Weights), (12, I (p.Weights.length : Int)), (13, I t13)] [(2, .box [Zao, Zao]), (3, .box [.arr 8511, .arr 731]), (731, Zbu 9203 ws), (8511, tAS out_1), (9203, Zbl ws)]) _ _
    refine Zap ?_
    by_cases h1 : t13 < (p.Weights.length : Int)
    ·have hi : t13.toNat < p.Weights.length := by omega
     have hbi := hb.2 t13.toNat hi
     refine x_r [(0, .dec true)] [2, 3, 11, 12, 13, 14] [2, 3, 731, 8511, 9203] [.ref 2 0, .ref 3 0, Zbg false p.Weights, I (p.Weights.length : Int), I t13, Bv true] [some (.box [Zao, Zao]), some (.box [.arr 8511, .arr 731]), some (Zbu 9203 ws), some (tAS out_1), some (Zbl ws)] [t13 < (p.Weights.length : Int)] ⟨h1, trivial⟩ ?_
     refine Zab ?_
     refine Zap ?_
     refine Zbp rfl ?_
     refine Zbz ?_
     refine Zab ?_
     refine Zap ?_
     refine Zby ?_
     refine xR [] [2, 3, 5, 11, 12, 13] [2, 3, 731, 8511, 9203] [.ref 2 0, .ref 3 0, slI false (at_ p.Weights t13.toNat), Zbg false p.Weights, I (p.Weights.length : Int), I t13] [some (.box [Zao, Zao]), some (.box [.arr 8511, .arr 731]), some (Zbu 9203 ws), some (tAS out_1), some (Zbl ws)] [(0 : Int) ≤ t13 ∧ t13 < (p.Weights.length : Int)] ⟨⟨(by omega), (by omega)⟩, trivial⟩ ?_
     obtain ⟨out_2, hx2_0, hc2⟩ := Zud (at_ p.Weights t13.toNat) (by omega)
     have how := hx2_0
     refine x_r [(3, .lend [] [(8211, tAI out_2)] [(true, .any)] false (.arr 8211)), (4, .new 21), (5, .new 22)] [2, 3, 11, 12, 13] [2, 3, 22, 8211, 8511, 9203] [.ref 2 0, .ref 3 0, Zbg false p.Weights, I (p.Weights.length : Int), I t13] [some (.box [Zao, Zao]), some (.box [.arr 8511, .arr 22]), some (.oar [9203, 8211] 1 (ws.length + 1) (Zde ws.length (oLI 9203 ws) (Zcv [.arr 8211] 1))), some (tAI out_2), some (tAS out_1), some (Zbl ws)] [Zaz Tryz.prog 44 [slI false (at_ p.Weights t13.toNat)] (Zaf []) false (.arr 8211) (Zaf [(8211, tAI out_2)]) ∧ True, (ws.length + 1) * 24 ≤ 140737488355328] ⟨⟨hc2, trivial⟩, (by omega), trivial⟩ ?_
     refine Zbq 1 ?_
     refine Zab ?_
     refine x_r [] [2, 3, 11, 12, 13] [2, 3, 22, 8211, 8511, 9203] [.ref 2 0, .ref 3 0, Zbg false p.Weights, I (p.Weights.length : Int), I (t13 + 1)] [some (.box [Zao, Zao]), some (.box [.arr 8511, .arr 22]), some (.oar [9203, 8211] 1 (ws.length + 1) (Zde ws.length (oLI 9203 ws) (Zcv [.arr 8211] 1))), some (tAI out_2), some (tAS out_1), some (Zbl ws)] [inR .i64 (t13 + 1)] ⟨(Zam (by omega) (by omega)), trivial⟩ ?_
     refine Zll 8211 9203 rfl rfl rfl ?_
     refine Zcw [(731, 22)] (T := [(2, .ref 2 0), (3, .ref 3 0), (11, Zbg false p.Weights), (12, I (p.Weights.length : Int)), (13, I (t13 + 1))]) (O := [(2, .box [Zao, Zao]), (3, .box [.arr 8511, .arr 731]), (731, Zbu 9203 (ws ++ [out_2])), (8511, tAS out_1), (9203, Zbl (ws ++ [out_2]))]) rfl (⟨.inl rfl, .inl rfl, .inl rfl, .inl rfl, .inl rfl, trivial⟩) (⟨.inl rfl, .inl rfl, .inr ⟨rfl, rfl, (by simp), fun i hi => .inl (Zqe rfl rfl rfl i hi)⟩, .inl rfl, .inr (Zqf out_2 (by first | rfl | (simp; done)) (fun i _ => rfl)), trivial⟩) (Zch ((t13 + 1), (ws ++ [out_2])) rfl (show (0 ≤ (t13 + 1) ∧ (t13 + 1) ≤ (p.Weights.length : Int)) ∧ ((ws ++ [out_2]) = p.Weights.take (t13 + 1).toNat) ∧ (((ws ++ [out_2]).length : Int) = (t13 + 1)) ∧ True from ⟨(by omega), (by rw [hws, how, show (t13 + 1).toNat = t13.toNat + 1 from by omega, Zjt hi]), (by simp; omega), trivial⟩) (by first | (show (((p.Weights.length : Int) - (t13 + 1)).toNat : Nat) < ((p.Weights.length : Int) - t13).toNat; omega) | (dsimp only; omega)))
    have hie : t13.toNat = p.Weights.length := by omega
    rw [hie, List.take_of_length_le (Nat.le_refl _)] at hws
    refine x_r [(0, .dec false)] [2, 3, 11, 12, 13, 14] [2, 3, 731, 8511, 9203] [.ref 2 0, .ref 3 0, Zbg false p.Weights, I (p.Weights.length : Int), I t13, Bv false] [some (.box [Zao, Zao]), some (.box [.arr 8511, .arr 731]), some (Zbu 9203 ws), some (tAS out_1), some (Zbl ws)] [¬ (t13 < (p.Weights.length : Int))] ⟨h1, trivial⟩ ?_
    refine Zab ?_
    refine Zap ?_
    refine Zbe rfl ?_
    refine Zee ?_
    refine Zbr ?_
    refine Zbt ?_
    refine Zbs ?_
    refine Zab ?_
    refine xR [] [2] [2, 731, 8511, 9203] [.ref 2 0] [some (.box [.arr 8511, .arr 731]), some (Zbu 9203 ws), some (tAS out_1), some (Zbl ws)] [] trivial ?_
    refine Zcd ?_
    refine Zcw [(9251, 8511), (9252, 731)] (T := [(2, .ref 2 0)]) (O := [(2, .box [.arr 9251, .arr 9252]), (9203, Zbl ws), (9251, tAS out_1), (9252, Zbu 9203 ws)]) rfl (⟨.inl rfl, trivial⟩) (⟨.inl rfl, .inl rfl, .inl rfl, .inl rfl, trivial⟩) ?_
    refine Zbm (out_1, ws) (show (out_1 = p.Labels) ∧ (ws = p.Weights) ∧ (True) from ⟨(by first | exact hcs | exact hws), (by first | exact hcs | exact hws), trivial⟩) (⟨.inl rfl, .inl rfl, .inl rfl, trivial⟩) (.agg [.arr 9251, .arr 9252]) (by kernel_rfl) (.inl rfl) (fun h => by cases h) (fun h => by cases h)
  obtain ⟨⟨ls, ws⟩, ⟨hh0, hh1, _⟩, hc⟩ := hh
  exact ⟨ls, ws, hh0, hh1, hc⟩
-- impl.floorDiv
theorem Zwj (n : Int) (d : Int) (hn : (-4611686018427387904 ≤ n ∧ n ≤ 4611686018427387904) ∧ 0 < d) : Con Tryz.prog 132 [I n, I d] true (I (n / d)) := by
  have hq := Ydb n d
  have hs := Zuh n hn.2
  refine Zdb (fn := Tryz.f132) (nt := 16) Tryz.func132 rfl rfl rfl rfl (by simp [Zah, Zak]) fun B hB => ?_
  refine aR [] [0, 1] [] [I n, I d] [] [] hB trivial ?_
  refine aR [] [0, 1, 5] [] [I n, I d, I (Int.tdiv n d)] [] [(d : Int) ≠ 0 ∧ inR .i64 (Int.tdiv n d)] hB ⟨⟨by omega, (Zam (by omega) (by omega))⟩, trivial⟩ ?_
  refine Zal ?_
  refine Zal ?_
  by_cases h1 : (Int.tmod n d) < 0
  ·refine Zbx [(3, .dec true)] [5, 12] [] [I (Int.tdiv n d), Bv true] [] [(d : Int) ≠ 0, (Int.tmod n d) < 0] hB ⟨(by omega), h1, trivial⟩ ?_
   refine Zac ?_
   refine Zbc rfl ?_
   refine Zbx [] [5] [] [I ((Int.tdiv n d) - 1)] [] [inR .i64 ((Int.tdiv n d) - 1)] hB ⟨(Zam (by omega) (by omega)), trivial⟩ ?_
   refine Zac ?_
   refine aR [] [4] [] [I ((Int.tdiv n d) - 1)] [] [] hB trivial ?_
   refine Zax ?_
   refine Zba hB (I ((Int.tdiv n d) - 1)) (by kernel_rfl) (.inl (by refine congrArg I ?_; first | exact hs.1 (by assumption) | exact hs.2 (by assumption))) rfl (fun _ => trivial)
  refine Zbx [(3, .dec false)] [5, 12] [] [I (Int.tdiv n d), Bv false] [] [(d : Int) ≠ 0, ¬ ((Int.tmod n d) < 0)] hB ⟨(by omega), h1, trivial⟩ ?_
  refine Zac ?_
  refine Zay rfl ?_
  refine Zbf ?_
  refine Zac ?_
  refine aR [] [4] [] [I (Int.tdiv n d)] [] [] hB trivial ?_
  refine Zax ?_
  refine Zba hB (I (Int.tdiv n d)) (by kernel_rfl) (.inl (by refine congrArg I ?_; first | exact hs.1 (by assumption) | exact hs.2 (by assumption))) rfl (fun _ => trivial)
-- impl.nearestDiv
theorem Zsj (n : Int) (d : Int) (hn : (-1000000000000000000 ≤ n ∧ n ≤ 1000000000000000000) ∧ 0 < d ∧ d ≤ 1000000000000000000) : Con Tryz.prog 110 [I n, I d] true (I (Zge n d)) := by
  have hs := Ydc n hn.2.1
  have hrb := rest_bd n hn.2.1
  have heb := ediv_bd n hn.2.1
  refine Zdb (fn := Tryz.f110) (nt := 23) Tryz.func110 rfl rfl rfl rfl (by simp [Zah, Zak]) fun B hB => ?_
  refine aR [] [0, 1] [] [I n, I d] [] [] hB trivial ?_
  refine aR [(2, .call [(true, .any), (true, .any)] true (I (n / d)))] [0, 1, 5] [] [I n, I d, I (n / d)] [] [Con Tryz.prog 132 [I n, I d] true (I (n / d)) ∧ True] hB ⟨⟨(Zwj n d (by omega)), trivial⟩, trivial⟩ ?_
  refine Zal ?_
  refine aR [] [1, 5, 6] [] [I d, I (n / d), I (n - ((n / d) * d))] [] [inR .i64 ((n / d) * d), inR .i64 (n - ((n / d) * d))] hB ⟨(Zam (by omega) (by omega)), (Zam (by omega) (by omega)), trivial⟩ ?_
  refine Zal ?_
  by_cases h1 : (d - (n - ((n / d) * d))) ≤ (n - ((n / d) * d))
  ·refine Zbx [(4, .dec true)] [5, 19] [] [I (n / d), Bv true] [] [inR .i64 (d - (n - ((n / d) * d))), (d - (n - ((n / d) * d))) ≤ (n - ((n / d) * d))] hB ⟨(Zam (by omega) (by omega)), h1, trivial⟩ ?_
   refine Zac ?_
   refine Zbc rfl ?_
   refine Zbx [] [5] [] [I ((n / d) + 1)] [] [inR .i64 ((n / d) + 1)] hB ⟨(Zam (by omega) (by omega)), trivial⟩ ?_
   refine Zac ?_
   refine aR [] [4] [] [I ((n / d) + 1)] [] [] hB trivial ?_
   refine Zax ?_
   refine Zba hB (I ((n / d) + 1)) (by kernel_rfl) (.inl (by refine congrArg I ?_; first | exact hs.1 (by assumption) | exact hs.2 (by assumption))) rfl (fun _ => trivial)
  refine Zbx [(4, .dec false)] [5, 19] [] [I (n / d), Bv false] [] [inR .i64 (d - (n - ((n / d) * d))), ¬ ((d - (n - ((n / d) * d))) ≤ (n - ((n / d) * d)))] hB ⟨(Zam (by omega) (by omega)), h1, trivial⟩ ?_
  refine Zac ?_
  refine Zay rfl ?_
  refine Zbf ?_
  refine Zac ?_
  refine aR [] [4] [] [I (n / d)] [] [] hB trivial ?_
  refine Zax ?_
  refine Zba hB (I (n / d)) (by kernel_rfl) (.inl (by refine congrArg I ?_; first | exact hs.1 (by assumption) | exact hs.2 (by assumption))) rfl (fun _ => trivial)
-- impl.inputOf
theorem Zql (feats : List Feat) (hok : Zbo feats 384 = true) : ∃ (v : List Int), (v = Zeb feats) ∧ Con Tryz.prog 82 [Zau false feats] true (slI true v) := by
  have hfn := Zjj hok
  have hh : ∃ r : (List Int), ((r = Zeb feats) ∧ (True)) ∧ Zaz Tryz.prog 82 [Zau false feats] (Zaf []) true (slI true r) (Zaf []) := by
    refine Zdd (Φ := fun r : (List Int) => (r = Zeb feats) ∧ (True)) [] (fun r => []) (fn := Tryz.f82) (nt := 58) Tryz.func82 rfl rfl (args := [Zau false feats]) rfl (Zbv (.inl ⟨rfl, Zed false _⟩) Zda) (res := fun r => slI true r) ?_
    refine xR [] [0] [] [Zau false feats] [] [] trivial ?_
    refine xR [(0, .new 8)] [0, 3] [8] [Zau false feats, .arr 8] [some (.arr 1 25 (fun _ => [I 0]))] [(0 : Int) ≤ 25 ∧ (25 : Int) ≤ 25 ∧ (8 : Int) * 25 ≤ 281474976710656 ∧ (25 : Int) ≤ 9223372036854775807] ⟨⟨(by omega), (by omega), (by omega), (by omega)⟩, trivial⟩ ?_
    refine Zap ?_
    refine xR [] [0, 3, 9, 10, 11] [8] [Zau false feats, .arr 8, Zau false feats, I (feats.length : Int), I 0] [some (.arr 1 25 (fun _ => [I 0]))] [] trivial ?_
    refine Zby ?_
    refine Zcy [] (T := [(0, Zau false feats), (3, .arr 8), (9, Zau false feats), (10, I (feats.length : Int)), (11, I 0)]) (O := [(8, tAI (List.replicate 25 (0 : Int)))]) rfl (⟨.inl rfl, .inl rfl, .inl rfl, .inl rfl, .inl rfl, trivial⟩) (⟨.inr ⟨rfl, (by first | rfl | (simp; done) | (simp; omega) | omega), fun i_ hi_ => .inl (Zkn (enc := cI) rfl i_ hi_)⟩, trivial⟩) ?_
    refine Zef (X := Int × (List Int)) (fun x => mkS [(0, Zau false feats), (3, .arr 8), (9, Zau false feats), (10, I (feats.length : Int)), (11, I x.1)] [(8, tAI x.2)]) (fun x => (0 ≤ x.1 ∧ x.1 ≤ (feats.length : Int)) ∧ (x.2 = Zim feats x.1.toNat) ∧ (x.2.length = 25) ∧ True) (fun x => ((feats.length : Int) - x.1).toNat) (0, (List.replicate 25 (0 : Int))) rfl (show (0 ≤ (0 : Int) ∧ (0 : Int) ≤ (feats.length : Int)) ∧ ((List.replicate 25 (0 : Int)) = Zim feats (0 : Int).toNat) ∧ ((List.replicate 25 (0 : Int)).length = 25) ∧ True from ⟨(by omega), (by rfl), (by rfl), trivial⟩) (fun x hI => ?_)
    obtain ⟨t11, ys⟩ := x
    obtain ⟨hi0, hys, hyl, _⟩ : (0 ≤ t11 ∧ t11 ≤ (feats.length : Int)) ∧ (ys = Zim feats t11.toNat) ∧ (ys.length = 25) ∧ True := hI
    show XW _ _ _ _ (mkS [(0, Zau false feats), (3, .arr 8), (9, Zau false feats), (10, I (feats.length : Int)), (11, I t11)] [(8, tAI ys)]) _ _
    refine Zap ?_
    by_cases h1 : t11 < (feats.length : Int)
    ·have hi : t11.toNat < feats.length := by omega
     have hf := okF_iff.1 (Zqm hok hi)
     have hbb : ∀ j_, 0 ≤ at_ ys j_ ∧ at_ ys j_ ≤ 2 * t11 := fun j_ => by rw [hys]; have := Zjk feats t11.toNat j_; omega
     have hb1 := hbb (at_ feats t11.toNat).D.toNat
     refine x_r [(0, .dec true)] [0, 3, 9, 10, 11, 12] [8] [Zau false feats, .arr 8, Zau false feats, I (feats.length : Int), I t11, Bv true] [some (tAI ys)] [t11 < (feats.length : Int)] ⟨h1, trivial⟩ ?_
     refine Zab ?_
     refine Zap ?_
     refine Zbp rfl ?_
     refine Zbz ?_
     refine Zab ?_
     refine Zap ?_
     refine Zby ?_
     refine xR [(2, .new 5)] [0, 3, 5, 9, 10, 11] [5, 8] [Zau false feats, .arr 8, .ref 5 0, Zau false feats, I (feats.length : Int), I t11] [some (Zle (at_ feats t11.toNat)), some (tAI ys)] [(0 : Int) ≤ t11 ∧ t11 < (feats.length : Int)] ⟨⟨(by omega), (by omega)⟩, trivial⟩ ?_
     refine xR [] [0, 3, 5, 9, 10, 11] [5, 8] [Zau false feats, .arr 8, .ref 5 0, Zau false feats, I (feats.length : Int), I t11] [some (Zle (at_ feats t11.toNat)), some (.arr 1 ys.length (fun q => bif Nat.beq q (((at_ feats t11.toNat).D).toNat) then [I ((at_ ys (((at_ feats t11.toNat).D).toNat)) + 1)] else (fI ys) q))] [(0 : Int) ≤ ((at_ feats t11.toNat).D) ∧ ((at_ feats t11.toNat).D) < (ys.length : Int), ((at_ feats t11.toNat).D).toNat < ys.length, inR .i64 ((at_ ys (((at_ feats t11.toNat).D).toNat)) + 1), (0 : Int) ≤ ((at_ feats t11.toNat).D) ∧ ((at_ feats t11.toNat).D) < (ys.length : Int), ((at_ feats t11.toNat).D).toNat < ys.length] ⟨⟨(by omega), (by omega)⟩, (by omega), (Zam (by omega) (by omega)), ⟨(by omega), (by omega)⟩, (by omega), trivial⟩ ?_
     refine Zcy [] (T := [(0, Zau false feats), (3, .arr 8), (5, .ref 5 0), (9, Zau false feats), (10, I (feats.length : Int)), (11, I t11)]) (O := [(5, Zle (at_ feats t11.toNat)), (8, tAI (ys.set (((at_ feats t11.toNat).D).toNat) ((at_ ys (((at_ feats t11.toNat).D).toNat)) + 1)))]) rfl (⟨.inl rfl, .inl rfl, .inl rfl, .inl rfl, .inl rfl, .inl rfl, trivial⟩) (⟨.inl rfl, .inr ⟨rfl, (by first | rfl | (simp; done) | (simp; omega) | omega), fun i_ hi_ => .inl (Zia (enc := cI) rfl i_ hi_)⟩, trivial⟩) ?_
     refine x_r [(3, .nn), (8, .nn)] [0, 3, 9, 10, 11] [8] [Zau false feats, .arr 8, Zau false feats, I (feats.length : Int), I t11] [some (.arr 1 ((ys.set (((at_ feats t11.toNat).D).toNat) ((at_ ys (((at_ feats t11.toNat).D).toNat)) + 1)).length) (fun q => bif Nat.beq q (((8 + ((((at_ feats t11.toNat).Y) / 64) * 4)) + (((at_ feats t11.toNat).X) / 64)).toNat) then [I ((at_ (ys.set (((at_ feats t11.toNat).D).toNat) ((at_ ys (((at_ feats t11.toNat).D).toNat)) + 1)) (((8 + ((((at_ feats t11.toNat).Y) / 64) * 4)) + (((at_ feats t11.toNat).X) / 64)).toNat)) + 1)] else (fI (ys.set (((at_ feats t11.toNat).D).toNat) ((at_ ys (((at_ feats t11.toNat).D).toNat)) + 1))) q))] [(0 : Int) ≤ ((at_ feats t11.toNat).Y) ∧ (0 : Int) < 64 ∧ inR .i64 ((at_ feats t11.toNat).Y), inR .i64 ((((at_ feats t11.toNat).Y) / 64) * 4), inR .i64 (8 + ((((at_ feats t11.toNat).Y) / 64) * 4)), (0 : Int) ≤ ((at_ feats t11.toNat).X) ∧ (0 : Int) < 64 ∧ inR .i64 ((at_ feats t11.toNat).X), inR .i64 ((8 + ((((at_ feats t11.toNat).Y) / 64) * 4)) + (((at_ feats t11.toNat).X) / 64)), (0 : Int) ≤ ((8 + ((((at_ feats t11.toNat).Y) / 64) * 4)) + (((at_ feats t11.toNat).X) / 64)) ∧ ((8 + ((((at_ feats t11.toNat).Y) / 64) * 4)) + (((at_ feats t11.toNat).X) / 64)) < (((ys.set (((at_ feats t11.toNat).D).toNat) ((at_ ys (((at_ feats t11.toNat).D).toNat)) + 1)).length : Nat) : Int), ((8 + ((((at_ feats t11.toNat).Y) / 64) * 4)) + (((at_ feats t11.toNat).X) / 64)).toNat < (ys.set (((at_ feats t11.toNat).D).toNat) ((at_ ys (((at_ feats t11.toNat).D).toNat)) + 1)).length, inR .i64 ((at_ (ys.set (((at_ feats t11.toNat).D).toNat) ((at_ ys (((at_ feats t11.toNat).D).toNat)) + 1)) (((8 + ((((at_ feats t11.toNat).Y) / 64) * 4)) + (((at_ feats t11.toNat).X) / 64)).toNat)) + 1), (0 : Int) ≤ ((8 + ((((at_ feats t11.toNat).Y) / 64) * 4)) + (((at_ feats t11.toNat).X) / 64)) ∧ ((8 + ((((at_ feats t11.toNat).Y) / 64) * 4)) + (((at_ feats t11.toNat).X) / 64)) < (((ys.set (((at_ feats t11.toNat).D).toNat) ((at_ ys (((at_ feats t11.toNat).D).toNat)) + 1)).length : Nat) : Int), ((8 + ((((at_ feats t11.toNat).Y) / 64) * 4)) + (((at_ feats t11.toNat).X) / 64)).toNat < (ys.set (((at_ feats t11.toNat).D).toNat) ((at_ ys (((at_ feats t11.toNat).D).toNat)) + 1)).length] ⟨⟨(by omega), (by omega), (Zam (by omega) (by omega))⟩, (Zam (by omega) (by omega)), (Zam (by omega) (by omega)), ⟨(by omega), (by omega), (Zam (by omega) (by omega))⟩, (Zam (by omega) (by omega)), ⟨(by first | omega | (simp only [List.length_set]; omega)), (by first | omega | (simp only [List.length_set]; omega))⟩, (by first | omega | (simp only [List.length_set]; omega)), (by have q1 := hbb (((8 + ((((at_ feats t11.toNat).Y) / 64) * 4)) + (((at_ feats t11.toNat).X) / 64)).toNat); have q2 := hbb (at_ feats t11.toNat).D.toNat; simp only [Zij]; split <;> exact Zam (by omega) (by omega)), ⟨(by first | omega | (simp only [List.length_set]; omega)), (by first | omega | (simp only [List.length_set]; omega))⟩, (by first | omega | (simp only [List.length_set]; omega)), trivial⟩ ?_
     refine Zbq 1 ?_
     refine Zab ?_
     refine Zcy [] (T := [(0, Zau false feats), (3, .arr 8), (9, Zau false feats), (10, I (feats.length : Int)), (11, I t11)]) (O := [(8, tAI ((ys.set (((at_ feats t11.toNat).D).toNat) ((at_ ys (((at_ feats t11.toNat).D).toNat)) + 1)).set (((8 + ((((at_ feats t11.toNat).Y) / 64) * 4)) + (((at_ feats t11.toNat).X) / 64)).toNat) ((at_ (ys.set (((at_ feats t11.toNat).D).toNat) ((at_ ys (((at_ feats t11.toNat).D).toNat)) + 1)) (((8 + ((((at_ feats t11.toNat).Y) / 64) * 4)) + (((at_ feats t11.toNat).X) / 64)).toNat)) + 1)))]) rfl (⟨.inl rfl, .inl rfl, .inl rfl, .inl rfl, .inl rfl, trivial⟩) (⟨.inr ⟨rfl, (by first | rfl | (simp; done) | (simp; omega) | omega), fun i_ hi_ => .inl (Zia (enc := cI) rfl i_ hi_)⟩, trivial⟩) ?_
     refine x_r [] [0, 3, 9, 10, 11] [8] [Zau false feats, .arr 8, Zau false feats, I (feats.length : Int), I (t11 + 1)] [some (tAI ((ys.set (((at_ feats t11.toNat).D).toNat) ((at_ ys (((at_ feats t11.toNat).D).toNat)) + 1)).set (((8 + ((((at_ feats t11.toNat).Y) / 64) * 4)) + (((at_ feats t11.toNat).X) / 64)).toNat) ((at_ (ys.set (((at_ feats t11.toNat).D).toNat) ((at_ ys (((at_ feats t11.toNat).D).toNat)) + 1)) (((8 + ((((at_ feats t11.toNat).Y) / 64) * 4)) + (((at_ feats t11.toNat).X) / 64)).toNat)) + 1)))] [inR .i64 (t11 + 1)] ⟨(Zam (by omega) (by omega)), trivial⟩ ?_
     exact Zch ((t11 + 1), ((ys.set (((at_ feats t11.toNat).D).toNat) ((at_ ys (((at_ feats t11.toNat).D).toNat)) + 1)).set (((8 + ((((at_ feats t11.toNat).Y) / 64) * 4)) + (((at_ feats t11.toNat).X) / 64)).toNat) ((at_ (ys.set (((at_ feats t11.toNat).D).toNat) ((at_ ys (((at_ feats t11.toNat).D).toNat)) + 1)) (((8 + ((((at_ feats t11.toNat).Y) / 64) * 4)) + (((at_ feats t11.toNat).X) / 64)).toNat)) + 1))) rfl (show (0 ≤ (t11 + 1) ∧ (t11 + 1) ≤ (feats.length : Int)) ∧ (((ys.set (((at_ feats t11.toNat).D).toNat) ((at_ ys (((at_ feats t11.toNat).D).toNat)) + 1)).set (((8 + ((((at_ feats t11.toNat).Y) / 64) * 4)) + (((at_ feats t11.toNat).X) / 64)).toNat) ((at_ (ys.set (((at_ feats t11.toNat).D).toNat) ((at_ ys (((at_ feats t11.toNat).D).toNat)) + 1)) (((8 + ((((at_ feats t11.toNat).Y) / 64) * 4)) + (((at_ feats t11.toNat).X) / 64)).toNat)) + 1)) = Zim feats (t11 + 1).toNat) ∧ (((ys.set (((at_ feats t11.toNat).D).toNat) ((at_ ys (((at_ feats t11.toNat).D).toNat)) + 1)).set (((8 + ((((at_ feats t11.toNat).Y) / 64) * 4)) + (((at_ feats t11.toNat).X) / 64)).toNat) ((at_ (ys.set (((at_ feats t11.toNat).D).toNat) ((at_ ys (((at_ feats t11.toNat).D).toNat)) + 1)) (((8 + ((((at_ feats t11.toNat).Y) / 64) * 4)) + (((at_ feats t11.toNat).X) / 64)).toNat)) + 1)).length = 25) ∧ True from ⟨(by omega), (by rw [inpC_1 hi0.1, ← hys]; rfl), (by simp only [List.length_set]; exact hyl), trivial⟩) (by first | (show (((feats.length : Int) - (t11 + 1)).toNat : Nat) < ((feats.length : Int) - t11).toNat; omega) | (dsimp only; omega))
    have hie : t11.toNat = feats.length := by omega
    rw [hie] at hys
    refine x_r [(0, .dec false)] [0, 3, 9, 10, 11, 12] [8] [Zau false feats, .arr 8, Zau false feats, I (feats.length : Int), I t11, Bv false] [some (tAI ys)] [¬ (t11 < (feats.length : Int))] ⟨h1, trivial⟩ ?_
    refine Zab ?_
    refine Zap ?_
    refine Zbe rfl ?_
    refine Zee ?_
    refine Zbr ?_
    refine Zbt ?_
    refine Zbs ?_
    refine Zab ?_
    refine xR [] [3, 6] [8] [.arr 8, I (feats.length : Int)] [some (tAI ys)] [] trivial ?_
    refine Zap ?_
    refine xR [] [3, 6, 40, 41] [8] [.arr 8, I (feats.length : Int), I (ys.length : Int), I 0] [some (tAI ys)] [] trivial ?_
    refine Zby ?_
    refine Zef (X := Int × (List Int)) (fun x => mkS [(3, .arr 8), (6, I (feats.length : Int)), (40, I (ys.length : Int)), (41, I x.1)] [(8, tAI x.2)]) (fun x => (0 ≤ x.1 ∧ x.1 ≤ (25 : Int)) ∧ (x.2 = Znd (Zim feats feats.length) (feats.length : Int) x.1.toNat) ∧ (x.2.length = 25) ∧ True) (fun x => ((25 : Int) - x.1).toNat) (0, ys) rfl (show (0 ≤ (0 : Int) ∧ (0 : Int) ≤ (25 : Int)) ∧ (ys = Znd (Zim feats feats.length) (feats.length : Int) (0 : Int).toNat) ∧ (ys.length = 25) ∧ True from ⟨(by omega), (by exact hys), (by exact hyl), trivial⟩) (fun x hI => ?_)
    obtain ⟨t41, zs⟩ := x
    obtain ⟨hj0, hzs, hzl, _⟩ : (0 ≤ t41 ∧ t41 ≤ (25 : Int)) ∧ (zs = Znd (Zim feats feats.length) (feats.length : Int) t41.toNat) ∧ (zs.length = 25) ∧ True := hI
    show XW _ _ _ _ (mkS [(3, .arr 8), (6, I (feats.length : Int)), (40, I (ys.length : Int)), (41, I t41)] [(8, tAI zs)]) _ _
    refine Zap ?_
    by_cases h2 : t41 < (ys.length : Int)
    ·have hi2 : t41.toNat < zs.length := by omega
     have hzb := Zjk feats feats.length t41.toNat
     have hze : at_ zs t41.toNat = at_ (Zim feats feats.length) t41.toNat := by rw [hzs]; exact (Zsk (n := (feats.length : Int)) (by omega) (Zjk feats feats.length) t41.toNat t41.toNat).1 (Nat.le_refl _)
     refine x_r [(0, .dec true)] [3, 6, 40, 41, 42] [8] [.arr 8, I (feats.length : Int), I (ys.length : Int), I t41, Bv true] [some (tAI zs)] [t41 < (ys.length : Int)] ⟨h2, trivial⟩ ?_
     refine Zab ?_
     refine Zap ?_
     refine Zbp rfl ?_
     refine Zbz ?_
     refine Zab ?_
     refine Zap ?_
     refine Zby ?_
     refine xR [] [3, 6, 7, 40, 41] [8] [.arr 8, I (feats.length : Int), I t41, I (ys.length : Int), I t41] [some (tAI zs)] [] trivial ?_
     refine x_r [(8, .call [(true, .any), (true, .any)] true (I (Zge ((at_ zs t41.toNat) * 256) (feats.length : Int))))] [3, 6, 40, 41] [8] [.arr 8, I (feats.length : Int), I (ys.length : Int), I t41] [some (.arr 1 zs.length (fun q => bif Nat.beq q t41.toNat then [I (Zge ((at_ zs t41.toNat) * 256) (feats.length : Int))] else (fI zs) q))] [(0 : Int) ≤ t41 ∧ t41 < (zs.length : Int), t41.toNat < zs.length, inR .i64 ((at_ zs t41.toNat) * 256), Con Tryz.prog 110 [I ((at_ zs t41.toNat) * 256), I (feats.length : Int)] true (I (Zge ((at_ zs t41.toNat) * 256) (feats.length : Int))) ∧ True, (0 : Int) ≤ t41 ∧ t41 < (zs.length : Int), t41.toNat < zs.length] ⟨⟨(by omega), (by omega)⟩, (by omega), (Zam (by omega) (by omega)), ⟨(Zsj ((at_ zs t41.toNat) * 256) (feats.length : Int) (by omega)), trivial⟩, ⟨(by omega), (by omega)⟩, (by omega), trivial⟩ ?_
     refine Zbq 3 ?_
     refine Zab ?_
     refine Zcy [] (T := [(3, .arr 8), (6, I (feats.length : Int)), (40, I (ys.length : Int)), (41, I t41)]) (O := [(8, tAI (zs.set t41.toNat (Zge ((at_ zs t41.toNat) * 256) (feats.length : Int))))]) rfl (⟨.inl rfl, .inl rfl, .inl rfl, .inl rfl, trivial⟩) (⟨.inr ⟨rfl, (by first | rfl | (simp; done) | (simp; omega) | omega), fun i_ hi_ => .inl (Zia (enc := cI) rfl i_ hi_)⟩, trivial⟩) ?_
     refine x_r [] [3, 6, 40, 41] [8] [.arr 8, I (feats.length : Int), I (ys.length : Int), I (t41 + 1)] [some (tAI (zs.set t41.toNat (Zge ((at_ zs t41.toNat) * 256) (feats.length : Int))))] [inR .i64 (t41 + 1)] ⟨(Zam (by omega) (by omega)), trivial⟩ ?_
     exact Zch ((t41 + 1), (zs.set t41.toNat (Zge ((at_ zs t41.toNat) * 256) (feats.length : Int)))) rfl (show (0 ≤ (t41 + 1) ∧ (t41 + 1) ≤ (25 : Int)) ∧ ((zs.set t41.toNat (Zge ((at_ zs t41.toNat) * 256) (feats.length : Int))) = Znd (Zim feats feats.length) (feats.length : Int) (t41 + 1).toNat) ∧ ((zs.set t41.toNat (Zge ((at_ zs t41.toNat) * 256) (feats.length : Int))).length = 25) ∧ True from ⟨(by omega), (by first | (rw [Zyh hj0.1, ← hzs]; done) | (rw [Zyh hj0.1, ← hzs, Int.mul_comm 256])), (by simp only [List.length_set]; exact hzl), trivial⟩) (by first | (show (((25 : Int) - (t41 + 1)).toNat : Nat) < ((25 : Int) - t41).toNat; omega) | (dsimp only; omega))
    have hie2 : t41.toNat = 25 := by omega
    rw [hie2] at hzs
    refine x_r [(0, .dec false)] [3, 6, 40, 41, 42] [8] [.arr 8, I (feats.length : Int), I (ys.length : Int), I t41, Bv false] [some (tAI zs)] [¬ (t41 < (ys.length : Int))] ⟨h2, trivial⟩ ?_
    refine Zab ?_
    refine Zap ?_
    refine Zbe rfl ?_
    refine Zee ?_
    refine Zbr ?_
    refine Zbt ?_
    refine Zbs ?_
    refine Zab ?_
    refine xR [] [3] [8] [.arr 8] [some (.arr 1 zs.length (fun q => bif Nat.beq q 24 then [I 256] else (fI zs) q))] [(0 : Int) ≤ 24 ∧ 24 < (zs.length : Int), 24 < zs.length] ⟨⟨(by omega), (by omega)⟩, (by omega), trivial⟩ ?_
    refine Zap ?_
    refine Zcy [] (T := [(3, .arr 8)]) (O := [(8, tAI (zs.set 24 256))]) rfl (⟨.inl rfl, trivial⟩) (⟨.inr ⟨rfl, (by first | rfl | (simp; done) | (simp; omega) | omega), fun i_ hi_ => .inl (Zia (enc := cI) rfl i_ hi_)⟩, trivial⟩) ?_
    refine x_r [] [2] [8] [.arr 8] [some (tAI (zs.set 24 256))] [] trivial ?_
    refine Zab ?_
    refine Zcd ?_
    refine Zbm (zs.set 24 256) (show ((zs.set 24 256) = Zeb feats) ∧ (True) from ⟨(by rw [hzs, inpR_alt]), trivial⟩) (trivial) (.arr 8) (by kernel_rfl) (.inr ⟨(fun _ => rfl), rfl, rfl, fun i _ => .inl rfl⟩) (fun _ => rfl) (fun _ => (Zpa true _))
  obtain ⟨v, ⟨hh0, _⟩, hc⟩ := hh
  exact ⟨v, hh0, hc⟩
-- impl.scoresOf
theorem Zoo (p : Perceptron) (input : List Int) (hp : Zbb p = true) (hx : (∀ i, 0 ≤ at_ input i ∧ at_ input i ≤ 512) ∧ input.length = 25) : ∃ (v : List Int), (v = scR p.Weights input) ∧ Con Tryz.prog 81 [Zae p, slI false input] true (slI true v) := by
  have hq := okPerc_iff.1 hp
  have hln := Zfh hq.1
  have hxl := hx.2
  have hh : ∃ r : (List Int), ((r = scR p.Weights input) ∧ (True)) ∧ Zaz Tryz.prog 81 [Zae p, slI false input] (Zaf []) true (slI true r) (Zaf []) := by
    refine Zdd (Φ := fun r : (List Int) => (r = scR p.Weights input) ∧ (True)) [] (fun r => []) (fn := Tryz.f81) (nt := 40) Tryz.func81 rfl rfl (args := [Zae p, slI false input]) rfl (Zbv (.inl ⟨rfl, by simp [Zak, Zah, Zdc, Zep]⟩) (Zbv (.inl ⟨rfl, Zpa false _⟩) Zda)) (res := fun r => slI true r) ?_
    refine xR [(0, .new 2)] [1, 2] [2] [slI false input, .ref 2 0] [some (Zag p)] [] trivial ?_
    refine xR [] [1, 2, 5] [2] [slI false input, .ref 2 0, Zao] [some (Zag p)] [] trivial ?_
    refine Zap ?_
    refine xR [] [1, 5, 12, 13, 14] [] [slI false input, Zao, Zbg false p.Weights, I (p.Weights.length : Int), I 0] [] [] trivial ?_
    refine Zby ?_
    refine x_nil 5 705 1 (fun _ => []) (by kernel_rfl) ?_
    refine Zcy [] (T := [(1, slI false input), (5, .arr 705), (12, Zbg false p.Weights), (13, I (p.Weights.length : Int)), (14, I 0)]) (O := [(705, tAI ([] : List Int))]) rfl (⟨.inl rfl, .inl rfl, .inl rfl, .inl rfl, .inl rfl, trivial⟩) (⟨.inr ⟨rfl, (by first | rfl | (simp; done) | (simp; omega) | omega), fun i_ hi_ => absurd hi_ (Nat.not_lt_zero _)⟩, trivial⟩) ?_
    refine Zef (X := (List Int) × Int) (fun x => mkS [(1, slI false input), (5, .arr 705), (12, Zbg false p.Weights), (13, I (p.Weights.length : Int)), (14, I x.2)] [(705, tAI x.1)]) (fun x => (0 ≤ x.2 ∧ x.2 ≤ (p.Weights.length : Int)) ∧ (x.1 = (p.Weights.take x.2.toNat).map fun r => scT r input 25) ∧ ((x.1.length : Int) = x.2) ∧ True) (fun x => ((p.Weights.length : Int) - x.2).toNat) (([] : List Int), 0) rfl (show (0 ≤ (0 : Int) ∧ (0 : Int) ≤ (p.Weights.length : Int)) ∧ (([] : List Int) = (p.Weights.take (0 : Int).toNat).map fun r => scT r input 25) ∧ ((([] : List Int).length : Int) = (0 : Int)) ∧ True from ⟨(by omega), (by rfl), (by rfl), trivial⟩) (fun x hI => ?_)
    obtain ⟨scores, t14⟩ := x
    obtain ⟨hi0, hsc, hsl, _⟩ : (0 ≤ t14 ∧ t14 ≤ (p.Weights.length : Int)) ∧ (scores = (p.Weights.take t14.toNat).map fun r => scT r input 25) ∧ ((scores.length : Int) = t14) ∧ True := hI
    show XW _ _ _ _ (mkS [(1, slI false input), (5, .arr 705), (12, Zbg false p.Weights), (13, I (p.Weights.length : Int)), (14, I t14)] [(705, tAI scores)]) _ _
    refine Zap ?_
    by_cases h1 : t14 < (p.Weights.length : Int)
    ·have hi : t14.toNat < p.Weights.length := by omega
     have hr := Zct hq.2.2 hi
     refine x_r [(0, .dec true)] [1, 5, 12, 13, 14, 15] [705] [slI false input, .arr 705, Zbg false p.Weights, I (p.Weights.length : Int), I t14, Bv true] [some (tAI scores)] [t14 < (p.Weights.length : Int)] ⟨h1, trivial⟩ ?_
     refine Zab ?_
     refine Zap ?_
     refine Zbp rfl ?_
     refine Zbz ?_
     refine Zab ?_
     refine Zap ?_
     refine Zby ?_
     refine xR [] [1, 5, 7, 12, 13, 14] [705] [slI false input, .arr 705, slI false (at_ p.Weights t14.toNat), Zbg false p.Weights, I (p.Weights.length : Int), I t14] [some (tAI scores)] [(0 : Int) ≤ t14 ∧ t14 < (p.Weights.length : Int)] ⟨⟨(by omega), (by omega)⟩, trivial⟩ ?_
     refine xR [] [1, 5, 7, 8, 12, 13, 14] [705] [slI false input, .arr 705, slI false (at_ p.Weights t14.toNat), I 0, Zbg false p.Weights, I (p.Weights.length : Int), I t14] [some (tAI scores)] [] trivial ?_
     refine Zap ?_
     refine xR [] [1, 5, 8, 12, 13, 14, 18, 19, 20] [705] [slI false input, .arr 705, I 0, Zbg false p.Weights, I (p.Weights.length : Int), I t14, slI false (at_ p.Weights t14.toNat), I (((at_ p.Weights t14.toNat).length) : Int), I 0] [some (tAI scores)] [] trivial ?_
     refine Zby ?_
     refine Zef (X := Int × Int) (fun x => mkS [(1, slI false input), (5, .arr 705), (8, I x.1), (12, Zbg false p.Weights), (13, I (p.Weights.length : Int)), (14, I t14), (18, slI false (at_ p.Weights t14.toNat)), (19, I (((at_ p.Weights t14.toNat).length) : Int)), (20, I x.2)] [(705, tAI scores)]) (fun x => (0 ≤ x.2 ∧ x.2 ≤ 25) ∧ (x.1 = scT (at_ p.Weights t14.toNat) input x.2.toNat) ∧ True) (fun x => ((25 : Int) - x.2).toNat) (0, 0) rfl (show (0 ≤ (0 : Int) ∧ (0 : Int) ≤ 25) ∧ ((0 : Int) = scT (at_ p.Weights t14.toNat) input (0 : Int).toNat) ∧ True from ⟨(by omega), (by rfl), trivial⟩) (fun x hI => ?_)
     obtain ⟨sum, t20⟩ := x
     obtain ⟨hk0, hsum, _⟩ : (0 ≤ t20 ∧ t20 ≤ 25) ∧ (sum = scT (at_ p.Weights t14.toNat) input t20.toNat) ∧ True := hI
     show XW _ _ _ _ (mkS [(1, slI false input), (5, .arr 705), (8, I sum), (12, Zbg false p.Weights), (13, I (p.Weights.length : Int)), (14, I t14), (18, slI false (at_ p.Weights t14.toNat)), (19, I (((at_ p.Weights t14.toNat).length) : Int)), (20, I t20)] [(705, tAI scores)]) _ _
     refine Zap ?_
     by_cases h2 : t20 < (((at_ p.Weights t14.toNat).length) : Int)
     ·have hk : t20.toNat < 25 := by omega
      have hrk := hr.2 t20.toNat hk
      have hxk := hx.1 t20.toNat
      have hmx := Zwk hrk hxk
      have hsb := Zyg hr.2 hx.1 t20.toNat (by omega)
      refine x_r [(0, .dec true)] [1, 5, 8, 12, 13, 14, 18, 19, 20, 21] [705] [slI false input, .arr 705, I sum, Zbg false p.Weights, I (p.Weights.length : Int), I t14, slI false (at_ p.Weights t14.toNat), I (((at_ p.Weights t14.toNat).length) : Int), I t20, Bv true] [some (tAI scores)] [t20 < (((at_ p.Weights t14.toNat).length) : Int)] ⟨h2, trivial⟩ ?_
      refine Zab ?_
      refine Zap ?_
      refine Zbp rfl ?_
      refine Zbz ?_
      refine Zab ?_
      refine Zap ?_
      refine Zby ?_
      refine xR [] [1, 5, 8, 9, 10, 12, 13, 14, 18, 19, 20] [705] [slI false input, .arr 705, I sum, I t20, I (at_ (at_ p.Weights t14.toNat) t20.toNat), Zbg false p.Weights, I (p.Weights.length : Int), I t14, slI false (at_ p.Weights t14.toNat), I (((at_ p.Weights t14.toNat).length) : Int), I t20] [some (tAI scores)] [(0 : Int) ≤ t20 ∧ t20 < (((at_ p.Weights t14.toNat).length) : Int)] ⟨⟨(by omega), (by omega)⟩, trivial⟩ ?_
      refine x_r [] [1, 5, 8, 12, 13, 14, 18, 19, 20] [705] [slI false input, .arr 705, I (sum + ((at_ (at_ p.Weights t14.toNat) t20.toNat) * (at_ input t20.toNat))), Zbg false p.Weights, I (p.Weights.length : Int), I t14, slI false (at_ p.Weights t14.toNat), I (((at_ p.Weights t14.toNat).length) : Int), I t20] [some (tAI scores)] [(0 : Int) ≤ t20 ∧ t20 < (input.length : Int), inR .i64 ((at_ (at_ p.Weights t14.toNat) t20.toNat) * (at_ input t20.toNat)), inR .i64 (sum + ((at_ (at_ p.Weights t14.toNat) t20.toNat) * (at_ input t20.toNat)))] ⟨⟨(by omega), (by omega)⟩, (Zam (by omega) (by omega)), (Zam (by omega) (by omega)), trivial⟩ ?_
      refine Zbq 3 ?_
      refine Zab ?_
      refine x_r [] [1, 5, 8, 12, 13, 14, 18, 19, 20] [705] [slI false input, .arr 705, I (sum + ((at_ (at_ p.Weights t14.toNat) t20.toNat) * (at_ input t20.toNat))), Zbg false p.Weights, I (p.Weights.length : Int), I t14, slI false (at_ p.Weights t14.toNat), I (((at_ p.Weights t14.toNat).length) : Int), I (t20 + 1)] [some (tAI scores)] [inR .i64 (t20 + 1)] ⟨(Zam (by omega) (by omega)), trivial⟩ ?_
      exact Zch ((sum + ((at_ (at_ p.Weights t14.toNat) t20.toNat) * (at_ input t20.toNat))), (t20 + 1)) rfl (show (0 ≤ (t20 + 1) ∧ (t20 + 1) ≤ 25) ∧ ((sum + ((at_ (at_ p.Weights t14.toNat) t20.toNat) * (at_ input t20.toNat))) = scT (at_ p.Weights t14.toNat) input (t20 + 1).toNat) ∧ True from ⟨(by omega), (by rw [scT_1 hk0.1, ← hsum]), trivial⟩) (by first | (show (((25 : Int) - (t20 + 1)).toNat : Nat) < ((25 : Int) - t20).toNat; omega) | (dsimp only; omega))
     have hie2 : t20.toNat = 25 := by omega
     rw [hie2] at hsum
     refine x_r [(0, .dec false)] [1, 5, 8, 12, 13, 14, 18, 19, 20, 21] [705] [slI false input, .arr 705, I sum, Zbg false p.Weights, I (p.Weights.length : Int), I t14, slI false (at_ p.Weights t14.toNat), I (((at_ p.Weights t14.toNat).length) : Int), I t20, Bv false] [some (tAI scores)] [¬ (t20 < (((at_ p.Weights t14.toNat).length) : Int))] ⟨h2, trivial⟩ ?_
     refine Zab ?_
     refine Zap ?_
     refine Zbe rfl ?_
     refine Zee ?_
     refine Zbr ?_
     refine Zbt ?_
     refine Zbs ?_
     refine Zab ?_
     refine x_r [(2, .new 36), (3, .new 37)] [1, 5, 12, 13, 14] [37] [slI false input, .arr 37, Zbg false p.Weights, I (p.Weights.length : Int), I t14] [some (.arr 1 (scores.length + 1) (Zde scores.length (fI scores) (Zcv [I sum] 1)))] [(scores.length + 1) * 8 ≤ 140737488355328] ⟨(by omega), trivial⟩ ?_
     refine Zbq 1 ?_
     refine Zab ?_
     refine x_r [] [1, 5, 12, 13, 14] [37] [slI false input, .arr 37, Zbg false p.Weights, I (p.Weights.length : Int), I (t14 + 1)] [some (.arr 1 (scores.length + 1) (Zde scores.length (fI scores) (Zcv [I sum] 1)))] [inR .i64 (t14 + 1)] ⟨(Zam (by omega) (by omega)), trivial⟩ ?_
     refine Zcw [(705, 37)] (T := [(1, slI false input), (5, .arr 705), (12, Zbg false p.Weights), (13, I (p.Weights.length : Int)), (14, I (t14 + 1))]) (O := [(705, tAI (scores ++ [sum]))]) rfl (⟨.inl rfl, .inl rfl, .inl rfl, .inl rfl, .inl rfl, trivial⟩) (⟨.inr ⟨rfl, (by first | rfl | (simp; done) | (simp; omega) | omega), fun i_ hi_ => .inl (Zec (enc := cI) (xs := scores) rfl i_ hi_)⟩, trivial⟩) (Zch ((scores ++ [sum]), (t14 + 1)) rfl (show (0 ≤ (t14 + 1) ∧ (t14 + 1) ≤ (p.Weights.length : Int)) ∧ ((scores ++ [sum]) = (p.Weights.take (t14 + 1).toNat).map fun r => scT r input 25) ∧ (((scores ++ [sum]).length : Int) = (t14 + 1)) ∧ True from ⟨(by omega), (by rw [Zyi hi0.1 hi, ← hsc, ← hsum]), (by simp; omega), trivial⟩) (by first | (show (((p.Weights.length : Int) - (t14 + 1)).toNat : Nat) < ((p.Weights.length : Int) - t14).toNat; omega) | (dsimp only; omega)))
    have hie : t14.toNat = p.Weights.length := by omega
    rw [hie, List.take_of_length_le (Nat.le_refl _)] at hsc
    refine x_r [(0, .dec false)] [1, 5, 12, 13, 14, 15] [705] [slI false input, .arr 705, Zbg false p.Weights, I (p.Weights.length : Int), I t14, Bv false] [some (tAI scores)] [¬ (t14 < (p.Weights.length : Int))] ⟨h1, trivial⟩ ?_
    refine Zab ?_
    refine Zap ?_
    refine Zbe rfl ?_
    refine Zee ?_
    refine Zbr ?_
    refine Zbt ?_
    refine Zbs ?_
    refine Zab ?_
    refine xR [] [4] [705] [.arr 705] [some (tAI scores)] [] trivial ?_
    refine Zcd ?_
    refine Zbm scores (show (scores = scR p.Weights input) ∧ (True) from ⟨(by exact hsc), trivial⟩) (trivial) (.arr 705) (by kernel_rfl) (.inr ⟨(fun _ => rfl), rfl, rfl, fun i _ => .inl rfl⟩) (fun _ => rfl) (fun _ => (Zpa true _))
  obtain ⟨v, ⟨hh0, _⟩, hc⟩ := hh
  exact ⟨v, hh0, hc⟩
-- slices.Max[[]int64,int64]
theorem Ycp (xl : List Int) (hl : 1 ≤ xl.length ∧ xl.length ≤ 1000) : ∃ (v : Int), (Zwg xl (xl.length : Int) v) ∧ Con Tryz.prog 45 [slI false xl] true (I v) := by
  have hh : ∃ r : Int, ((Zwg xl (xl.length : Int) r) ∧ (True)) ∧ Zaz Tryz.prog 45 [slI false xl] (Zaf []) true (I r) (Zaf []) := by
    refine Zdd (Φ := fun r : Int => (Zwg xl (xl.length : Int) r) ∧ (True)) [] (fun r => []) (fn := Tryz.f45) (nt := 25) Tryz.func45 rfl rfl (args := [slI false xl]) rfl (Zbv (.inl ⟨rfl, Zpa false _⟩) Zda) (res := fun r => I r) ?_
    refine xR [] [0] [] [slI false xl] [] [] trivial ?_
    refine Zap ?_
    refine xR [(2, .dec false)] [0, 7] [] [slI false xl, Bv false] [] [¬ ((xl.length : Int) < 1)] ⟨(by omega), trivial⟩ ?_
    refine Zbe rfl ?_
    refine Zbz ?_
    refine Zab ?_
    refine xR [] [0, 3] [] [slI false xl, I (at_ xl 0)] [] [(0 : Int) ≤ 0 ∧ 0 < (xl.length : Int)] ⟨⟨(by omega), (by omega)⟩, trivial⟩ ?_
    refine Zap ?_
    refine xR [] [0, 3, 4] [] [slI false xl, I (at_ xl 0), I 1] [] [] trivial ?_
    refine Zby ?_
    refine Zef (X := Int × Int) (fun x => mkS [(0, slI false xl), (3, I x.1), (4, I x.2)] []) (fun x => (1 ≤ x.2 ∧ x.2 ≤ (xl.length : Int)) ∧ (Zwg xl x.2 x.1) ∧ True) (fun x => ((xl.length : Int) - x.2).toNat) ((at_ xl 0), 1) rfl (show (1 ≤ (1 : Int) ∧ (1 : Int) ≤ (xl.length : Int)) ∧ (Zwg xl (1 : Int) (at_ xl 0)) ∧ True from ⟨(by omega), (by exact isMx_1 xl), trivial⟩) (fun x hI => ?_)
    obtain ⟨m, i⟩ := x
    obtain ⟨hi0, hmx, _⟩ : (1 ≤ i ∧ i ≤ (xl.length : Int)) ∧ (Zwg xl i m) ∧ True := hI
    show XW _ _ _ _ (mkS [(0, slI false xl), (3, I m), (4, I i)] []) _ _
    refine Zap ?_
    refine Zap ?_
    by_cases h1 : i < (xl.length : Int)
    ·have hi : i.toNat < xl.length := by omega
     refine x_r [(3, .dec true)] [0, 3, 4, 15] [] [slI false xl, I m, I i, Bv true] [] [i < (xl.length : Int)] ⟨h1, trivial⟩ ?_
     refine Zab ?_
     refine Zbp rfl ?_
     refine Zbz ?_
     refine Zab ?_
     refine Zap ?_
     refine Zby ?_
     refine x_r [] [0, 3, 4] [] [slI false xl, I (max m (at_ xl i.toNat)), I i] [] [(0 : Int) ≤ i ∧ i < (xl.length : Int)] ⟨⟨(by omega), (by omega)⟩, trivial⟩ ?_
     refine Zbq 1 ?_
     refine Zab ?_
     refine x_r [] [0, 3, 4] [] [slI false xl, I (max m (at_ xl i.toNat)), I (i + 1)] [] [inR .i64 (i + 1)] ⟨(Zam (by omega) (by omega)), trivial⟩ ?_
     exact Zch ((max m (at_ xl i.toNat)), (i + 1)) rfl (show (1 ≤ (i + 1) ∧ (i + 1) ≤ (xl.length : Int)) ∧ (Zwg xl (i + 1) (max m (at_ xl i.toNat))) ∧ True from ⟨(by omega), (by exact Ydd (by omega) hmx), trivial⟩) (by first | (show (((xl.length : Int) - (i + 1)).toNat : Nat) < ((xl.length : Int) - i).toNat; omega) | (dsimp only; omega))
    rw [show i = (xl.length : Int) from by omega] at hmx
    refine x_r [(3, .dec false)] [0, 3, 4, 15] [] [slI false xl, I m, I i, Bv false] [] [¬ (i < (xl.length : Int))] ⟨h1, trivial⟩ ?_
    refine Zab ?_
    refine Zbe rfl ?_
    refine Zee ?_
    refine Zbr ?_
    refine Zbt ?_
    refine Zbs ?_
    refine Zab ?_
    refine xR [] [2] [] [I m] [] [] trivial ?_
    refine Zcd ?_
    refine Zbm m (show (Zwg xl (xl.length : Int) m) ∧ (True) from ⟨(by exact hmx), trivial⟩) (trivial) (I m) (by kernel_rfl) (.inl rfl) (fun _ => rfl) (fun _ => trivial)
  obtain ⟨v, ⟨hh0, _⟩, hc⟩ := hh
  exact ⟨v, hh0, hc⟩
-- slices.Index[[]int64,int64]
theorem Yde (s : List Int) (v : Int) : Con Tryz.prog 83 [slI false s, I v] true (I (Zcl s.length (fun j => decide (at_ s j = v)))) := by
  refine Zdb (fn := Tryz.f83) (nt := 19) Tryz.func83 rfl rfl rfl rfl (by simp [Zah, Zak, Zpa]) fun B hB => ?_
  refine Zce (x := slI false s) 0 rfl (fun len_s => ?_)
  simp [Zdr, Zgi, cI, fI, slI] at len_s
  refine aR [] [0, 1] [] [slI false s, I v] [] [] hB trivial ?_
  refine Zal ?_
  refine aR [] [0, 1, 7, 8] [] [slI false s, I v, I (s.length : Int), I 0] [] [] hB trivial ?_
  refine Zbn ?_
  refine Zdk (fun gn gσ => ∃ (t8 : Int), gn = ((s.length : Int) - t8).toNat ∧ (0 ≤ t8 ∧ t8 ≤ (s.length : Int)) ∧ (∀ j : Nat, (j : Int) < t8 → ¬ at_ s j = v) ∧ gσ = mkS [(0, slI false s), (1, I v), (7, I (s.length : Int)), (8, I t8)] []) (((s.length : Int) - 0).toNat) ⟨0, rfl, (by omega), (by intro j hj; omega), rfl⟩ (fun gn gσ hI => ?_)
  obtain ⟨t8, rfl, hi0, hne, rfl⟩ := hI
  refine Zal ?_
  by_cases h1 : t8 < (s.length : Int)
  ·have hi : t8.toNat < s.length := by omega
   refine Zbx [(0, .dec true)] [0, 1, 7, 8, 9] [] [slI false s, I v, I (s.length : Int), I t8, Bv true] [] [t8 < (s.length : Int)] hB ⟨h1, trivial⟩ ?_
   refine Zac ?_
   refine Zal ?_
   refine Zbc rfl ?_
   refine Zbf ?_
   refine Zac ?_
   refine Zal ?_
   refine Zbn ?_
   refine aR [] [0, 1, 5, 7, 8] [] [slI false s, I v, I t8, I (s.length : Int), I t8] [] [] hB trivial ?_
   refine Zal ?_
   by_cases h2 : v = (at_ s t8.toNat)
   ·have hfin : Zcl s.length (fun j => decide (at_ s j = v)) = t8.toNat := Zev hi (decide_eq_true (Eq.symm h2)) (fun j hj => decide_eq_false (hne j (by omega)))
    refine Zbx [(5, .dec true)] [0, 1, 5, 7, 8, 16] [] [slI false s, I v, I t8, I (s.length : Int), I t8, Bv true] [] [(0 : Int) ≤ t8 ∧ t8 < (s.length : Int), v = (at_ s t8.toNat)] hB ⟨⟨(by omega), (by omega)⟩, h2, trivial⟩ ?_
    refine Zac ?_
    refine Zbc rfl ?_
    refine aR [] [4] [] [I t8] [] [] hB trivial ?_
    refine Zax ?_
    refine Zat (Zai (Zai (Zat (Zai ?_))))
    refine Zba hB (I t8) (by kernel_rfl) (.inl (by refine congrArg I ?_; first | (rw [hfin]; done) | (rw [hfin]; omega))) rfl (fun _ => trivial)
   have hno : ¬ at_ s t8.toNat = v := fun q => h2 q.symm
   refine Zbx [(5, .dec false)] [0, 1, 5, 7, 8, 16] [] [slI false s, I v, I t8, I (s.length : Int), I t8, Bv false] [] [(0 : Int) ≤ t8 ∧ t8 < (s.length : Int), ¬ (v = (at_ s t8.toNat))] hB ⟨⟨(by omega), (by omega)⟩, h2, trivial⟩ ?_
   refine Zac ?_
   refine Zay rfl ?_
   refine Zbf ?_
   refine Zcm 1 ?_
   refine Zac ?_
   refine Zbx [] [0, 1, 7, 8] [] [slI false s, I v, I (s.length : Int), I (t8 + 1)] [] [inR .i64 (t8 + 1)] hB ⟨(Zam (by omega) (by omega)), trivial⟩ ?_
   exact Zcp _ (by omega) ⟨(t8 + 1), rfl, (by omega), (by intro j hj; by_cases ej : j = t8.toNat; (subst ej; exact hno); exact hne j (by omega)), rfl⟩
  have hfin : Zcl s.length (fun j => decide (at_ s j = v)) = -1 := Zel (fun j hj => decide_eq_false (hne j (by omega)))
  refine Zbx [(0, .dec false)] [0, 1, 7, 8, 9] [] [slI false s, I v, I (s.length : Int), I t8, Bv false] [] [¬ (t8 < (s.length : Int))] hB ⟨h1, trivial⟩ ?_
  refine Zac ?_
  refine Zal ?_
  refine Zay rfl ?_
  refine Zdl ?_
  refine Zas ?_
  refine Zas ?_
  refine Zbw ?_
  refine Zac ?_
  refine aR [] [4] [] [I (-1)] [] [] hB trivial ?_
  refine Zax ?_
  refine Zba hB (I (-1)) (by kernel_rfl) (.inl (by refine congrArg I ?_; first | (rw [hfin]; done) | (rw [hfin]; omega))) rfl (fun _ => trivial)
-- impl.winner
theorem Zuc (scores : List Int) (hl : 1 ≤ scores.length ∧ scores.length ≤ 1000) : Con Tryz.prog 42 [slI false scores] true (I (Zbj scores)) := by
  refine Zdb (fn := Tryz.f42) (nt := 7) Tryz.func42 rfl rfl rfl rfl (by simp [Zah, Zak, Zpa]) fun B hB => ?_
  refine Zce (x := slI false scores) 0 rfl (fun len_scores => ?_)
  simp [Zdr, Zgi, cI, fI, slI] at len_scores
  refine aR [] [0] [] [slI false scores] [] [] hB trivial ?_
  refine Zal ?_
  obtain ⟨v_1, hx1_0, hc1⟩ := Ycp scores hl
  refine Zbx [(2, .call [(true, .any)] true (I v_1)), (3, .call [(true, .any), (true, .any)] true (I (Zcl scores.length (fun j => decide (at_ scores j = v_1)))))] [2] [] [I (Zcl scores.length (fun j => decide (at_ scores j = v_1)))] [] [Con Tryz.prog 45 [slI false scores] true (I v_1) ∧ True, Con Tryz.prog 83 [slI false scores, I v_1] true (I (Zcl scores.length (fun j => decide (at_ scores j = v_1)))) ∧ True] hB ⟨⟨hc1, trivial⟩, ⟨(Yde scores v_1), trivial⟩, trivial⟩ ?_
  refine Zac ?_
  refine Zax ?_
  refine Zba hB (I (Zcl scores.length (fun j => decide (at_ scores j = v_1)))) (by kernel_rfl) (.inl (by exact congrArg I (bst_win hl.1 hx1_0))) rfl (fun _ => trivial)
-- impl.train
theorem train_ok (p : Perceptron) (s : Sample) (hp : Zbb p = true) (hs : s.Label ∈ p.Labels) (hf : Zbo s.Feats 384 = true) : ∃ (ch : Bool) (p_Labels : List ByteArray) (p_Weights : List (List Int)), (p_Labels = p.Labels) ∧ ((p_Weights, ch) = trnR p s) ∧ Zaz Tryz.prog 93 [.agg [.arr 9241, .arr 9242], Zcx s] (Zaf [(9241, tAS p.Labels), (9203, Zbl p.Weights), (9242, Zbu 9203 p.Weights)]) true (Bv ch) (Zaf [(9241, tAS p_Labels), (9203, Zbl p_Weights), (9242, Zbu 9203 p_Weights)]) := by
  have hq := okPerc_iff.1 hp
  have hpn := Zki hp
  have hfi := Zsi hs
  have hh : ∃ r : Bool × (List ByteArray) × (List (List Int)), ((r.2.1 = p.Labels) ∧ ((r.2.2, r.1) = trnR p s) ∧ (True)) ∧ Zaz Tryz.prog 93 [.agg [.arr 9241, .arr 9242], Zcx s] (Zaf [(9241, tAS p.Labels), (9203, Zbl p.Weights), (9242, Zbu 9203 p.Weights)]) true (Bv r.1) (Zaf [(9241, tAS r.2.1), (9203, Zbl r.2.2), (9242, Zbu 9203 r.2.2)]) := by
    refine Zdd (Φ := fun r : Bool × (List ByteArray) × (List (List Int)) => (r.2.1 = p.Labels) ∧ ((r.2.2, r.1) = trnR p s) ∧ (True)) [(9241, tAS p.Labels), (9203, Zbl p.Weights), (9242, Zbu 9203 p.Weights)] (fun r => [(9241, tAS r.2.1), (9203, Zbl r.2.2), (9242, Zbu 9203 r.2.2)]) (fn := Tryz.f93) (nt := 55) Tryz.func93 rfl rfl (args := [.agg [.arr 9241, .arr 9242], Zcx s]) rfl (Zbv (.inr (by simp [Zak, Zah])) (Zbv (.inl ⟨rfl, by simp [Zak, Zah, Zed]⟩) Zda)) (res := fun r => Bv r.1) ?_
    refine xR [(0, .new 2), (1, .new 3)] [2, 3] [2, 3, 9203, 9241, 9242] [.ref 2 0, .ref 3 0] [some (.box [.arr 9241, .arr 9242]), some (Zfo s), some (Zbl p.Weights), some (tAS p.Labels), some (Zbu 9203 p.Weights)] [] trivial ?_
    refine Zap ?_
    obtain ⟨v_1, hx1_0, hc1⟩ := Zql s.Feats hf
    have hinp := Ycn hf hx1_0
    have hiv := hx1_0
    have hil := hinp.2
    refine x_r [(2, .call [(true, .any)] true (slI true v_1))] [2, 3, 5] [2, 3, 9203, 9241, 9242] [.ref 2 0, .ref 3 0, slI true v_1] [some (.box [.arr 9241, .arr 9242]), some (Zfo s), some (Zbl p.Weights), some (tAS p.Labels), some (Zbu 9203 p.Weights)] [Con Tryz.prog 82 [Zau false s.Feats] true (slI true v_1) ∧ True] ⟨⟨hc1, trivial⟩, trivial⟩ ?_
    refine Zab ?_
    refine Zap ?_
    obtain ⟨v_2, hx2_0, hc2⟩ := Zoo p v_1 hp hinp
    have hsv := hx2_0
    have hsl : v_2.length = p.Weights.length := by rw [hsv, Zlx]
    rw [hiv] at hsv
    have hbi := Zji (l := v_2) (by omega)
    refine x_r [(4, .call [(false, slS false p.Labels), (true, .any)] true (I (Zaw p.Labels s.Label))), (7, .call [(false, Zae p), (false, slI false v_1)] true (slI true v_2)), (8, .call [(false, slI false v_2)] true (I (Zbj v_2)))] [2, 5, 6, 7] [2, 9203, 9241, 9242] [.ref 2 0, slI true v_1, I (Zaw p.Labels s.Label), I (Zbj v_2)] [some (.box [.arr 9241, .arr 9242]), some (Zbl p.Weights), some (tAS p.Labels), some (Zbu 9203 p.Weights)] [Con Tryz.prog 112 [slS false p.Labels, Sv s.Label] true (I (Zaw p.Labels s.Label)) ∧ ((false = true → true = true) ∧ 1 = 1 ∧ p.Labels.length = p.Labels.length ∧ ∀ i_, i_ < p.Labels.length → (fS p.Labels) i_ = (fS p.Labels) i_ ∨ (AV.idsL ((fS p.Labels) i_) = [] ∧ leL (fun _ => none) false ((fS p.Labels) i_) ((fS p.Labels) i_))) ∧ True, Con Tryz.prog 81 [Zae p, slI false v_1] true (slI true v_2) ∧ (((false = true → true = true) ∧ 1 = 1 ∧ p.Labels.length = p.Labels.length ∧ ∀ i_, i_ < p.Labels.length → (fS p.Labels) i_ = (fS p.Labels) i_ ∨ (AV.idsL ((fS p.Labels) i_) = [] ∧ leL (fun _ => none) false ((fS p.Labels) i_) ((fS p.Labels) i_))) ∧ ((false = true → true = true) ∧ 1 = 1 ∧ p.Weights.length = p.Weights.length ∧ ∀ i_, i_ < p.Weights.length → AV.idsL ((fLI false p.Weights) i_) = [] ∧ leL (Zaf [(9203, Zbl p.Weights)]) true ((oLI 9203 p.Weights) i_) ((fLI false p.Weights) i_)) ∧ ([] : List AV) = []) ∧ ((false = true → true = true) ∧ 1 = 1 ∧ v_1.length = v_1.length ∧ ∀ i_, i_ < v_1.length → (fI v_1) i_ = (fI v_1) i_ ∨ (AV.idsL ((fI v_1) i_) = [] ∧ leL (fun _ => none) false ((fI v_1) i_) ((fI v_1) i_))) ∧ True, Con Tryz.prog 42 [slI false v_2] true (I (Zbj v_2)) ∧ ((false = true → true = true) ∧ 1 = 1 ∧ v_2.length = v_2.length ∧ ∀ i_, i_ < v_2.length → (fI v_2) i_ = (fI v_2) i_ ∨ (AV.idsL ((fI v_2) i_) = [] ∧ leL (fun _ => none) false ((fI v_2) i_) ((fI v_2) i_))) ∧ True] ⟨⟨(Zuf p.Labels s.Label), ⟨(fun h => by cases h), rfl, rfl, fun i _ => .inl rfl⟩, trivial⟩, ⟨hc2, ⟨⟨(fun h => by cases h), rfl, rfl, fun i _ => .inl rfl⟩, ⟨⟨(fun h => by cases h), rfl, rfl, Zfv _ _ rfl⟩, rfl⟩⟩, ⟨(fun h => by cases h), rfl, rfl, fun i _ => .inl rfl⟩, trivial⟩, ⟨(Zuc v_2 (by omega)), ⟨(fun h => by cases h), rfl, rfl, fun i _ => .inl rfl⟩, trivial⟩, trivial⟩ ?_
    refine Zab ?_
    refine Zap ?_
    refine Zap ?_
    by_cases h1 : (Zaw p.Labels s.Label) = (Zbj v_2)
    ·have heq : Zbj (scR p.Weights (Zeb s.Feats)) = Zaw p.Labels s.Label := by rw [← hsv]; exact Eq.symm h1
     refine x_r [(2, .dec true)] [2, 5, 6, 7, 24] [2, 9203, 9241, 9242] [.ref 2 0, slI true v_1, I (Zaw p.Labels s.Label), I (Zbj v_2), Bv true] [some (.box [.arr 9241, .arr 9242]), some (Zbl p.Weights), some (tAS p.Labels), some (Zbu 9203 p.Weights)] [(Zaw p.Labels s.Label) = (Zbj v_2)] ⟨h1, trivial⟩ ?_
     refine Zab ?_
     refine Zbp rfl ?_
     refine xR [] [4] [9203, 9241, 9242] [Bv false] [some (Zbl p.Weights), some (tAS p.Labels), some (Zbu 9203 p.Weights)] [] trivial ?_
     refine Zcd ?_
     refine Zbd ?_
     refine Zbm (false, p.Labels, p.Weights) (show (p.Labels = p.Labels) ∧ ((p.Weights, false) = trnR p s) ∧ (True) from ⟨(by first | rfl | exact (Ycu heq).symm | (rw [Ycv heq, hws])), (by first | rfl | exact (Ycu heq).symm | (rw [Ycv heq, hws])), trivial⟩) (⟨.inl rfl, .inl rfl, .inl rfl, trivial⟩) (Bv false) (by kernel_rfl) (.inl rfl) (fun _ => rfl) (fun _ => trivial)
    have heq : ¬ (Zbj (scR p.Weights (Zeb s.Feats)) = Zaw p.Labels s.Label) := by rw [← hsv]; exact fun q => h1 q.symm
    have hne : (Zaw p.Labels s.Label).toNat ≠ (Zbj v_2).toNat := by omega
    refine x_r [(2, .dec false)] [2, 5, 6, 7, 24] [2, 9203, 9241, 9242] [.ref 2 0, slI true v_1, I (Zaw p.Labels s.Label), I (Zbj v_2), Bv false] [some (.box [.arr 9241, .arr 9242]), some (Zbl p.Weights), some (tAS p.Labels), some (Zbu 9203 p.Weights)] [¬ ((Zaw p.Labels s.Label) = (Zbj v_2))] ⟨h1, trivial⟩ ?_
    refine Zab ?_
    refine Zbe rfl ?_
    refine Zbz ?_
    refine Zab ?_
    refine Zap ?_
    refine xR [] [2, 6, 7, 25, 26, 27] [2, 9203, 9241, 9242] [.ref 2 0, I (Zaw p.Labels s.Label), I (Zbj v_2), slI true v_1, I (v_1.length : Int), I 0] [some (.box [.arr 9241, .arr 9242]), some (Zbl p.Weights), some (tAS p.Labels), some (Zbu 9203 p.Weights)] [] trivial ?_
    refine Zby ?_
    refine Zef (X := Int × (List (List Int))) (fun x => mkS [(2, .ref 2 0), (6, I (Zaw p.Labels s.Label)), (7, I (Zbj v_2)), (25, slI true v_1), (26, I (v_1.length : Int)), (27, I x.1)] [(2, .box [.arr 9241, .arr 9242]), (9203, Zbl x.2), (9241, tAS p.Labels), (9242, Zbu 9203 x.2)]) (fun x => (0 ≤ x.1 ∧ x.1 ≤ 25) ∧ (x.2 = Zgh p.Weights v_1 (Zaw p.Labels s.Label).toNat (Zbj v_2).toNat x.1.toNat) ∧ True) (fun x => ((25 : Int) - x.1).toNat) (0, p.Weights) rfl (show (0 ≤ (0 : Int) ∧ (0 : Int) ≤ 25) ∧ (p.Weights = Zgh p.Weights v_1 (Zaw p.Labels s.Label).toNat (Zbj v_2).toNat (0 : Int).toNat) ∧ True from ⟨(by omega), (by rfl), trivial⟩) (fun x hI => ?_)
    obtain ⟨t27, ws⟩ := x
    obtain ⟨hk0, hws, _⟩ : (0 ≤ t27 ∧ t27 ≤ 25) ∧ (ws = Zgh p.Weights v_1 (Zaw p.Labels s.Label).toNat (Zbj v_2).toNat t27.toNat) ∧ True := hI
    show XW _ _ _ _ (mkS [(2, .ref 2 0), (6, I (Zaw p.Labels s.Label)), (7, I (Zbj v_2)), (25, slI true v_1), (26, I (v_1.length : Int)), (27, I t27)] [(2, .box [.arr 9241, .arr 9242]), (9203, Zbl ws), (9241, tAS p.Labels), (9242, Zbu 9203 ws)]) _ _
    refine Zap ?_
    by_cases h2 : t27 < (v_1.length : Int)
    ·have hk : t27.toNat < 25 := by omega
     have hwl : ws.length = p.Weights.length := by rw [hws, Zlf]
     have hrW : (at_ ws (Zaw p.Labels s.Label).toNat).length = 25 := by rw [hws, Zie]; exact (Zct hq.2.2 (by omega)).1
     have hrG : (at_ ws (Zbj v_2).toNat).length = 25 := by rw [hws, Zie]; exact (Zct hq.2.2 (by omega)).1
     have hbW : -1000512 ≤ at_ (at_ ws (Zaw p.Labels s.Label).toNat) t27.toNat ∧ at_ (at_ ws (Zaw p.Labels s.Label).toNat) t27.toNat ≤ 1000512 := by rw [hws]; exact Zyj hp hinp.1 (by omega) (by omega) hne (by omega) (by omega) hk
     have hbG : -1000512 ≤ at_ (at_ ws (Zbj v_2).toNat) t27.toNat ∧ at_ (at_ ws (Zbj v_2).toNat) t27.toNat ≤ 1000512 := by rw [hws]; exact Zyj hp hinp.1 (by omega) (by omega) hne (by omega) (by omega) hk
     have hxk := hinp.1 t27.toNat
     refine x_r [(0, .dec true)] [2, 6, 7, 25, 26, 27, 28] [2, 9203, 9241, 9242] [.ref 2 0, I (Zaw p.Labels s.Label), I (Zbj v_2), slI true v_1, I (v_1.length : Int), I t27, Bv true] [some (.box [.arr 9241, .arr 9242]), some (Zbl ws), some (tAS p.Labels), some (Zbu 9203 ws)] [t27 < (v_1.length : Int)] ⟨h2, trivial⟩ ?_
     refine Zab ?_
     refine Zap ?_
     refine Zbp rfl ?_
     refine Zbz ?_
     refine Zab ?_
     refine Zap ?_
     refine Zby ?_
     refine xR [] [2, 6, 7, 8, 9, 25, 26, 27] [2, 9203, 9241, 9242] [.ref 2 0, I (Zaw p.Labels s.Label), I (Zbj v_2), I t27, I (at_ v_1 t27.toNat), slI true v_1, I (v_1.length : Int), I t27] [some (.box [.arr 9241, .arr 9242]), some (Zbl ws), some (tAS p.Labels), some (Zbu 9203 ws)] [(0 : Int) ≤ t27 ∧ t27 < (v_1.length : Int)] ⟨⟨(by omega), (by omega)⟩, trivial⟩ ?_
     refine xR [] [2, 6, 7, 8, 9, 25, 26, 27] [2, 9203, 9241, 9242] [.ref 2 0, I (Zaw p.Labels s.Label), I (Zbj v_2), I t27, I (at_ v_1 t27.toNat), slI true v_1, I (v_1.length : Int), I t27] [some (.box [.arr 9241, .arr 9242]), some (.fam ws.length 1 (mLI ws) (fun q => bif Nat.beq q ((Zaw p.Labels s.Label).toNat) then (fun q => bif Nat.beq q t27.toNat then [I ((at_ (at_ ws ((Zaw p.Labels s.Label).toNat)) t27.toNat) + (at_ v_1 t27.toNat))] else (gLI ws) ((Zaw p.Labels s.Label).toNat) q) else (gLI ws) q)), some (tAS p.Labels), some (Zbu 9203 ws)] [(0 : Int) ≤ (Zaw p.Labels s.Label) ∧ (Zaw p.Labels s.Label) < (ws.length : Int), (Zaw p.Labels s.Label).toNat < ws.length, ((Zaw p.Labels s.Label).toNat) < ws.length ∧ (0 : Int) ≤ t27 ∧ t27 < (((at_ ws ((Zaw p.Labels s.Label).toNat)).length) : Int), ((Zaw p.Labels s.Label).toNat) < ws.length ∧ t27.toNat < (at_ ws ((Zaw p.Labels s.Label).toNat)).length, inR .i64 ((at_ (at_ ws ((Zaw p.Labels s.Label).toNat)) t27.toNat) + (at_ v_1 t27.toNat)), ((Zaw p.Labels s.Label).toNat) < ws.length ∧ (0 : Int) ≤ t27 ∧ t27 < (((at_ ws ((Zaw p.Labels s.Label).toNat)).length) : Int), ((Zaw p.Labels s.Label).toNat) < ws.length ∧ t27.toNat < (at_ ws ((Zaw p.Labels s.Label).toNat)).length] ⟨⟨(by omega), (by omega)⟩, (by omega), ⟨(by omega), (by omega), (by omega)⟩, ⟨(by omega), (by omega)⟩, (Zam (by omega) (by omega)), ⟨(by omega), (by omega), (by omega)⟩, ⟨(by omega), (by omega)⟩, trivial⟩ ?_
     refine Zcy [] (T := [(2, .ref 2 0), (6, I (Zaw p.Labels s.Label)), (7, I (Zbj v_2)), (8, I t27), (9, I (at_ v_1 t27.toNat)), (25, slI true v_1), (26, I (v_1.length : Int)), (27, I t27)]) (O := [(2, .box [.arr 9241, .arr 9242]), (9203, Zbl (ws.set ((Zaw p.Labels s.Label).toNat) ((at_ ws ((Zaw p.Labels s.Label).toNat)).set t27.toNat ((at_ (at_ ws ((Zaw p.Labels s.Label).toNat)) t27.toNat) + (at_ v_1 t27.toNat))))), (9241, tAS p.Labels), (9242, Zbu 9203 (ws.set ((Zaw p.Labels s.Label).toNat) ((at_ ws ((Zaw p.Labels s.Label).toNat)).set t27.toNat ((at_ (at_ ws ((Zaw p.Labels s.Label).toNat)) t27.toNat) + (at_ v_1 t27.toNat)))))]) rfl (⟨.inl rfl, .inl rfl, .inl rfl, .inl rfl, .inl rfl, .inl rfl, .inl rfl, .inl rfl, trivial⟩) (⟨.inl rfl, .inr (Zui (P := (Zaw p.Labels s.Label).toNat) (k := t27.toNat) ((by omega)) ((by omega)) (by simp only [Nat.beq_refl, cond_true]; try rfl) (by intro i hi; simp only [Nat.beq_refl, cond_true, Zjl hi, cond_false]; try rfl) (by intro p hp; simp only [Zjl hp, cond_false])), .inl rfl, .inr ⟨rfl, rfl, (by first | rfl | (simp; done) | omega), fun i_ hi_ => .inl (Zuj 9203 ((Zaw p.Labels s.Label).toNat) ws ((at_ ws ((Zaw p.Labels s.Label).toNat)).set t27.toNat ((at_ (at_ ws ((Zaw p.Labels s.Label).toNat)) t27.toNat) + (at_ v_1 t27.toNat))) i_)⟩, trivial⟩) ?_
     refine x_r [] [2, 6, 7, 25, 26, 27] [2, 9203, 9241, 9242] [.ref 2 0, I (Zaw p.Labels s.Label), I (Zbj v_2), slI true v_1, I (v_1.length : Int), I t27] [some (.box [.arr 9241, .arr 9242]), some (.fam (ws.set ((Zaw p.Labels s.Label).toNat) ((at_ ws ((Zaw p.Labels s.Label).toNat)).set t27.toNat ((at_ (at_ ws ((Zaw p.Labels s.Label).toNat)) t27.toNat) + (at_ v_1 t27.toNat)))).length 1 (mLI (ws.set ((Zaw p.Labels s.Label).toNat) ((at_ ws ((Zaw p.Labels s.Label).toNat)).set t27.toNat ((at_ (at_ ws ((Zaw p.Labels s.Label).toNat)) t27.toNat) + (at_ v_1 t27.toNat))))) (fun q => bif Nat.beq q ((Zbj v_2).toNat) then (fun q => bif Nat.beq q t27.toNat then [I ((at_ (at_ (ws.set ((Zaw p.Labels s.Label).toNat) ((at_ ws ((Zaw p.Labels s.Label).toNat)).set t27.toNat ((at_ (at_ ws ((Zaw p.Labels s.Label).toNat)) t27.toNat) + (at_ v_1 t27.toNat)))) ((Zbj v_2).toNat)) t27.toNat) - (at_ v_1 t27.toNat))] else (gLI (ws.set ((Zaw p.Labels s.Label).toNat) ((at_ ws ((Zaw p.Labels s.Label).toNat)).set t27.toNat ((at_ (at_ ws ((Zaw p.Labels s.Label).toNat)) t27.toNat) + (at_ v_1 t27.toNat))))) ((Zbj v_2).toNat) q) else (gLI (ws.set ((Zaw p.Labels s.Label).toNat) ((at_ ws ((Zaw p.Labels s.Label).toNat)).set t27.toNat ((at_ (at_ ws ((Zaw p.Labels s.Label).toNat)) t27.toNat) + (at_ v_1 t27.toNat))))) q)), some (tAS p.Labels), some (Zbu 9203 (ws.set ((Zaw p.Labels s.Label).toNat) ((at_ ws ((Zaw p.Labels s.Label).toNat)).set t27.toNat ((at_ (at_ ws ((Zaw p.Labels s.Label).toNat)) t27.toNat) + (at_ v_1 t27.toNat)))))] [(0 : Int) ≤ (Zbj v_2) ∧ (Zbj v_2) < (((ws.set ((Zaw p.Labels s.Label).toNat) ((at_ ws ((Zaw p.Labels s.Label).toNat)).set t27.toNat ((at_ (at_ ws ((Zaw p.Labels s.Label).toNat)) t27.toNat) + (at_ v_1 t27.toNat)))).length : Nat) : Int), (Zbj v_2).toNat < (ws.set ((Zaw p.Labels s.Label).toNat) ((at_ ws ((Zaw p.Labels s.Label).toNat)).set t27.toNat ((at_ (at_ ws ((Zaw p.Labels s.Label).toNat)) t27.toNat) + (at_ v_1 t27.toNat)))).length, ((Zbj v_2).toNat) < (ws.set ((Zaw p.Labels s.Label).toNat) ((at_ ws ((Zaw p.Labels s.Label).toNat)).set t27.toNat ((at_ (at_ ws ((Zaw p.Labels s.Label).toNat)) t27.toNat) + (at_ v_1 t27.toNat)))).length ∧ (0 : Int) ≤ t27 ∧ t27 < (((at_ (ws.set ((Zaw p.Labels s.Label).toNat) ((at_ ws ((Zaw p.Labels s.Label).toNat)).set t27.toNat ((at_ (at_ ws ((Zaw p.Labels s.Label).toNat)) t27.toNat) + (at_ v_1 t27.toNat)))) ((Zbj v_2).toNat)).length) : Int), ((Zbj v_2).toNat) < (ws.set ((Zaw p.Labels s.Label).toNat) ((at_ ws ((Zaw p.Labels s.Label).toNat)).set t27.toNat ((at_ (at_ ws ((Zaw p.Labels s.Label).toNat)) t27.toNat) + (at_ v_1 t27.toNat)))).length ∧ t27.toNat < (at_ (ws.set ((Zaw p.Labels s.Label).toNat) ((at_ ws ((Zaw p.Labels s.Label).toNat)).set t27.toNat ((at_ (at_ ws ((Zaw p.Labels s.Label).toNat)) t27.toNat) + (at_ v_1 t27.toNat)))) ((Zbj v_2).toNat)).length, inR .i64 ((at_ (at_ (ws.set ((Zaw p.Labels s.Label).toNat) ((at_ ws ((Zaw p.Labels s.Label).toNat)).set t27.toNat ((at_ (at_ ws ((Zaw p.Labels s.Label).toNat)) t27.toNat) + (at_ v_1 t27.toNat)))) ((Zbj v_2).toNat)) t27.toNat) - (at_ v_1 t27.toNat)), ((Zbj v_2).toNat) < (ws.set ((Zaw p.Labels s.Label).toNat) ((at_ ws ((Zaw p.Labels s.Label).toNat)).set t27.toNat ((at_ (at_ ws ((Zaw p.Labels s.Label).toNat)) t27.toNat) + (at_ v_1 t27.toNat)))).length ∧ (0 : Int) ≤ t27 ∧ t27 < (((at_ (ws.set ((Zaw p.Labels s.Label).toNat) ((at_ ws ((Zaw p.Labels s.Label).toNat)).set t27.toNat ((at_ (at_ ws ((Zaw p.Labels s.Label).toNat)) t27.toNat) + (at_ v_1 t27.toNat)))) ((Zbj v_2).toNat)).length) : Int), ((Zbj v_2).toNat) < (ws.set ((Zaw p.Labels s.Label).toNat) ((at_ ws ((Zaw p.Labels s.Label).toNat)).set t27.toNat ((at_ (at_ ws ((Zaw p.Labels s.Label).toNat)) t27.toNat) + (at_ v_1 t27.toNat)))).length ∧ t27.toNat < (at_ (ws.set ((Zaw p.Labels s.Label).toNat) ((at_ ws ((Zaw p.Labels s.Label).toNat)).set t27.toNat ((at_ (at_ ws ((Zaw p.Labels s.Label).toNat)) t27.toNat) + (at_ v_1 t27.toNat)))) ((Zbj v_2).toNat)).length] ⟨⟨(by first | omega | (rw [Zav (by rw [List.length_set])]; omega) | (simp only [List.length_set]; omega) | ((try simp only [List.length_set]); rw [Zav (by rw [List.length_set])]; omega)), (by first | omega | (rw [Zav (by rw [List.length_set])]; omega) | (simp only [List.length_set]; omega) | ((try simp only [List.length_set]); rw [Zav (by rw [List.length_set])]; omega))⟩, (by first | omega | (rw [Zav (by rw [List.length_set])]; omega) | (simp only [List.length_set]; omega) | ((try simp only [List.length_set]); rw [Zav (by rw [List.length_set])]; omega)), ⟨(by first | omega | (rw [Zav (by rw [List.length_set])]; omega) | (simp only [List.length_set]; omega) | ((try simp only [List.length_set]); rw [Zav (by rw [List.length_set])]; omega)), (by omega), (by first | omega | (rw [Zav (by rw [List.length_set])]; omega) | (simp only [List.length_set]; omega) | ((try simp only [List.length_set]); rw [Zav (by rw [List.length_set])]; omega))⟩, ⟨(by first | omega | (rw [Zav (by rw [List.length_set])]; omega) | (simp only [List.length_set]; omega) | ((try simp only [List.length_set]); rw [Zav (by rw [List.length_set])]; omega)), (by first | omega | (rw [Zav (by rw [List.length_set])]; omega) | (simp only [List.length_set]; omega) | ((try simp only [List.length_set]); rw [Zav (by rw [List.length_set])]; omega))⟩, (by simp only [Zij]; (repeat split) <;> exact Zam (by omega) (by omega)), ⟨(by first | omega | (rw [Zav (by rw [List.length_set])]; omega) | (simp only [List.length_set]; omega) | ((try simp only [List.length_set]); rw [Zav (by rw [List.length_set])]; omega)), (by omega), (by first | omega | (rw [Zav (by rw [List.length_set])]; omega) | (simp only [List.length_set]; omega) | ((try simp only [List.length_set]); rw [Zav (by rw [List.length_set])]; omega))⟩, ⟨(by first | omega | (rw [Zav (by rw [List.length_set])]; omega) | (simp only [List.length_set]; omega) | ((try simp only [List.length_set]); rw [Zav (by rw [List.length_set])]; omega)), (by first | omega | (rw [Zav (by rw [List.length_set])]; omega) | (simp only [List.length_set]; omega) | ((try simp only [List.length_set]); rw [Zav (by rw [List.length_set])]; omega))⟩, trivial⟩ ?_
     refine Zbq 1 ?_
     refine Zab ?_
     refine Zcy [] (T := [(2, .ref 2 0), (6, I (Zaw p.Labels s.Label)), (7, I (Zbj v_2)), (25, slI true v_1), (26, I (v_1.length : Int)), (27, I t27)]) (O := [(2, .box [.arr 9241, .arr 9242]), (9203, Zbl ((ws.set ((Zaw p.Labels s.Label).toNat) ((at_ ws ((Zaw p.Labels s.Label).toNat)).set t27.toNat ((at_ (at_ ws ((Zaw p.Labels s.Label).toNat)) t27.toNat) + (at_ v_1 t27.toNat)))).set ((Zbj v_2).toNat) ((at_ (ws.set ((Zaw p.Labels s.Label).toNat) ((at_ ws ((Zaw p.Labels s.Label).toNat)).set t27.toNat ((at_ (at_ ws ((Zaw p.Labels s.Label).toNat)) t27.toNat) + (at_ v_1 t27.toNat)))) ((Zbj v_2).toNat)).set t27.toNat ((at_ (at_ (ws.set ((Zaw p.Labels s.Label).toNat) ((at_ ws ((Zaw p.Labels s.Label).toNat)).set t27.toNat ((at_ (at_ ws ((Zaw p.Labels s.Label).toNat)) t27.toNat) + (at_ v_1 t27.toNat)))) ((Zbj v_2).toNat)) t27.toNat) - (at_ v_1 t27.toNat))))), (9241, tAS p.Labels), (9242, Zbu 9203 ((ws.set ((Zaw p.Labels s.Label).toNat) ((at_ ws ((Zaw p.Labels s.Label).toNat)).set t27.toNat ((at_ (at_ ws ((Zaw p.Labels s.Label).toNat)) t27.toNat) + (at_ v_1 t27.toNat)))).set ((Zbj v_2).toNat) ((at_ (ws.set ((Zaw p.Labels s.Label).toNat) ((at_ ws ((Zaw p.Labels s.Label).toNat)).set t27.toNat ((at_ (at_ ws ((Zaw p.Labels s.Label).toNat)) t27.toNat) + (at_ v_1 t27.toNat)))) ((Zbj v_2).toNat)).set t27.toNat ((at_ (at_ (ws.set ((Zaw p.Labels s.Label).toNat) ((at_ ws ((Zaw p.Labels s.Label).toNat)).set t27.toNat ((at_ (at_ ws ((Zaw p.Labels s.Label).toNat)) t27.toNat) + (at_ v_1 t27.toNat)))) ((Zbj v_2).toNat)) t27.toNat) - (at_ v_1 t27.toNat)))))]) rfl (⟨.inl rfl, .inl rfl, .inl rfl, .inl rfl, .inl rfl, .inl rfl, trivial⟩) (⟨.inl rfl, .inr (Zui (P := (Zbj v_2).toNat) (k := t27.toNat) ((by first | omega | (rw [Zav (by rw [List.length_set])]; omega) | (simp only [List.length_set]; omega) | ((try simp only [List.length_set]); rw [Zav (by rw [List.length_set])]; omega))) ((by first | omega | (rw [Zav (by rw [List.length_set])]; omega) | (simp only [List.length_set]; omega) | ((try simp only [List.length_set]); rw [Zav (by rw [List.length_set])]; omega))) (by simp only [Nat.beq_refl, cond_true]; try rfl) (by intro i hi; simp only [Nat.beq_refl, cond_true, Zjl hi, cond_false]; try rfl) (by intro p hp; simp only [Zjl hp, cond_false])), .inl rfl, .inr ⟨rfl, rfl, (by first | rfl | (simp; done) | omega), fun i_ hi_ => .inl (Zuj 9203 ((Zbj v_2).toNat) (ws.set ((Zaw p.Labels s.Label).toNat) ((at_ ws ((Zaw p.Labels s.Label).toNat)).set t27.toNat ((at_ (at_ ws ((Zaw p.Labels s.Label).toNat)) t27.toNat) + (at_ v_1 t27.toNat)))) ((at_ (ws.set ((Zaw p.Labels s.Label).toNat) ((at_ ws ((Zaw p.Labels s.Label).toNat)).set t27.toNat ((at_ (at_ ws ((Zaw p.Labels s.Label).toNat)) t27.toNat) + (at_ v_1 t27.toNat)))) ((Zbj v_2).toNat)).set t27.toNat ((at_ (at_ (ws.set ((Zaw p.Labels s.Label).toNat) ((at_ ws ((Zaw p.Labels s.Label).toNat)).set t27.toNat ((at_ (at_ ws ((Zaw p.Labels s.Label).toNat)) t27.toNat) + (at_ v_1 t27.toNat)))) ((Zbj v_2).toNat)) t27.toNat) - (at_ v_1 t27.toNat))) i_)⟩, trivial⟩) ?_
     refine x_r [] [2, 6, 7, 25, 26, 27] [2, 9203, 9241, 9242] [.ref 2 0, I (Zaw p.Labels s.Label), I (Zbj v_2), slI true v_1, I (v_1.length : Int), I (t27 + 1)] [some (.box [.arr 9241, .arr 9242]), some (Zbl ((ws.set ((Zaw p.Labels s.Label).toNat) ((at_ ws ((Zaw p.Labels s.Label).toNat)).set t27.toNat ((at_ (at_ ws ((Zaw p.Labels s.Label).toNat)) t27.toNat) + (at_ v_1 t27.toNat)))).set ((Zbj v_2).toNat) ((at_ (ws.set ((Zaw p.Labels s.Label).toNat) ((at_ ws ((Zaw p.Labels s.Label).toNat)).set t27.toNat ((at_ (at_ ws ((Zaw p.Labels s.Label).toNat)) t27.toNat) + (at_ v_1 t27.toNat)))) ((Zbj v_2).toNat)).set t27.toNat ((at_ (at_ (ws.set ((Zaw p.Labels s.Label).toNat) ((at_ ws ((Zaw p.Labels s.Label).toNat)).set t27.toNat ((at_ (at_ ws ((Zaw p.Labels s.Label).toNat)) t27.toNat) + (at_ v_1 t27.toNat)))) ((Zbj v_2).toNat)) t27.toNat) - (at_ v_1 t27.toNat))))), some (tAS p.Labels), some (Zbu 9203 ((ws.set ((Zaw p.Labels s.Label).toNat) ((at_ ws ((Zaw p.Labels s.Label).toNat)).set t27.toNat ((at_ (at_ ws ((Zaw p.Labels s.Label).toNat)) t27.toNat) + (at_ v_1 t27.toNat)))).set ((Zbj v_2).toNat) ((at_ (ws.set ((Zaw p.Labels s.Label).toNat) ((at_ ws ((Zaw p.Labels s.Label).toNat)).set t27.toNat ((at_ (at_ ws ((Zaw p.Labels s.Label).toNat)) t27.toNat) + (at_ v_1 t27.toNat)))) ((Zbj v_2).toNat)).set t27.toNat ((at_ (at_ (ws.set ((Zaw p.Labels s.Label).toNat) ((at_ ws ((Zaw p.Labels s.Label).toNat)).set t27.toNat ((at_ (at_ ws ((Zaw p.Labels s.Label).toNat)) t27.toNat) + (at_ v_1 t27.toNat)))) ((Zbj v_2).toNat)) t27.toNat) - (at_ v_1 t27.toNat)))))] [inR .i64 (t27 + 1)] ⟨(Zam (by omega) (by omega)), trivial⟩ ?_
     exact Zch ((t27 + 1), ((ws.set ((Zaw p.Labels s.Label).toNat) ((at_ ws ((Zaw p.Labels s.Label).toNat)).set t27.toNat ((at_ (at_ ws ((Zaw p.Labels s.Label).toNat)) t27.toNat) + (at_ v_1 t27.toNat)))).set ((Zbj v_2).toNat) ((at_ (ws.set ((Zaw p.Labels s.Label).toNat) ((at_ ws ((Zaw p.Labels s.Label).toNat)).set t27.toNat ((at_ (at_ ws ((Zaw p.Labels s.Label).toNat)) t27.toNat) + (at_ v_1 t27.toNat)))) ((Zbj v_2).toNat)).set t27.toNat ((at_ (at_ (ws.set ((Zaw p.Labels s.Label).toNat) ((at_ ws ((Zaw p.Labels s.Label).toNat)).set t27.toNat ((at_ (at_ ws ((Zaw p.Labels s.Label).toNat)) t27.toNat) + (at_ v_1 t27.toNat)))) ((Zbj v_2).toNat)) t27.toNat) - (at_ v_1 t27.toNat))))) rfl (show (0 ≤ (t27 + 1) ∧ (t27 + 1) ≤ 25) ∧ (((ws.set ((Zaw p.Labels s.Label).toNat) ((at_ ws ((Zaw p.Labels s.Label).toNat)).set t27.toNat ((at_ (at_ ws ((Zaw p.Labels s.Label).toNat)) t27.toNat) + (at_ v_1 t27.toNat)))).set ((Zbj v_2).toNat) ((at_ (ws.set ((Zaw p.Labels s.Label).toNat) ((at_ ws ((Zaw p.Labels s.Label).toNat)).set t27.toNat ((at_ (at_ ws ((Zaw p.Labels s.Label).toNat)) t27.toNat) + (at_ v_1 t27.toNat)))) ((Zbj v_2).toNat)).set t27.toNat ((at_ (at_ (ws.set ((Zaw p.Labels s.Label).toNat) ((at_ ws ((Zaw p.Labels s.Label).toNat)).set t27.toNat ((at_ (at_ ws ((Zaw p.Labels s.Label).toNat)) t27.toNat) + (at_ v_1 t27.toNat)))) ((Zbj v_2).toNat)) t27.toNat) - (at_ v_1 t27.toNat)))) = Zgh p.Weights v_1 (Zaw p.Labels s.Label).toNat (Zbj v_2).toNat (t27 + 1).toNat) ∧ True from ⟨(by omega), (by rw [updW_1 hk0.1, ← hws]), trivial⟩) (by first | (show (((25 : Int) - (t27 + 1)).toNat : Nat) < ((25 : Int) - t27).toNat; omega) | (dsimp only; omega))
    have hie : t27.toNat = 25 := by omega
    rw [hie] at hws
    rw [hiv, hsv] at hws
    refine x_r [(0, .dec false)] [2, 6, 7, 25, 26, 27, 28] [2, 9203, 9241, 9242] [.ref 2 0, I (Zaw p.Labels s.Label), I (Zbj v_2), slI true v_1, I (v_1.length : Int), I t27, Bv false] [some (.box [.arr 9241, .arr 9242]), some (Zbl ws), some (tAS p.Labels), some (Zbu 9203 ws)] [¬ (t27 < (v_1.length : Int))] ⟨h2, trivial⟩ ?_
    refine Zab ?_
    refine Zap ?_
    refine Zbe rfl ?_
    refine Zee ?_
    refine Zbr ?_
    refine Zbt ?_
    refine Zbs ?_
    refine Zab ?_
    refine xR [] [4] [9203, 9241, 9242] [Bv true] [some (Zbl ws), some (tAS p.Labels), some (Zbu 9203 ws)] [] trivial ?_
    refine Zcd ?_
    refine Zbm (true, p.Labels, ws) (show (p.Labels = p.Labels) ∧ ((ws, true) = trnR p s) ∧ (True) from ⟨(by first | rfl | exact (Ycu heq).symm | (rw [Ycv heq, hws])), (by first | rfl | exact (Ycu heq).symm | (rw [Ycv heq, hws])), trivial⟩) (⟨.inl rfl, .inl rfl, .inl rfl, trivial⟩) (Bv true) (by kernel_rfl) (.inl rfl) (fun _ => rfl) (fun _ => trivial)
  obtain ⟨⟨ch, p_Labels, p_Weights⟩, ⟨hh0, hh1, _⟩, hc⟩ := hh
  exact ⟨ch, p_Labels, p_Weights, hh0, hh1, hc⟩
-- impl.trainAll
theorem Zwl (p : Perceptron) (list : List Sample) (hp : Zbb p = true) (hl : ∀ j, j < list.length → (at_ list j).Label ∈ p.Labels ∧ Zbo (at_ list j).Feats 384 = true) (hll : list.length ≤ 1000) : ∃ (n : Int) (c : Int) (p_Labels : List ByteArray) (p_Weights : List (List Int)), (p_Labels = p.Labels) ∧ ((epR p list list.length).2 = (n, c)) ∧ (c = 0 → p_Weights = (epR p list list.length).1.Weights) ∧ Zaz Tryz.prog 53 [.agg [.arr 9241, .arr 9242], Zaj false list] (Zaf [(9241, tAS p.Labels), (9203, Zbl p.Weights), (9242, Zbu 9203 p.Weights)]) true (.tup [I n, I c]) (Zaf [(9241, tAS p_Labels), (9203, Zbl p_Weights), (9242, Zbu 9203 p_Weights)]) := by
  have hh : ∃ r : Int × Int × (List ByteArray) × (List (List Int)), ((r.2.2.1 = p.Labels) ∧ ((epR p list list.length).2 = (r.1, r.2.1)) ∧ (r.2.1 = 0 → r.2.2.2 = (epR p list list.length).1.Weights) ∧ (True)) ∧ Zaz Tryz.prog 53 [.agg [.arr 9241, .arr 9242], Zaj false list] (Zaf [(9241, tAS p.Labels), (9203, Zbl p.Weights), (9242, Zbu 9203 p.Weights)]) true (.tup [I r.1, I r.2.1]) (Zaf [(9241, tAS r.2.2.1), (9203, Zbl r.2.2.2), (9242, Zbu 9203 r.2.2.2)]) := by
    refine Zdd (Φ := fun r : Int × Int × (List ByteArray) × (List (List Int)) => (r.2.2.1 = p.Labels) ∧ ((epR p list list.length).2 = (r.1, r.2.1)) ∧ (r.2.1 = 0 → r.2.2.2 = (epR p list list.length).1.Weights) ∧ (True)) [(9241, tAS p.Labels), (9203, Zbl p.Weights), (9242, Zbu 9203 p.Weights)] (fun r => [(9241, tAS r.2.2.1), (9203, Zbl r.2.2.2), (9242, Zbu 9203 r.2.2.2)]) (fn := Tryz.f53) (nt := 25) Tryz.func53 rfl rfl (args := [.agg [.arr 9241, .arr 9242], Zaj false list]) rfl (Zbv (.inr (by simp [Zak, Zah])) (Zbv (.inl ⟨rfl, Zdo false _⟩) Zda)) (res := fun r => .tup [I r.1, I r.2.1]) ?_
    refine xR [(0, .new 2)] [1, 2] [2, 9203, 9241, 9242] [Zaj false list, .ref 2 0] [some (.box [.arr 9241, .arr 9242]), some (Zbl p.Weights), some (tAS p.Labels), some (Zbu 9203 p.Weights)] [] trivial ?_
    refine xR [] [1, 2, 6] [2, 9203, 9241, 9242] [Zaj false list, .ref 2 0, I 0] [some (.box [.arr 9241, .arr 9242]), some (Zbl p.Weights), some (tAS p.Labels), some (Zbu 9203 p.Weights)] [] trivial ?_
    refine Zap ?_
    refine xR [] [2, 6, 9, 10, 11] [2, 9203, 9241, 9242] [.ref 2 0, I 0, Zaj false list, I (list.length : Int), I 0] [some (.box [.arr 9241, .arr 9242]), some (Zbl p.Weights), some (tAS p.Labels), some (Zbu 9203 p.Weights)] [] trivial ?_
    refine Zby ?_
    refine Zef (X := Int × Int × (List (List Int)) × (List ByteArray)) (fun x => mkS [(2, .ref 2 0), (6, I x.1), (9, Zaj false list), (10, I (list.length : Int)), (11, I x.2.1)] [(2, .box [.arr 9241, .arr 9242]), (9203, Zbl x.2.2.1), (9241, tAS x.2.2.2), (9242, Zbu 9203 x.2.2.1)]) (fun x => (0 ≤ x.2.1 ∧ x.2.1 ≤ (list.length : Int)) ∧ (epR p list x.2.1.toNat = (Perceptron.mk x.2.2.2 x.2.2.1, x.1, 0)) ∧ (Zbb (Perceptron.mk x.2.2.2 x.2.2.1) = true) ∧ (x.2.2.2 = p.Labels) ∧ (0 ≤ x.1 ∧ x.1 ≤ x.2.1) ∧ True) (fun x => ((list.length : Int) - x.2.1).toNat) (0, 0, p.Weights, p.Labels) rfl (show (0 ≤ (0 : Int) ∧ (0 : Int) ≤ (list.length : Int)) ∧ (epR p list (0 : Int).toNat = (Perceptron.mk p.Labels p.Weights, (0 : Int), 0)) ∧ (Zbb (Perceptron.mk p.Labels p.Weights) = true) ∧ (p.Labels = p.Labels) ∧ (0 ≤ (0 : Int) ∧ (0 : Int) ≤ (0 : Int)) ∧ True from ⟨(by omega), (by rfl), (by exact hp), (by rfl), (by omega), trivial⟩) (fun x hI => ?_)
    obtain ⟨changes, t11, ws, ls⟩ := x
    obtain ⟨hi0, hep, hok, hlb, hnb, _⟩ : (0 ≤ t11 ∧ t11 ≤ (list.length : Int)) ∧ (epR p list t11.toNat = (Perceptron.mk ls ws, changes, 0)) ∧ (Zbb (Perceptron.mk ls ws) = true) ∧ (ls = p.Labels) ∧ (0 ≤ changes ∧ changes ≤ t11) ∧ True := hI
    show XW _ _ _ _ (mkS [(2, .ref 2 0), (6, I changes), (9, Zaj false list), (10, I (list.length : Int)), (11, I t11)] [(2, .box [.arr 9241, .arr 9242]), (9203, Zbl ws), (9241, tAS ls), (9242, Zbu 9203 ws)]) _ _
    refine Zap ?_
    by_cases h1 : t11 < (list.length : Int)
    ·have hi : t11.toNat < list.length := by omega
     have hsm := hl t11.toNat hi
     refine x_r [(0, .dec true)] [2, 6, 9, 10, 11, 12] [2, 9203, 9241, 9242] [.ref 2 0, I changes, Zaj false list, I (list.length : Int), I t11, Bv true] [some (.box [.arr 9241, .arr 9242]), some (Zbl ws), some (tAS ls), some (Zbu 9203 ws)] [t11 < (list.length : Int)] ⟨h1, trivial⟩ ?_
     refine Zab ?_
     refine Zap ?_
     refine Zbp rfl ?_
     refine Zbz ?_
     refine Zab ?_
     refine Zap ?_
     refine Zby ?_
     refine xR [(2, .new 8)] [2, 6, 8, 9, 10, 11] [2, 8, 9203, 9241, 9242] [.ref 2 0, I changes, .ref 8 0, Zaj false list, I (list.length : Int), I t11] [some (.box [.arr 9241, .arr 9242]), some (Zfo (at_ list t11.toNat)), some (Zbl ws), some (tAS ls), some (Zbu 9203 ws)] [(0 : Int) ≤ t11 ∧ t11 < (list.length : Int)] ⟨⟨(by omega), (by omega)⟩, trivial⟩ ?_
     refine Zap ?_
     refine Zap ?_
     obtain ⟨ch_1, pLabels_1, pWeights_1, hx1_0, hx1_1, hc1⟩ := train_ok (Perceptron.mk ls ws) (at_ list t11.toNat) hok (by show _ ∈ ls; rw [hlb]; exact hsm.1) hsm.2
     have htl : pLabels_1 = ls := hx1_0
     have htn := trn_step hok hx1_1
     simp only at htn
     rcases Bool.eq_false_or_eq_true ch_1 with h2 | h2
     ·subst h2
      refine x_r [(2, .lend [(9241, tAS ls, tAS pLabels_1), (9203, Zbl ws, Zbl pWeights_1), (9242, Zbu 9203 ws, Zbu 9203 pWeights_1)] [] [(true, .any), (true, .any)] true (Bv true))] [2, 6, 9, 10, 11, 17] [2, 9203, 9241, 9242] [.ref 2 0, I changes, Zaj false list, I (list.length : Int), I t11, Bv true] [some (.box [.arr 9241, .arr 9242]), some (Zbl pWeights_1), some (tAS pLabels_1), some (Zbu 9203 pWeights_1)] [Zaz Tryz.prog 93 [.agg [.arr 9241, .arr 9242], Zcx (at_ list t11.toNat)] (Zaf [(9241, tAS ls), (9203, Zbl ws), (9242, Zbu 9203 ws)]) true (Bv true) (Zaf [(9241, tAS pLabels_1), (9203, Zbl pWeights_1), (9242, Zbu 9203 pWeights_1)]) ∧ (((tAS ls : Ob) = tAS ls ∨ Zes Zej true (tAS ls) (tAS ls)) ∧ Zar false (tAS ls)) ∧ (((Zbl ws : Ob) = Zbl ws ∨ Zes Zej true (Zbl ws) (Zbl ws)) ∧ Zar false (Zbl ws)) ∧ (((Zbu 9203 ws : Ob) = Zbu 9203 ws ∨ Zes Zej true (Zbu 9203 ws) (Zbu 9203 ws)) ∧ Zar false (Zbu 9203 ws)) ∧ True] ⟨⟨hc1, ⟨.inl rfl, fun _ _ => tagcS false _⟩, ⟨.inl rfl, (fun _ _ _ _ => tagcI false _)⟩, ⟨.inl rfl, (by intro i_ _; simp [oLI, oLIc, Zah, Zak])⟩, trivial⟩, trivial⟩ ?_
      refine Zab ?_
      refine Zbp rfl ?_
      refine x_r [] [2, 6, 9, 10, 11] [2, 9203, 9241, 9242] [.ref 2 0, I (changes + 1), Zaj false list, I (list.length : Int), I t11] [some (.box [.arr 9241, .arr 9242]), some (Zbl pWeights_1), some (tAS pLabels_1), some (Zbu 9203 pWeights_1)] [inR .i64 (changes + 1)] ⟨(Zam (by omega) (by omega)), trivial⟩ ?_
      refine Zab ?_
      refine Zap ?_
      rcases Bool.eq_false_or_eq_true (Zbb (Perceptron.mk pLabels_1 pWeights_1)) with h3 | h3
      ·have hpk : Zbb (Perceptron.mk ls pWeights_1) = true := by rw [← htl]; exact h3
       have hst := htn.1 hpk
       have hgo := Ydf hi0.1 hep (by rw [hst])
       rw [hst] at hgo
       refine x_r [(1, .call [(false, .agg [slS false pLabels_1, Zbg false pWeights_1])] true (Bv true))] [2, 6, 9, 10, 11, 22] [2, 9203, 9241, 9242] [.ref 2 0, I (changes + 1), Zaj false list, I (list.length : Int), I t11, Bv false] [some (.box [.arr 9241, .arr 9242]), some (Zbl pWeights_1), some (tAS pLabels_1), some (Zbu 9203 pWeights_1)] [Con Tryz.prog 14 [.agg [slS false pLabels_1, Zbg false pWeights_1]] true (Bv true) ∧ (((false = true → true = true) ∧ 1 = 1 ∧ pLabels_1.length = pLabels_1.length ∧ ∀ i_, i_ < pLabels_1.length → (fS pLabels_1) i_ = (fS pLabels_1) i_ ∨ (AV.idsL ((fS pLabels_1) i_) = [] ∧ leL (fun _ => none) false ((fS pLabels_1) i_) ((fS pLabels_1) i_))) ∧ ((false = true → true = true) ∧ 1 = 1 ∧ pWeights_1.length = pWeights_1.length ∧ ∀ i_, i_ < pWeights_1.length → AV.idsL ((fLI false pWeights_1) i_) = [] ∧ leL (Zaf [(9203, Zbl pWeights_1)]) true ((oLI 9203 pWeights_1) i_) ((fLI false pWeights_1) i_)) ∧ ([] : List AV) = []) ∧ True] ⟨⟨(Zaq h3 (Zbk (Perceptron.mk pLabels_1 pWeights_1) (fun y hy => Znk hok y (by rw [htl] at hy; exact hy)))), ⟨⟨(fun h => by cases h), rfl, rfl, fun i _ => .inl rfl⟩, ⟨⟨(fun h => by cases h), rfl, rfl, Zfv _ _ rfl⟩, rfl⟩⟩, trivial⟩, trivial⟩ ?_
       refine Zab ?_
       refine Zbe rfl ?_
       refine Zbz ?_
       refine Zbq 1 ?_
       refine Zab ?_
       refine x_r [] [2, 6, 9, 10, 11] [2, 9203, 9241, 9242] [.ref 2 0, I (changes + 1), Zaj false list, I (list.length : Int), I (t11 + 1)] [some (.box [.arr 9241, .arr 9242]), some (Zbl pWeights_1), some (tAS pLabels_1), some (Zbu 9203 pWeights_1)] [inR .i64 (t11 + 1)] ⟨(Zam (by omega) (by omega)), trivial⟩ ?_
       exact Zch ((changes + 1), (t11 + 1), pWeights_1, pLabels_1) rfl (show (0 ≤ (t11 + 1) ∧ (t11 + 1) ≤ (list.length : Int)) ∧ (epR p list (t11 + 1).toNat = (Perceptron.mk pLabels_1 pWeights_1, (changes + 1), 0)) ∧ (Zbb (Perceptron.mk pLabels_1 pWeights_1) = true) ∧ (pLabels_1 = p.Labels) ∧ (0 ≤ (changes + 1) ∧ (changes + 1) ≤ (t11 + 1)) ∧ True from ⟨(by omega), (by (rw [htl]; first | (rw [hgo]; rfl) | (rw [hgo]; simp [*]; done))), (by (rw [htl]; exact hpk)), (by exact htl.trans hlb), (by omega), trivial⟩) (by first | (show (((list.length : Int) - (t11 + 1)).toNat : Nat) < ((list.length : Int) - t11).toNat; omega) | (dsimp only; omega))
      have hpk : Zbb (Perceptron.mk ls pWeights_1) = false := by rw [← htl]; exact h3
      have hst := htn.2 hpk
      have hend := Zsl (m := list.length) hep (by rw [hst]; decide) hi
      rw [hst] at hend
      refine x_r [(1, .call [(false, .agg [slS false pLabels_1, Zbg false pWeights_1])] true (Bv false))] [2, 6, 9, 10, 11, 22] [2, 9203, 9241, 9242] [.ref 2 0, I (changes + 1), Zaj false list, I (list.length : Int), I t11, Bv true] [some (.box [.arr 9241, .arr 9242]), some (Zbl pWeights_1), some (tAS pLabels_1), some (Zbu 9203 pWeights_1)] [Con Tryz.prog 14 [.agg [slS false pLabels_1, Zbg false pWeights_1]] true (Bv false) ∧ (((false = true → true = true) ∧ 1 = 1 ∧ pLabels_1.length = pLabels_1.length ∧ ∀ i_, i_ < pLabels_1.length → (fS pLabels_1) i_ = (fS pLabels_1) i_ ∨ (AV.idsL ((fS pLabels_1) i_) = [] ∧ leL (fun _ => none) false ((fS pLabels_1) i_) ((fS pLabels_1) i_))) ∧ ((false = true → true = true) ∧ 1 = 1 ∧ pWeights_1.length = pWeights_1.length ∧ ∀ i_, i_ < pWeights_1.length → AV.idsL ((fLI false pWeights_1) i_) = [] ∧ leL (Zaf [(9203, Zbl pWeights_1)]) true ((oLI 9203 pWeights_1) i_) ((fLI false pWeights_1) i_)) ∧ ([] : List AV) = []) ∧ True] ⟨⟨(Zaq h3 (Zbk (Perceptron.mk pLabels_1 pWeights_1) (fun y hy => Znk hok y (by rw [htl] at hy; exact hy)))), ⟨⟨(fun h => by cases h), rfl, rfl, fun i _ => .inl rfl⟩, ⟨⟨(fun h => by cases h), rfl, rfl, Zfv _ _ rfl⟩, rfl⟩⟩, trivial⟩, trivial⟩ ?_
      refine Zab ?_
      refine Zbp rfl ?_
      refine xR [] [4, 5] [9203, 9241, 9242] [I 0, I 5] [some (Zbl pWeights_1), some (tAS pLabels_1), some (Zbu 9203 pWeights_1)] [] trivial ?_
      refine Zcd ?_
      refine Zdg (Zbd (Zfs (Zdg (Zbd ?_))))
      refine Zbm (0, 5, pLabels_1, pWeights_1) (show (pLabels_1 = p.Labels) ∧ ((epR p list list.length).2 = (0, 5)) ∧ (5 = 0 → pWeights_1 = (epR p list list.length).1.Weights) ∧ (True) from ⟨(by first | exact hlb | exact htl.trans hlb | (rw [hep]; done) | (rw [hend]; done) | (intro _; rw [hep]) | (intro q; exact absurd q (by decide))), (by first | exact hlb | exact htl.trans hlb | (rw [hep]; done) | (rw [hend]; done) | (intro _; rw [hep]) | (intro q; exact absurd q (by decide))), (by first | exact hlb | exact htl.trans hlb | (rw [hep]; done) | (rw [hend]; done) | (intro _; rw [hep]) | (intro q; exact absurd q (by decide))), trivial⟩) (⟨.inl rfl, .inl rfl, .inl rfl, trivial⟩) (.tup [I 0, I 5]) (by kernel_rfl) (.inl rfl) (fun _ => rfl) (fun _ => (by simp [Zak, Zah]))
     subst h2
     refine x_r [(2, .lend [(9241, tAS ls, tAS pLabels_1), (9203, Zbl ws, Zbl pWeights_1), (9242, Zbu 9203 ws, Zbu 9203 pWeights_1)] [] [(true, .any), (true, .any)] true (Bv false))] [2, 6, 9, 10, 11, 17] [2, 9203, 9241, 9242] [.ref 2 0, I changes, Zaj false list, I (list.length : Int), I t11, Bv false] [some (.box [.arr 9241, .arr 9242]), some (Zbl pWeights_1), some (tAS pLabels_1), some (Zbu 9203 pWeights_1)] [Zaz Tryz.prog 93 [.agg [.arr 9241, .arr 9242], Zcx (at_ list t11.toNat)] (Zaf [(9241, tAS ls), (9203, Zbl ws), (9242, Zbu 9203 ws)]) true (Bv false) (Zaf [(9241, tAS pLabels_1), (9203, Zbl pWeights_1), (9242, Zbu 9203 pWeights_1)]) ∧ (((tAS ls : Ob) = tAS ls ∨ Zes Zej true (tAS ls) (tAS ls)) ∧ Zar false (tAS ls)) ∧ (((Zbl ws : Ob) = Zbl ws ∨ Zes Zej true (Zbl ws) (Zbl ws)) ∧ Zar false (Zbl ws)) ∧ (((Zbu 9203 ws : Ob) = Zbu 9203 ws ∨ Zes Zej true (Zbu 9203 ws) (Zbu 9203 ws)) ∧ Zar false (Zbu 9203 ws)) ∧ True] ⟨⟨hc1, ⟨.inl rfl, fun _ _ => tagcS false _⟩, ⟨.inl rfl, (fun _ _ _ _ => tagcI false _)⟩, ⟨.inl rfl, (by intro i_ _; simp [oLI, oLIc, Zah, Zak])⟩, trivial⟩, trivial⟩ ?_
     refine Zab ?_
     refine Zbe rfl ?_
     refine Zbz ?_
     refine Zab ?_
     refine Zap ?_
     rcases Bool.eq_false_or_eq_true (Zbb (Perceptron.mk pLabels_1 pWeights_1)) with h4 | h4
     ·have hpk : Zbb (Perceptron.mk ls pWeights_1) = true := by rw [← htl]; exact h4
      have hst := htn.1 hpk
      have hgo := Ydf hi0.1 hep (by rw [hst])
      rw [hst] at hgo
      refine x_r [(1, .call [(false, .agg [slS false pLabels_1, Zbg false pWeights_1])] true (Bv true))] [2, 6, 9, 10, 11, 22] [2, 9203, 9241, 9242] [.ref 2 0, I changes, Zaj false list, I (list.length : Int), I t11, Bv false] [some (.box [.arr 9241, .arr 9242]), some (Zbl pWeights_1), some (tAS pLabels_1), some (Zbu 9203 pWeights_1)] [Con Tryz.prog 14 [.agg [slS false pLabels_1, Zbg false pWeights_1]] true (Bv true) ∧ (((false = true → true = true) ∧ 1 = 1 ∧ pLabels_1.length = pLabels_1.length ∧ ∀ i_, i_ < pLabels_1.length → (fS pLabels_1) i_ = (fS pLabels_1) i_ ∨ (AV.idsL ((fS pLabels_1) i_) = [] ∧ leL (fun _ => none) false ((fS pLabels_1) i_) ((fS pLabels_1) i_))) ∧ ((false = true → true = true) ∧ 1 = 1 ∧ pWeights_1.length = pWeights_1.length ∧ ∀ i_, i_ < pWeights_1.length → AV.idsL ((fLI false pWeights_1) i_) = [] ∧ leL (Zaf [(9203, Zbl pWeights_1)]) true ((oLI 9203 pWeights_1) i_) ((fLI false pWeights_1) i_)) ∧ ([] : List AV) = []) ∧ True] ⟨⟨(Zaq h4 (Zbk (Perceptron.mk pLabels_1 pWeights_1) (fun y hy => Znk hok y (by rw [htl] at hy; exact hy)))), ⟨⟨(fun h => by cases h), rfl, rfl, fun i _ => .inl rfl⟩, ⟨⟨(fun h => by cases h), rfl, rfl, Zfv _ _ rfl⟩, rfl⟩⟩, trivial⟩, trivial⟩ ?_
      refine Zab ?_
      refine Zbe rfl ?_
      refine Zbz ?_
      refine Zbq 1 ?_
      refine Zab ?_
      refine x_r [] [2, 6, 9, 10, 11] [2, 9203, 9241, 9242] [.ref 2 0, I changes, Zaj false list, I (list.length : Int), I (t11 + 1)] [some (.box [.arr 9241, .arr 9242]), some (Zbl pWeights_1), some (tAS pLabels_1), some (Zbu 9203 pWeights_1)] [inR .i64 (t11 + 1)] ⟨(Zam (by omega) (by omega)), trivial⟩ ?_
      exact Zch (changes, (t11 + 1), pWeights_1, pLabels_1) rfl (show (0 ≤ (t11 + 1) ∧ (t11 + 1) ≤ (list.length : Int)) ∧ (epR p list (t11 + 1).toNat = (Perceptron.mk pLabels_1 pWeights_1, changes, 0)) ∧ (Zbb (Perceptron.mk pLabels_1 pWeights_1) = true) ∧ (pLabels_1 = p.Labels) ∧ (0 ≤ changes ∧ changes ≤ (t11 + 1)) ∧ True from ⟨(by omega), (by (rw [htl]; first | (rw [hgo]; rfl) | (rw [hgo]; simp [*]; done))), (by (rw [htl]; exact hpk)), (by exact htl.trans hlb), (by omega), trivial⟩) (by first | (show (((list.length : Int) - (t11 + 1)).toNat : Nat) < ((list.length : Int) - t11).toNat; omega) | (dsimp only; omega))
     have hpk : Zbb (Perceptron.mk ls pWeights_1) = false := by rw [← htl]; exact h4
     have hst := htn.2 hpk
     have hend := Zsl (m := list.length) hep (by rw [hst]; decide) hi
     rw [hst] at hend
     refine x_r [(1, .call [(false, .agg [slS false pLabels_1, Zbg false pWeights_1])] true (Bv false))] [2, 6, 9, 10, 11, 22] [2, 9203, 9241, 9242] [.ref 2 0, I changes, Zaj false list, I (list.length : Int), I t11, Bv true] [some (.box [.arr 9241, .arr 9242]), some (Zbl pWeights_1), some (tAS pLabels_1), some (Zbu 9203 pWeights_1)] [Con Tryz.prog 14 [.agg [slS false pLabels_1, Zbg false pWeights_1]] true (Bv false) ∧ (((false = true → true = true) ∧ 1 = 1 ∧ pLabels_1.length = pLabels_1.length ∧ ∀ i_, i_ < pLabels_1.length → (fS pLabels_1) i_ = (fS pLabels_1) i_ ∨ (AV.idsL ((fS pLabels_1) i_) = [] ∧ leL (fun _ => none) false ((fS pLabels_1) i_) ((fS pLabels_1) i_))) ∧ ((false = true → true = true) ∧ 1 = 1 ∧ pWeights_1.length = pWeights_1.length ∧ ∀ i_, i_ < pWeights_1.length → AV.idsL ((fLI false pWeights_1) i_) = [] ∧ leL (Zaf [(9203, Zbl pWeights_1)]) true ((oLI 9203 pWeights_1) i_) ((fLI false pWeights_1) i_)) ∧ ([] : List AV) = []) ∧ True] ⟨⟨(Zaq h4 (Zbk (Perceptron.mk pLabels_1 pWeights_1) (fun y hy => Znk hok y (by rw [htl] at hy; exact hy)))), ⟨⟨(fun h => by cases h), rfl, rfl, fun i _ => .inl rfl⟩, ⟨⟨(fun h => by cases h), rfl, rfl, Zfv _ _ rfl⟩, rfl⟩⟩, trivial⟩, trivial⟩ ?_
     refine Zab ?_
     refine Zbp rfl ?_
     refine xR [] [4, 5] [9203, 9241, 9242] [I 0, I 5] [some (Zbl pWeights_1), some (tAS pLabels_1), some (Zbu 9203 pWeights_1)] [] trivial ?_
     refine Zcd ?_
     refine Zdg (Zbd (Zfs (Zdg (Zbd ?_))))
     refine Zbm (0, 5, pLabels_1, pWeights_1) (show (pLabels_1 = p.Labels) ∧ ((epR p list list.length).2 = (0, 5)) ∧ (5 = 0 → pWeights_1 = (epR p list list.length).1.Weights) ∧ (True) from ⟨(by first | exact hlb | exact htl.trans hlb | (rw [hep]; done) | (rw [hend]; done) | (intro _; rw [hep]) | (intro q; exact absurd q (by decide))), (by first | exact hlb | exact htl.trans hlb | (rw [hep]; done) | (rw [hend]; done) | (intro _; rw [hep]) | (intro q; exact absurd q (by decide))), (by first | exact hlb | exact htl.trans hlb | (rw [hep]; done) | (rw [hend]; done) | (intro _; rw [hep]) | (intro q; exact absurd q (by decide))), trivial⟩) (⟨.inl rfl, .inl rfl, .inl rfl, trivial⟩) (.tup [I 0, I 5]) (by kernel_rfl) (.inl rfl) (fun _ => rfl) (fun _ => (by simp [Zak, Zah]))
    have hie : t11.toNat = list.length := by omega
    rw [hie] at hep
    refine x_r [(0, .dec false)] [2, 6, 9, 10, 11, 12] [2, 9203, 9241, 9242] [.ref 2 0, I changes, Zaj false list, I (list.length : Int), I t11, Bv false] [some (.box [.arr 9241, .arr 9242]), some (Zbl ws), some (tAS ls), some (Zbu 9203 ws)] [¬ (t11 < (list.length : Int))] ⟨h1, trivial⟩ ?_
    refine Zab ?_
    refine Zap ?_
    refine Zbe rfl ?_
    refine Zee ?_
    refine Zbr ?_
    refine Zbt ?_
    refine Zbs ?_
    refine Zab ?_
    refine xR [] [4, 5] [9203, 9241, 9242] [I changes, I 0] [some (Zbl ws), some (tAS ls), some (Zbu 9203 ws)] [] trivial ?_
    refine Zcd ?_
    refine Zbm (changes, 0, ls, ws) (show (ls = p.Labels) ∧ ((epR p list list.length).2 = (changes, 0)) ∧ (0 = 0 → ws = (epR p list list.length).1.Weights) ∧ (True) from ⟨(by first | exact hlb | exact htl.trans hlb | (rw [hep]; done) | (rw [hend]; done) | (intro _; rw [hep]) | (intro q; exact absurd q (by decide))), (by first | exact hlb | exact htl.trans hlb | (rw [hep]; done) | (rw [hend]; done) | (intro _; rw [hep]) | (intro q; exact absurd q (by decide))), (by first | exact hlb | exact htl.trans hlb | (rw [hep]; done) | (rw [hend]; done) | (intro _; rw [hep]) | (intro q; exact absurd q (by decide))), trivial⟩) (⟨.inl rfl, .inl rfl, .inl rfl, trivial⟩) (.tup [I changes, I 0]) (by kernel_rfl) (.inl rfl) (fun _ => rfl) (fun _ => (by simp [Zak, Zah]))
  obtain ⟨⟨n, c, p_Labels, p_Weights⟩, ⟨hh0, hh1, hh2, _⟩, hc⟩ := hh
  exact ⟨n, c, p_Labels, p_Weights, hh0, hh1, hh2, hc⟩
-- impl.TrainEpoch
theorem Zmb (p : Perceptron) (list : List Sample) (ok : ∀ y ∈ p.Labels, y.size ≤ 9223372036854775807) (ok2 : ∀ y ∈ list, y.Label.size ≤ 9223372036854775807) : ∃ (v : Perceptron) (n : Int) (c : Int), ((v, n, c) = Zor p list) ∧ Con Tryz.prog 20 [Zae p, Zaj false list] true (.tup [Zan v, I n, I c]) := by
  have hh : ∃ r : Perceptron × Int × Int, (((r.1, r.2.1, r.2.2) = Zor p list) ∧ (True)) ∧ Zaz Tryz.prog 20 [Zae p, Zaj false list] (Zaf []) true (.tup [Zan r.1, I r.2.1, I r.2.2]) (Zaf []) := by
    refine Zdd (Φ := fun r : Perceptron × Int × Int => ((r.1, r.2.1, r.2.2) = Zor p list) ∧ (True)) [] (fun r => []) (fn := Tryz.f20) (nt := 32) Tryz.func20 rfl rfl (args := [Zae p, Zaj false list]) rfl (Zbv (.inl ⟨rfl, by simp [Zak, Zah, Zdc, Zep]⟩) (Zbv (.inl ⟨rfl, Zdo false _⟩) Zda)) (res := fun r => .tup [Zan r.1, I r.2.1, I r.2.2]) ?_
    refine xR [(0, .new 2), (1, .new 4)] [1, 2, 4] [2, 4] [Zaj false list, .ref 2 0, .ref 4 0] [some (Zag p), some (.box [Zao, Zao])] [] trivial ?_
    refine Zap ?_
    refine xR [(2, .call [(true, .any), (true, .any)] true (I (cdR p list)))] [1, 2, 4, 7] [2, 4] [Zaj false list, .ref 2 0, .ref 4 0, I (cdR p list)] [some (Zag p), some (.box [Zao, Zao])] [Con Tryz.prog 51 [Zae p, Zaj false list] true (I (cdR p list)) ∧ True] ⟨⟨(Zug p list ok ok2), trivial⟩, trivial⟩ ?_
    refine Zap ?_
    by_cases h1 : (cdR p list) = 0
    ·have hc0 := h1
     have hcd := cd_ok hc0
     have hll := hcd.2.2
     refine x_r [(1, .dec false)] [1, 2, 4, 7, 15] [2, 4] [Zaj false list, .ref 2 0, .ref 4 0, I (cdR p list), Bv false] [some (Zag p), some (.box [Zao, Zao])] [¬ ((cdR p list) ≠ 0)] ⟨(fun hq => hq h1), trivial⟩ ?_
     refine Zab ?_
     refine Zbe rfl ?_
     refine Zbz ?_
     refine Zab ?_
     refine Zap ?_
     obtain ⟨ls_1, ws_1, hx1_0, hx1_1, hc1⟩ := Zma p (Ydg hcd.1)
     have hls : ls_1 = p.Labels := hx1_0
     have how : ws_1 = p.Weights := hx1_1
     have hpp : Perceptron.mk ls_1 ws_1 = p := by rw [hls, how]
     refine x_r [(1, .lend [] [(9251, tAS ls_1), (9203, Zbl ws_1), (9252, Zbu 9203 ws_1)] [(true, .any)] false (.agg [.arr 9251, .arr 9252])), (2, .new 8)] [1, 4, 8] [4, 8, 9203, 9251, 9252] [Zaj false list, .ref 4 0, .ref 8 0] [some (.box [Zao, Zao]), some (.box [.arr 9251, .arr 9252]), some (Zbl ws_1), some (tAS ls_1), some (Zbu 9203 ws_1)] [Zaz Tryz.prog 52 [Zae p] (Zaf []) false (.agg [.arr 9251, .arr 9252]) (Zaf [(9251, tAS ls_1), (9203, Zbl ws_1), (9252, Zbu 9203 ws_1)]) ∧ True] ⟨⟨hc1, trivial⟩, trivial⟩ ?_
     refine Zab ?_
     refine Zap ?_
     refine Zcy [(9241, 9251), (9242, 9252)] (T := [(1, Zaj false list), (4, .ref 4 0), (8, .ref 8 0)]) (O := [(4, .box [Zao, Zao]), (8, .box [.arr 9241, .arr 9242]), (9203, Zbl ws_1), (9241, tAS ls_1), (9242, Zbu 9203 ws_1)]) rfl (⟨.inl rfl, .inl rfl, .inl rfl, trivial⟩) (⟨.inl rfl, .inl rfl, .inl rfl, .inl rfl, .inl rfl, trivial⟩) ?_
     obtain ⟨n_2, c_2, pLabels_2, pWeights_2, hx2_0, hx2_1, hx2_2, hc2⟩ := Zwl (Perceptron.mk ls_1 ws_1) list (by rw [hpp]; exact hcd.1) (fun j hj => by rw [hpp]; exact (hcd.2.1 j hj).2) (by omega)
     have ht1 := hx2_0
     have ht2 := hx2_1
     have ht3 := hx2_2
     rw [hpp] at ht2 ht3
     simp only at ht1
     have hye := Ycw hc0
     refine x_r [(2, .lend [(9241, tAS ls_1, tAS pLabels_2), (9203, Zbl ws_1, Zbl pWeights_2), (9242, Zbu 9203 ws_1, Zbu 9203 pWeights_2)] [] [(true, .any), (true, .any)] true (.tup [I n_2, I c_2]))] [4, 8, 9, 10] [4, 8, 9203, 9241, 9242] [.ref 4 0, .ref 8 0, I n_2, I c_2] [some (.box [Zao, Zao]), some (.box [.arr 9241, .arr 9242]), some (Zbl pWeights_2), some (tAS pLabels_2), some (Zbu 9203 pWeights_2)] [Zaz Tryz.prog 53 [.agg [.arr 9241, .arr 9242], Zaj false list] (Zaf [(9241, tAS ls_1), (9203, Zbl ws_1), (9242, Zbu 9203 ws_1)]) true (.tup [I n_2, I c_2]) (Zaf [(9241, tAS pLabels_2), (9203, Zbl pWeights_2), (9242, Zbu 9203 pWeights_2)]) ∧ (((tAS ls_1 : Ob) = tAS ls_1 ∨ Zes Zej true (tAS ls_1) (tAS ls_1)) ∧ Zar false (tAS ls_1)) ∧ (((Zbl ws_1 : Ob) = Zbl ws_1 ∨ Zes Zej true (Zbl ws_1) (Zbl ws_1)) ∧ Zar false (Zbl ws_1)) ∧ (((Zbu 9203 ws_1 : Ob) = Zbu 9203 ws_1 ∨ Zes Zej true (Zbu 9203 ws_1) (Zbu 9203 ws_1)) ∧ Zar false (Zbu 9203 ws_1)) ∧ True] ⟨⟨hc2, ⟨.inl rfl, fun _ _ => tagcS false _⟩, ⟨.inl rfl, (fun _ _ _ _ => tagcI false _)⟩, ⟨.inl rfl, (by intro i_ _; simp [oLI, oLIc, Zah, Zak])⟩, trivial⟩, trivial⟩ ?_
     refine Zab ?_
     refine Zap ?_
     refine Zap ?_
     by_cases h2 : c_2 = 0
     ·have hz := h2
      refine x_r [(1, .dec false)] [4, 8, 9, 10, 27] [4, 8, 9203, 9241, 9242] [.ref 4 0, .ref 8 0, I n_2, I c_2, Bv false] [some (.box [Zao, Zao]), some (.box [.arr 9241, .arr 9242]), some (Zbl pWeights_2), some (tAS pLabels_2), some (Zbu 9203 pWeights_2)] [¬ (c_2 ≠ 0)] ⟨(fun hq => hq h2), trivial⟩ ?_
      refine Zab ?_
      refine Zbe rfl ?_
      refine Zbz ?_
      refine Zab ?_
      refine xR [] [4, 5, 6] [4, 9203, 9241, 9242] [.ref 4 0, I n_2, I 0] [some (.box [.arr 9241, .arr 9242]), some (Zbl pWeights_2), some (tAS pLabels_2), some (Zbu 9203 pWeights_2)] [] trivial ?_
      refine Zcd ?_
      refine Zbm ((Perceptron.mk pLabels_2 pWeights_2), n_2, 0) (show (((Perceptron.mk pLabels_2 pWeights_2), n_2, 0) = Zor p list) ∧ (True) from ⟨(by first | exact hno.symm | (rw [hye]; exact Zwi ht2 hz) | (rw [hye]; exact Ycz hcd.1 (ht1.trans hls) ht2 ht3 hz)), trivial⟩) (trivial) (.tup [.agg [.arr 9241, .arr 9242], I n_2, I 0]) (by kernel_rfl) (.inr ⟨⟨⟨(fun _ => rfl), rfl, rfl, fun i _ => .inl rfl⟩, ⟨⟨(fun _ => rfl), rfl, rfl, Zfv _ _ rfl⟩, rfl⟩⟩, ⟨rfl, ⟨rfl, rfl⟩⟩⟩) (fun _ => rfl) (fun _ => (by simp [Zak, Zah, Zdc, Zep]))
     have hz := h2
     refine x_r [(1, .dec true)] [4, 8, 9, 10, 27] [4, 8, 9203, 9241, 9242] [.ref 4 0, .ref 8 0, I n_2, I c_2, Bv true] [some (.box [Zao, Zao]), some (.box [.arr 9241, .arr 9242]), some (Zbl pWeights_2), some (tAS pLabels_2), some (Zbu 9203 pWeights_2)] [c_2 ≠ 0] ⟨h2, trivial⟩ ?_
     refine Zab ?_
     refine Zbp rfl ?_
     refine xR [] [4, 5, 6] [4] [.ref 4 0, I 0, I c_2] [some (.box [Zao, Zao])] [] trivial ?_
     refine Zcd ?_
     refine Zbd ?_
     refine Zbm ((Perceptron.mk ([] : List ByteArray) ([] : List (List Int))), 0, c_2) (show (((Perceptron.mk ([] : List ByteArray) ([] : List (List Int))), 0, c_2) = Zor p list) ∧ (True) from ⟨(by first | exact hno.symm | (rw [hye]; exact Zwi ht2 hz) | (rw [hye]; exact Ycz hcd.1 (ht1.trans hls) ht2 ht3 hz)), trivial⟩) (trivial) (.tup [.agg [Zao, Zao], I 0, I c_2]) (by kernel_rfl) (.inr ⟨⟨⟨rfl, rfl⟩, ⟨⟨rfl, rfl⟩, rfl⟩⟩, ⟨rfl, ⟨rfl, rfl⟩⟩⟩) (fun _ => rfl) (fun _ => (by simp [Zak, Zah, Zdc, Zep]))
    have hno := tep_no h1
    refine x_r [(1, .dec true)] [1, 2, 4, 7, 15] [2, 4] [Zaj false list, .ref 2 0, .ref 4 0, I (cdR p list), Bv true] [some (Zag p), some (.box [Zao, Zao])] [(cdR p list) ≠ 0] ⟨h1, trivial⟩ ?_
    refine Zab ?_
    refine Zbp rfl ?_
    refine xR [] [4, 5, 6] [4] [.ref 4 0, I 0, I (cdR p list)] [some (.box [Zao, Zao])] [] trivial ?_
    refine Zcd ?_
    refine Zbd ?_
    refine Zbm ((Perceptron.mk ([] : List ByteArray) ([] : List (List Int))), 0, (cdR p list)) (show (((Perceptron.mk ([] : List ByteArray) ([] : List (List Int))), 0, (cdR p list)) = Zor p list) ∧ (True) from ⟨(by first | exact hno.symm | (rw [hye]; exact Zwi ht2 hz) | (rw [hye]; exact Ycz hcd.1 (ht1.trans hls) ht2 ht3 hz)), trivial⟩) (trivial) (.tup [.agg [Zao, Zao], I 0, I (cdR p list)]) (by kernel_rfl) (.inr ⟨⟨⟨rfl, rfl⟩, ⟨⟨rfl, rfl⟩, rfl⟩⟩, ⟨rfl, ⟨rfl, rfl⟩⟩⟩) (fun _ => rfl) (fun _ => (by simp [Zak, Zah, Zdc, Zep]))
  obtain ⟨⟨v, n, c⟩, ⟨hh0, _⟩, hc⟩ := hh
  exact ⟨v, n, c, hh0, hc⟩
-- impl.TrainOne
theorem Znh (p : Perceptron) (s : Sample) (ok : ∀ y ∈ p.Labels, y.size ≤ 9223372036854775807) (hz : s.Label.size ≤ 9223372036854775807) : ∃ (v : Perceptron) (ch : Bool) (c : Int), (v = (Zor p [s]).1 ∧ ch = decide (0 < (Zor p [s]).2.1) ∧ c = (Zor p [s]).2.2) ∧ Con Tryz.prog 6 [Zae p, Zcx s] true (.tup [Zan v, Bv ch, I c]) := by
  have hh : ∃ r : Perceptron × Bool × Int, ((r.1 = (Zor p [s]).1 ∧ r.2.1 = decide (0 < (Zor p [s]).2.1) ∧ r.2.2 = (Zor p [s]).2.2) ∧ (True)) ∧ Zaz Tryz.prog 6 [Zae p, Zcx s] (Zaf []) true (.tup [Zan r.1, Bv r.2.1, I r.2.2]) (Zaf []) := by
    refine Zdd (Φ := fun r : Perceptron × Bool × Int => (r.1 = (Zor p [s]).1 ∧ r.2.1 = decide (0 < (Zor p [s]).2.1) ∧ r.2.2 = (Zor p [s]).2.2) ∧ (True)) [] (fun r => []) (fn := Tryz.f6) (nt := 22) Tryz.func6 rfl rfl (args := [Zae p, Zcx s]) rfl (Zbv (.inl ⟨rfl, by simp [Zak, Zah, Zdc, Zep]⟩) (Zbv (.inl ⟨rfl, by simp [Zak, Zah, Zed]⟩) Zda)) (res := fun r => .tup [Zan r.1, Bv r.2.1, I r.2.2]) ?_
    refine xR [(0, .new 2), (1, .new 3), (2, .new 4)] [2, 3, 4] [2, 3, 4] [.ref 2 0, .ref 3 0, .ref 4 0] [some (Zag p), some (Zfo s), some (.box [Zao, Zao])] [] trivial ?_
    refine Zap ?_
    obtain ⟨v_1, n_1, c_1, hx1_0, hc1⟩ := Zmb p ([s]) ok (fun y hy => by simp only [List.mem_singleton] at hy; rw [hy]; exact hz)
    have hte := hx1_0
    refine x_r [(2, .new 13), (3, .call [(true, .any), (false, Zaj false ([s]))] true (.tup [Zan v_1, I n_1, I c_1])), (8, .new 7)] [4, 7, 8, 9] [4, 7] [.ref 4 0, .ref 7 0, I n_1, I c_1] [some (.box [Zao, Zao]), some (Zad v_1)] [Con Tryz.prog 20 [Zae p, Zaj false ([s])] true (.tup [Zan v_1, I n_1, I c_1]) ∧ ((false = true → true = true) ∧ 2 = 2 ∧ 1 = (([s]).length) ∧ ∀ i_, i_ < (([s]).length) → (Zcv [Sv s.Label, Zau false s.Feats] 2) i_ = (Zco false ([s])) i_ ∨ (AV.idsL ((Zco false ([s])) i_) = [] ∧ leL (fun _ => none) false ((Zcv [Sv s.Label, Zau false s.Feats] 2) i_) ((Zco false ([s])) i_))) ∧ True] ⟨⟨hc1, ⟨(fun h => by cases h), rfl, (by first | rfl | (simp; done) | (simp; omega) | omega), fun i_ hi_ => .inl (match i_, hi_ with | 0, _ => rfl | (i + 1), h => absurd h (by simp))⟩, trivial⟩, trivial⟩ ?_
    refine Zab ?_
    refine xR [] [4, 5, 6] [4] [.ref 4 0, Bv (decide (0 < n_1)), I c_1] [some (Zad v_1)] [] trivial ?_
    refine Zcd ?_
    refine Zbm (v_1, decide (0 < n_1), c_1) (show (v_1 = (Zor p [s]).1 ∧ (decide (0 < n_1)) = decide (0 < (Zor p [s]).2.1) ∧ c_1 = (Zor p [s]).2.2) ∧ (True) from ⟨(by rw [← hte]; exact ⟨rfl, rfl, rfl⟩), trivial⟩) (trivial) (.tup [Zan v_1, Bv (decide (0 < n_1)), I c_1]) (by kernel_rfl) (.inl rfl) (fun _ => rfl) (fun _ => (by simp [Zak, Zah, Zdc, Zep]))
  obtain ⟨⟨v, ch, c⟩, ⟨hh0, _⟩, hc⟩ := hh
  exact ⟨v, ch, c, hh0, hc⟩
-- spec.l08Feat
theorem Zqn (f : Feat) : Con Tryz.prog 114 [Zmk f] true (Bv (okF f)) := by
  refine Zdb (fn := Tryz.f114) (nt := 16) Tryz.func114 rfl rfl rfl rfl (by simp [Zah, Zak]) fun B hB => ?_
  refine aR [(0, .new 1)] [1] [1] [.ref 1 0] [some (Zle f)] [] hB trivial ?_
  refine Zal ?_
  rcases Bool.eq_false_or_eq_true (inB f.X 0 255) with h1 | h1
  ·rcases Bool.eq_false_or_eq_true (inB f.Y 0 255) with h2 | h2
   ·refine Zbx [(2, .call [(true, .any), (true, .any), (true, .any)] true (Bv true)), (6, .call [(true, .any), (true, .any), (true, .any)] true (Bv true)), (11, .call [(true, .any), (true, .any), (true, .any)] true (Bv (inB f.D 0 7)))] [2] [] [Bv (inB f.D 0 7)] [] [Con Tryz.prog 74 [I f.X, I 0, I 255] true (Bv true) ∧ True, Con Tryz.prog 74 [I f.Y, I 0, I 255] true (Bv true) ∧ True, Con Tryz.prog 74 [I f.D, I 0, I 7] true (Bv (inB f.D 0 7)) ∧ True] hB ⟨⟨(Zaq h1 (Zfx f.X 0 255)), trivial⟩, ⟨(Zaq h2 (Zfx f.Y 0 255)), trivial⟩, ⟨(Zfx f.D 0 7), trivial⟩, trivial⟩ ?_
    refine Zac ?_
    refine Zax ?_
    refine Zba hB (Bv (inB f.D 0 7)) (by kernel_rfl) (.inl (by first | rfl | (refine congrArg Bv ?_; simp [okF, *]; done) | (refine congrArg Bv ?_; simp [okF, *]; omega) | (refine congrArg Bv ?_; simp_all [okF]; done) | (refine congrArg Bv ?_; simp_all [okF]; omega))) rfl (fun _ => trivial)
   refine Zbx [(2, .call [(true, .any), (true, .any), (true, .any)] true (Bv true)), (6, .call [(true, .any), (true, .any), (true, .any)] true (Bv false))] [2] [] [Bv false] [] [Con Tryz.prog 74 [I f.X, I 0, I 255] true (Bv true) ∧ True, Con Tryz.prog 74 [I f.Y, I 0, I 255] true (Bv false) ∧ True] hB ⟨⟨(Zaq h1 (Zfx f.X 0 255)), trivial⟩, ⟨(Zaq h2 (Zfx f.Y 0 255)), trivial⟩, trivial⟩ ?_
   refine Zac ?_
   refine Zax ?_
   refine Zba hB (Bv false) (by kernel_rfl) (.inl (by first | rfl | (refine congrArg Bv ?_; simp [okF, *]; done) | (refine congrArg Bv ?_; simp [okF, *]; omega) | (refine congrArg Bv ?_; simp_all [okF]; done) | (refine congrArg Bv ?_; simp_all [okF]; omega))) rfl (fun _ => trivial)
  refine Zbx [(2, .call [(true, .any), (true, .any), (true, .any)] true (Bv false))] [2] [] [Bv false] [] [Con Tryz.prog 74 [I f.X, I 0, I 255] true (Bv false) ∧ True] hB ⟨⟨(Zaq h1 (Zfx f.X 0 255)), trivial⟩, trivial⟩ ?_
  refine Zac ?_
  refine Zax ?_
  refine Zba hB (Bv false) (by kernel_rfl) (.inl (by first | rfl | (refine congrArg Bv ?_; simp [okF, *]; done) | (refine congrArg Bv ?_; simp [okF, *]; omega) | (refine congrArg Bv ?_; simp_all [okF]; done) | (refine congrArg Bv ?_; simp_all [okF]; omega))) rfl (fun _ => trivial)
-- spec.l08Ok
theorem l08Ok_ok (list : List Feat) : Con Tryz.prog 95 [Zau false list] true (Bv (Zbo list 384)) := by
  refine Zdb (fn := Tryz.f95) (nt := 19) Tryz.func95 rfl rfl rfl rfl (by simp [Zah, Zak, Zed]) fun B hB => ?_
  refine Zce (x := Zau false list) 0 rfl (fun len_list => ?_)
  simp [Zdr, Zgi, Zhb, Zdp, Zau] at len_list
  refine aR [] [0] [] [Zau false list] [] [] hB trivial ?_
  refine Zal ?_
  refine aR [] [0, 3] [] [Zau false list, I 0] [] [] hB trivial ?_
  refine Zbn ?_
  refine Zdk (fun gn gσ => ∃ (i : Int), gn = ((list.length : Int) - i).toNat ∧ (0 ≤ i ∧ i ≤ (list.length : Int)) ∧ (∀ j : Nat, (j : Int) < i → okF (at_ list j) = true) ∧ gσ = mkS [(0, Zau false list), (3, I i)] []) (((list.length : Int) - 0).toNat) ⟨0, rfl, (by omega), (by intro j hj; omega), rfl⟩ (fun gn gσ hI => ?_)
  obtain ⟨i, rfl, hi0, hall0, rfl⟩ := hI
  refine Zal ?_
  refine Zal ?_
  by_cases h1 : i < (list.length : Int)
  ·have hi : i.toNat < list.length := by omega
   refine Zbx [(3, .dec true)] [0, 3, 7] [] [Zau false list, I i, Bv true] [] [i < (list.length : Int)] hB ⟨h1, trivial⟩ ?_
   refine Zac ?_
   refine Zbc rfl ?_
   refine Zbf ?_
   refine Zac ?_
   refine Zal ?_
   refine Zbn ?_
   refine Zal ?_
   rcases Bool.eq_false_or_eq_true (okF (at_ list i.toNat)) with h2 | h2
   ·refine Zbx [(4, .call [(true, .any)] true (Bv true))] [0, 3, 15] [] [Zau false list, I i, Bv false] [] [(0 : Int) ≤ i ∧ i < (list.length : Int), Con Tryz.prog 114 [Zmk (at_ list i.toNat)] true (Bv true) ∧ True] hB ⟨⟨(by omega), (by omega)⟩, ⟨(Zaq h2 (Zqn (at_ list i.toNat))), trivial⟩, trivial⟩ ?_
    refine Zac ?_
    refine Zay rfl ?_
    refine Zbf ?_
    refine Zcm 1 ?_
    refine Zac ?_
    refine Zbx [] [0, 3] [] [Zau false list, I (i + 1)] [] [inR .i64 (i + 1)] hB ⟨(Zam (by omega) (by omega)), trivial⟩ ?_
    exact Zcp _ (by omega) ⟨(i + 1), rfl, (by omega), (by intro j hj; by_cases ej : j = i.toNat; (subst ej; first | assumption | exact hok); exact hall0 j (by omega)), rfl⟩
   have hall : Zik list.length (fun j => okF (at_ list j)) = false := Zfw hi h2
   refine Zbx [(4, .call [(true, .any)] true (Bv false))] [0, 3, 15] [] [Zau false list, I i, Bv true] [] [(0 : Int) ≤ i ∧ i < (list.length : Int), Con Tryz.prog 114 [Zmk (at_ list i.toNat)] true (Bv false) ∧ True] hB ⟨⟨(by omega), (by omega)⟩, ⟨(Zaq h2 (Zqn (at_ list i.toNat))), trivial⟩, trivial⟩ ?_
   refine Zac ?_
   refine Zbc rfl ?_
   refine aR [] [2] [] [Bv false] [] [] hB trivial ?_
   refine Zax ?_
   refine Zat (Zai (Zai (Zat (Zai ?_))))
   refine Zba hB (Bv false) (by kernel_rfl) (.inl (by first | rfl | (refine congrArg Bv ?_; simp [Zbo, inB, *]; done) | (refine congrArg Bv ?_; simp [Zbo, inB, *]; omega) | (refine congrArg Bv ?_; simp_all [Zbo, inB]; done) | (refine congrArg Bv ?_; simp_all [Zbo, inB]; omega))) rfl (fun _ => trivial)
  have hall : Zik list.length (fun j => okF (at_ list j)) = true := Zfd (fun j hj => hall0 j (by omega))
  refine Zbx [(3, .dec false)] [0, 3, 7] [] [Zau false list, I i, Bv false] [] [¬ (i < (list.length : Int))] hB ⟨h1, trivial⟩ ?_
  refine Zac ?_
  refine Zay rfl ?_
  refine Zdl ?_
  refine Zas ?_
  refine Zas ?_
  refine Zbw ?_
  refine Zac ?_
  refine aR [(2, .call [(true, .any), (true, .any), (true, .any)] true (Bv (inB (list.length : Int) 1 384)))] [2] [] [Bv (inB (list.length : Int) 1 384)] [] [Con Tryz.prog 74 [I (list.length : Int), I 1, I 384] true (Bv (inB (list.length : Int) 1 384)) ∧ True] hB ⟨⟨(Zfx (list.length : Int) 1 384), trivial⟩, trivial⟩ ?_
  refine Zax ?_
  refine Zba hB (Bv (inB (list.length : Int) 1 384)) (by kernel_rfl) (.inl (by first | rfl | (refine congrArg Bv ?_; simp [Zbo, inB, *]; done) | (refine congrArg Bv ?_; simp [Zbo, inB, *]; omega) | (refine congrArg Bv ?_; simp_all [Zbo, inB]; done) | (refine congrArg Bv ?_; simp_all [Zbo, inB]; omega))) rfl (fun _ => trivial)
-- spec.l12Sample
theorem Zml (s : Sample) (hz : s.Label.size ≤ 9223372036854775807) : Con Tryz.prog 54 [.ptr false [Sv s.Label, Zau false s.Feats]] true (Bv (okS s)) := by
  refine Zdb (fn := Tryz.f54) (nt := 15) Tryz.func54 rfl rfl rfl rfl (by simp [Zah, Zak, Zed]) fun B hB => ?_
  refine Zce (x := .ptr false [Sv s.Label, Zau false s.Feats]) 0 rfl (fun len_s => ?_)
  simp [Zdr, Zgi, Zhb, Zdp, Zau] at len_s
  refine aR [] [0] [] [.ptr false [Sv s.Label, Zau false s.Feats]] [] [] hB trivial ?_
  refine Zal ?_
  rcases Bool.eq_false_or_eq_true (Zcg s.Label) with h1 | h1
  ·refine Zbx [(4, .call [(true, .any)] true (Bv true)), (10, .call [(true, .any)] true (Bv (Zbo s.Feats 384)))] [2] [] [Bv (Zbo s.Feats 384)] [] [Con Tryz.prog 94 [Sv s.Label] true (Bv true) ∧ True, Con Tryz.prog 95 [Zau false s.Feats] true (Bv (Zbo s.Feats 384)) ∧ True] hB ⟨⟨(Zaq h1 (Zen s.Label hz)), trivial⟩, ⟨(l08Ok_ok s.Feats), trivial⟩, trivial⟩ ?_
   refine Zac ?_
   refine Zax ?_
   refine Zba hB (Bv (Zbo s.Feats 384)) (by kernel_rfl) (.inl (by refine congrArg Bv ?_; unfold okS; first | (rw [show Zcg s.Label = false from by assumption]; rfl) | (rw [show Zcg s.Label = true from by assumption]; rfl))) rfl (fun _ => trivial)
  refine Zbx [(4, .call [(true, .any)] true (Bv false))] [2] [] [Bv false] [] [Con Tryz.prog 94 [Sv s.Label] true (Bv false) ∧ True] hB ⟨⟨(Zaq h1 (Zen s.Label hz)), trivial⟩, trivial⟩ ?_
  refine Zac ?_
  refine Zax ?_
  refine Zba hB (Bv false) (by kernel_rfl) (.inl (by refine congrArg Bv ?_; unfold okS; first | (rw [show Zcg s.Label = false from by assumption]; rfl) | (rw [show Zcg s.Label = true from by assumption]; rfl))) rfl (fun _ => trivial)
-- spec.l12Code
theorem Zzl (p : Perceptron) (list : List Sample) (ok : ∀ y ∈ p.Labels, y.size ≤ 9223372036854775807) (ok2 : ∀ y ∈ list, y.Label.size ≤ 9223372036854775807) : Con Tryz.prog 21 [.ptr false [slS false p.Labels, Zbg false p.Weights], Zaj false list] true (I (cdR p list)) := by
  refine Zdb (fn := Tryz.f21) (nt := 38) Tryz.func21 rfl rfl rfl rfl (by simp [Zah, Zak, Zdc, Zep, Zdo]) fun B hB => ?_
  refine Zce (x := .ptr false [slS false p.Labels, Zbg false p.Weights]) 0 rfl (fun len_p => ?_)
  simp [Zdr, Zgi, cI, cLI, cS, fI, fLI, fS, slI, Zbg, slS] at len_p
  refine Zce (x := Zaj false list) 1 rfl (fun len_list => ?_)
  simp [Zdr, Zgi, Zhb, Zea, Zdp, Zco, Zau, Zaj] at len_list
  refine aR [] [0, 1] [] [.ptr false [slS false p.Labels, Zbg false p.Weights], Zaj false list] [] [] hB trivial ?_
  refine Zal ?_
  refine Zal ?_
  rcases Bool.eq_false_or_eq_true (Zbb p) with h1 | h1
  ·have hpk := h1
   refine Zbx [(1, .call [(true, .any)] true (Bv true))] [0, 1, 9] [] [.ptr false [slS false p.Labels, Zbg false p.Weights], Zaj false list, Bv false] [] [Con Tryz.prog 35 [.ptr false [slS false p.Labels, Zbg false p.Weights]] true (Bv true) ∧ True] hB ⟨⟨(Zaq h1 (Zeu p ok)), trivial⟩, trivial⟩ ?_
   refine Zac ?_
   refine Zay rfl ?_
   refine Zbf ?_
   refine Zac ?_
   refine Zal ?_
   refine aR [] [0, 1, 5] [] [.ptr false [slS false p.Labels, Zbg false p.Weights], Zaj false list, I 0] [] [] hB trivial ?_
   refine Zbn ?_
   refine Zdk (fun gn gσ => ∃ (i : Int), gn = ((list.length : Int) - i).toNat ∧ (0 ≤ i ∧ i ≤ (list.length : Int)) ∧ (∀ j : Nat, (j : Int) < i → okS (at_ list j) = true) ∧ gσ = mkS [(0, .ptr false [slS false p.Labels, Zbg false p.Weights]), (1, Zaj false list), (5, I i)] []) (((list.length : Int) - 0).toNat) ⟨0, rfl, (by omega), (by intro j hj; omega), rfl⟩ (fun gn gσ hI => ?_)
   obtain ⟨i, rfl, hi0, hall0, rfl⟩ := hI
   refine Zal ?_
   refine Zal ?_
   by_cases h2 : i < (list.length : Int)
   ·have hi : i.toNat < list.length := by omega
    refine Zbx [(3, .dec true)] [0, 1, 5, 13] [] [.ptr false [slS false p.Labels, Zbg false p.Weights], Zaj false list, I i, Bv true] [] [i < (list.length : Int)] hB ⟨h2, trivial⟩ ?_
    refine Zac ?_
    refine Zbc rfl ?_
    refine Zbf ?_
    refine Zac ?_
    refine Zal ?_
    refine Zbn ?_
    refine Zal ?_
    rcases Bool.eq_false_or_eq_true (okS (at_ list i.toNat)) with h3 | h3
    ·have hok := h3
     refine Zbx [(3, .call [(true, .any)] true (Bv true))] [0, 1, 5, 20] [] [.ptr false [slS false p.Labels, Zbg false p.Weights], Zaj false list, I i, Bv false] [] [(0 : Int) ≤ i ∧ i < (list.length : Int), Con Tryz.prog 54 [.ptr false [Sv ((at_ list i.toNat).Label), Zau false ((at_ list i.toNat).Feats)]] true (Bv true) ∧ True] hB ⟨⟨(by omega), (by omega)⟩, ⟨(Zaq h3 (Zml (at_ list i.toNat) (ok2 _ (Zcs hi)))), trivial⟩, trivial⟩ ?_
     refine Zac ?_
     refine Zay rfl ?_
     refine Zbf ?_
     refine Zcm 1 ?_
     refine Zac ?_
     refine Zbx [] [0, 1, 5] [] [.ptr false [slS false p.Labels, Zbg false p.Weights], Zaj false list, I (i + 1)] [] [inR .i64 (i + 1)] hB ⟨(Zam (by omega) (by omega)), trivial⟩ ?_
     exact Zcp _ (by omega) ⟨(i + 1), rfl, (by omega), (by intro j hj; by_cases ej : j = i.toNat; (subst ej; exact hok); exact hall0 j (by omega)), rfl⟩
    have hst := cd_b hpk (Zfw hi h3)
    refine Zbx [(3, .call [(true, .any)] true (Bv false))] [0, 1, 5, 20] [] [.ptr false [slS false p.Labels, Zbg false p.Weights], Zaj false list, I i, Bv true] [] [(0 : Int) ≤ i ∧ i < (list.length : Int), Con Tryz.prog 54 [.ptr false [Sv ((at_ list i.toNat).Label), Zau false ((at_ list i.toNat).Feats)]] true (Bv false) ∧ True] hB ⟨⟨(by omega), (by omega)⟩, ⟨(Zaq h3 (Zml (at_ list i.toNat) (ok2 _ (Zcs hi)))), trivial⟩, trivial⟩ ?_
    refine Zac ?_
    refine Zbc rfl ?_
    refine aR [] [4] [] [I 1] [] [] hB trivial ?_
    refine Zax ?_
    refine Zat (Zai (Zai (Zat (Zai ?_))))
    refine Zba hB (I 1) (by kernel_rfl) (.inl (by exact congrArg I hst.symm)) rfl (fun _ => trivial)
   have hal : Zik list.length (fun j => okS (at_ list j)) = true := Zfd (fun j hj => hall0 j (by omega))
   refine Zbx [(3, .dec false)] [0, 1, 5, 13] [] [.ptr false [slS false p.Labels, Zbg false p.Weights], Zaj false list, I i, Bv false] [] [¬ (i < (list.length : Int))] hB ⟨h2, trivial⟩ ?_
   refine Zac ?_
   refine Zay rfl ?_
   refine Zdl ?_
   refine Zas ?_
   refine Zas ?_
   refine Zbw ?_
   refine Zac ?_
   refine Zal ?_
   refine aR [] [0, 1, 6] [] [.ptr false [slS false p.Labels, Zbg false p.Weights], Zaj false list, I 0] [] [] hB trivial ?_
   refine Zbn ?_
   refine Zdk (fun gn gσ => ∃ (i' : Int), gn = ((list.length : Int) - i').toNat ∧ (0 ≤ i' ∧ i' ≤ (list.length : Int)) ∧ (∀ j : Nat, (j : Int) < i' → decide (0 ≤ Zaw p.Labels (at_ list j).Label) = true) ∧ gσ = mkS [(0, .ptr false [slS false p.Labels, Zbg false p.Weights]), (1, Zaj false list), (6, I i')] []) (((list.length : Int) - 0).toNat) ⟨0, rfl, (by omega), (by intro j hj; omega), rfl⟩ (fun gn gσ hI => ?_)
   obtain ⟨i', rfl, hj0, hall1, rfl⟩ := hI
   refine Zal ?_
   refine Zal ?_
   by_cases h4 : i' < (list.length : Int)
   ·have hi2 : i'.toNat < list.length := by omega
    refine Zbx [(3, .dec true)] [0, 1, 6, 24] [] [.ptr false [slS false p.Labels, Zbg false p.Weights], Zaj false list, I i', Bv true] [] [i' < (list.length : Int)] hB ⟨h4, trivial⟩ ?_
    refine Zac ?_
    refine Zbc rfl ?_
    refine Zbf ?_
    refine Zac ?_
    refine Zal ?_
    refine Zbn ?_
    refine Zal ?_
    by_cases h5 : (Zaw p.Labels ((at_ list i'.toNat).Label)) < 0
    ·have hst := cd_c hpk hal (Zfw hi2 (decide_eq_false (by omega)))
     refine Zbx [(6, .call [(true, .any), (true, .any)] true (I (Zaw p.Labels ((at_ list i'.toNat).Label)))), (7, .dec true)] [0, 1, 6, 34] [] [.ptr false [slS false p.Labels, Zbg false p.Weights], Zaj false list, I i', Bv true] [] [(0 : Int) ≤ i' ∧ i' < (list.length : Int), Con Tryz.prog 55 [.ptr false [slS false p.Labels, Zbg false p.Weights], Sv ((at_ list i'.toNat).Label)] true (I (Zaw p.Labels ((at_ list i'.toNat).Label))) ∧ True, (Zaw p.Labels ((at_ list i'.toNat).Label)) < 0] hB ⟨⟨(by omega), (by omega)⟩, ⟨(Zmc p ((at_ list i'.toNat).Label)), trivial⟩, h5, trivial⟩ ?_
     refine Zac ?_
     refine Zbc rfl ?_
     refine aR [] [4] [] [I 3] [] [] hB trivial ?_
     refine Zax ?_
     refine Zat (Zai (Zai (Zat (Zai ?_))))
     refine Zba hB (I 3) (by kernel_rfl) (.inl (by exact congrArg I hst.symm)) rfl (fun _ => trivial)
    have hok2 : decide (0 ≤ Zaw p.Labels (at_ list i'.toNat).Label) = true := decide_eq_true (by omega)
    refine Zbx [(6, .call [(true, .any), (true, .any)] true (I (Zaw p.Labels ((at_ list i'.toNat).Label)))), (7, .dec false)] [0, 1, 6, 34] [] [.ptr false [slS false p.Labels, Zbg false p.Weights], Zaj false list, I i', Bv false] [] [(0 : Int) ≤ i' ∧ i' < (list.length : Int), Con Tryz.prog 55 [.ptr false [slS false p.Labels, Zbg false p.Weights], Sv ((at_ list i'.toNat).Label)] true (I (Zaw p.Labels ((at_ list i'.toNat).Label))) ∧ True, ¬ ((Zaw p.Labels ((at_ list i'.toNat).Label)) < 0)] hB ⟨⟨(by omega), (by omega)⟩, ⟨(Zmc p ((at_ list i'.toNat).Label)), trivial⟩, h5, trivial⟩ ?_
    refine Zac ?_
    refine Zay rfl ?_
    refine Zbf ?_
    refine Zcm 3 ?_
    refine Zac ?_
    refine Zbx [] [0, 1, 6] [] [.ptr false [slS false p.Labels, Zbg false p.Weights], Zaj false list, I (i' + 1)] [] [inR .i64 (i' + 1)] hB ⟨(Zam (by omega) (by omega)), trivial⟩ ?_
    exact Zcp _ (by omega) ⟨(i' + 1), rfl, (by omega), (by intro j hj; by_cases ej : j = i'.toNat; (subst ej; exact hok2); exact hall1 j (by omega)), rfl⟩
   have hal2 : Zik list.length (fun j => decide (0 ≤ Zaw p.Labels (at_ list j).Label)) = true := Zfd (fun j hj => hall1 j (by omega))
   refine Zbx [(3, .dec false)] [0, 1, 6, 24] [] [.ptr false [slS false p.Labels, Zbg false p.Weights], Zaj false list, I i', Bv false] [] [¬ (i' < (list.length : Int))] hB ⟨h4, trivial⟩ ?_
   refine Zac ?_
   refine Zay rfl ?_
   refine Zdl ?_
   refine Zas ?_
   refine Zas ?_
   refine Zbw ?_
   refine Zac ?_
   refine Zal ?_
   refine Zal ?_
   by_cases h6 : 40 < (list.length : Int)
   ·have hst := cd_d hpk hal hal2 h6
    refine Zbx [(2, .dec true)] [37] [] [Bv true] [] [40 < (list.length : Int)] hB ⟨h6, trivial⟩ ?_
    refine Zac ?_
    refine Zbc rfl ?_
    refine aR [] [4] [] [I 2] [] [] hB trivial ?_
    refine Zax ?_
    refine Zai ?_
    refine Zba hB (I 2) (by kernel_rfl) (.inl (by exact congrArg I hst.symm)) rfl (fun _ => trivial)
   have hst := cd_e hpk hal hal2 h6
   refine Zbx [(2, .dec false)] [37] [] [Bv false] [] [¬ (40 < (list.length : Int))] hB ⟨h6, trivial⟩ ?_
   refine Zac ?_
   refine Zay rfl ?_
   refine Zbf ?_
   refine Zac ?_
   refine aR [] [4] [] [I 0] [] [] hB trivial ?_
   refine Zax ?_
   refine Zba hB (I 0) (by kernel_rfl) (.inl (by exact congrArg I hst.symm)) rfl (fun _ => trivial)
  have hst := cd_a (list := list) h1
  refine Zbx [(1, .call [(true, .any)] true (Bv false))] [0, 1, 9] [] [.ptr false [slS false p.Labels, Zbg false p.Weights], Zaj false list, Bv true] [] [Con Tryz.prog 35 [.ptr false [slS false p.Labels, Zbg false p.Weights]] true (Bv false) ∧ True] hB ⟨⟨(Zaq h1 (Zeu p ok)), trivial⟩, trivial⟩ ?_
  refine Zac ?_
  refine Zbc rfl ?_
  refine aR [] [4] [] [I 1] [] [] hB trivial ?_
  refine Zax ?_
  refine Zai ?_
  refine Zba hB (I 1) (by kernel_rfl) (.inl (by exact congrArg I hst.symm)) rfl (fun _ => trivial)
theorem Zhv {a b : Perceptron} (h : a = b) : Zky a b = true := by subst h; exact Zzm _
def toR (p : Perceptron) (s : Sample) : Perceptron × Bool × Int := if cdR p [s] = 0 then Zdt p s else (⟨[], []⟩, false, cdR p [s])
theorem to_no {p : Perceptron} {s : Sample} (h : ¬ cdR p [s] = 0) : toR p s = (⟨[], []⟩, false, cdR p [s]) := if_neg h
theorem Ydh {p : Perceptron} {s : Sample} (h : cdR p [s] = 0) : toR p s = Zdt p s := if_pos h
theorem Zzn (p : Perceptron) (s : Sample) : (Zdt p s).2.2 = 0 ∨ Zdt p s = (⟨[], []⟩, false, 5) := by
  by_cases h1 : Zbj (scR p.Weights (Zeb s.Feats)) = Zaw p.Labels s.Label
  · rw [Zjx h1]; exact .inl rfl
  · by_cases h2 : Zbb ⟨p.Labels, Zgh p.Weights (Zeb s.Feats) (Zaw p.Labels s.Label).toNat (Zbj (scR p.Weights (Zeb s.Feats))).toNat 25⟩ = true
    · rw [Zkz h1 h2]; exact .inl rfl
    · rw [Zmj h1 h2]; exact .inr rfl
theorem tep1 (p : Perceptron) (s : Sample) : (Zor p [s]).1 = (toR p s).1 ∧ decide (0 < (Zor p [s]).2.1) = (toR p s).2.1 ∧ (Zor p [s]).2.2 = (toR p s).2.2 := by
  by_cases h : cdR p [s] = 0
  · rw [Ycw h, Ydh h]
    have e : epR p [s] [s].length = if (Zdt p s).2.2 = 0 then ((Zdt p s).1, 0 + (if (Zdt p s).2.1 = true then 1 else 0), 0) else (⟨[], []⟩, 0, (Zdt p s).2.2) := rfl
    rw [e]
    rcases Zzn p s with h2 | h2
    · rw [if_pos h2]
      refine ⟨rfl, ?_, h2.symm⟩
      show decide (0 < (0 : Int) + (if (Zdt p s).2.1 = true then 1 else 0)) = (Zdt p s).2.1
      cases (Zdt p s).2.1 <;> decide
    · rw [h2]; exact ⟨rfl, rfl, rfl⟩
  · rw [tep_no h, to_no h]; exact ⟨rfl, rfl, rfl⟩
def Zuw (X W : List (List Int)) (k : Nat) : Nat → Int
  | 0 => 0
  | n + 1 => Zuw X W k n + at_ (at_ X n) k - at_ (at_ W n) k
theorem sumD_1 {X W : List (List Int)} {k : Nat} {i : Int} (h : 0 ≤ i) : Zuw X W k (i + 1).toNat = Zuw X W k i.toNat + at_ (at_ X i.toNat) k - at_ (at_ W i.toNat) k := by
  rw [show (i + 1).toNat = i.toNat + 1 from by omega]; rfl
theorem Zuk (W : List (List Int)) (k : Nat) : ∀ n, Zuw W W k n = 0
  | 0 => rfl
  | n + 1 => by have := Zuk W k n; unfold Zuw; omega
theorem Yaa {X W : List (List Int)} (hx : Zjm X = true) (hw : Zjm W = true) (hl : X.length = W.length) {k : Nat} (hk : k < 25) : ∀ n, n ≤ W.length → -2000000 * (n : Int) ≤ Zuw X W k n ∧ Zuw X W k n ≤ 2000000 * (n : Int)
  | 0, _ => ⟨by show -2000000 * ((0 : Nat) : Int) ≤ 0; decide, by show (0 : Int) ≤ 2000000 * ((0 : Nat) : Int); decide⟩
  | n + 1, h => by
    have q1 := Yaa hx hw hl hk n (by omega)
    have q2 := (Zct hx (j := n) (by omega)).2 k hk
    have q3 := (Zct hw (j := n) (by omega)).2 k hk
    unfold Zuw; omega
theorem Zyk {W : List (List Int)} {x : List Int} {w g k : Nat} (hw : w < W.length) (hg : g < W.length) (hne : w ≠ g) (hl : ∀ j, j < W.length → (at_ W j).length = 25) (hk : k < 25) : ∀ n, Zuw (Zgh W x w g 25) W k n = (if w < n then at_ x k else 0) - (if g < n then at_ x k else 0)
  | 0 => rfl
  | n + 1 => by
    have ih := Zyk (x := x) hw hg hne hl hk n
    have h2 := Zsm (x := x) hw hg hne hl 25 (Nat.le_refl _) n k
    rw [if_pos hk] at h2
    unfold Zuw
    rw [ih, h2]
    by_cases e1 : n = w
    · subst e1
      rw [if_pos rfl, if_neg (Nat.lt_irrefl _), if_pos (Nat.lt_succ_self _)]
      by_cases e2 : g < n
      · rw [if_pos e2, if_pos (by omega)]; omega
      · rw [if_neg e2, if_neg (by omega)]; omega
    · rw [if_neg e1]
      by_cases e2 : n = g
      · subst e2
        rw [if_pos rfl, if_neg (Nat.lt_irrefl n), if_pos (Nat.lt_succ_self n)]
        by_cases e3 : w < n
        · rw [if_pos e3, if_pos (by omega)]; omega
        · rw [if_neg e3, if_neg (by omega)]; omega
      · rw [if_neg e2]
        have a1 : (w < n + 1) ↔ (w < n) := by omega
        have a2 : (g < n + 1) ↔ (g < n) := by omega
        simp only [a1, a2]; omega
theorem step_sum {p : Perceptron} {s : Sample} (hp : Zbb p = true) (hs : s.Label ∈ p.Labels) (h1 : ¬ Zbj (scR p.Weights (Zeb s.Feats)) = Zaw p.Labels s.Label) {k : Nat} (hk : k < 25) : Zuw (Zgh p.Weights (Zeb s.Feats) (Zaw p.Labels s.Label).toNat (Zbj (scR p.Weights (Zeb s.Feats))).toNat 25) p.Weights k p.Weights.length = 0 := by
  have hin := Zqs hp hs
  have hr : ∀ j, j < p.Weights.length → (at_ p.Weights j).length = 25 := fun j hj => (Zct (okPerc_iff.1 hp).2.2 hj).1
  generalize Zbj (scR p.Weights (Zeb s.Feats)) = b at *
  generalize Zaw p.Labels s.Label = a at *
  generalize Zeb s.Feats = x at *
  generalize p.Weights = W at *
  have ha : a.toNat < W.length := by omega
  have hb : b.toNat < W.length := by omega
  have hab : a.toNat ≠ b.toNat := by omega
  rw [Zyk ha hb hab hr hk, if_pos ha, if_pos hb]
  exact Int.sub_self _
section
attribute [local irreducible] Zgh
theorem to_facts {p : Perceptron} {s : Sample} (h : (toR p s).2.2 = 0) : cdR p [s] = 0 ∧ Zbb p = true ∧ s.Label ∈ p.Labels ∧ Zbo s.Feats 384 = true ∧ Zbb (toR p s).1 = true ∧ (toR p s).1.Weights.length = p.Weights.length ∧ ((toR p s).2.1 = false → (toR p s).1 = p) ∧
    ((toR p s).2.1 = false ↔ Zbj (scR p.Weights (Zeb s.Feats)) = Zaw p.Labels s.Label) ∧ ∀ k, k < 25 → Zuw (toR p s).1.Weights p.Weights k p.Weights.length = 0 := by
  by_cases hc : cdR p [s] = 0
  · have hcd := cd_ok hc
    have hs := hcd.2.1 0 Nat.zero_lt_one
    have e0 : at_ [s] 0 = s := rfl
    rw [e0] at hs
    rw [Ydh hc] at h ⊢
    have hok := Ydi hcd.1 h
    have hin := Zqs hcd.1 hs.2.1
    have hq := okPerc_iff.1 hcd.1
    have hiff := step_n h
    refine ⟨hc, hcd.1, hs.2.1, hs.2.2, hok.1, ?_, ?_, hiff, ?_⟩
    · have := (okPerc_iff.1 hok.1).2.1; rw [this, hok.2]; exact hq.2.1.symm
    · intro h2; rw [Zjx (hiff.1 h2)]
    · intro k hk
      by_cases h1 : Zbj (scR p.Weights (Zeb s.Feats)) = Zaw p.Labels s.Label
      · exact Eq.trans (congrArg (fun q : Perceptron × Bool × Int => Zuw q.1.Weights p.Weights k p.Weights.length) (Zjx h1)) (Zuk _ _ _)
      · by_cases h2 : Zbb ⟨p.Labels, Zgh p.Weights (Zeb s.Feats) (Zaw p.Labels s.Label).toNat (Zbj (scR p.Weights (Zeb s.Feats))).toNat 25⟩ = true
        · refine Eq.trans (congrArg (fun q : Perceptron × Bool × Int => Zuw q.1.Weights p.Weights k p.Weights.length) (Zkz h1 h2)) ?_
          exact step_sum hcd.1 hs.2.1 h1 hk
        · rw [Zmj h1 h2] at h; cases h
  · rw [to_no hc] at h; exact absurd h hc
end
-- spec.TrainOne
theorem Zni (p : Perceptron) (s : Sample) (ok : ∀ y ∈ p.Labels, y.size ≤ 9223372036854775807) (hz : s.Label.size ≤ 9223372036854775807) : ∃ (v : Perceptron) (ch : Bool) (c : Int), ((v, ch, c) = toR p s) ∧ Con Tryz.prog 7 [Zae p, Zcx s] true (.tup [Zan v, Bv ch, I c]) := by
  have hh : ∃ r : Perceptron × Bool × Int, (((r.1, r.2.1, r.2.2) = toR p s) ∧ (True)) ∧ Zaz Tryz.prog 7 [Zae p, Zcx s] (Zaf []) true (.tup [Zan r.1, Bv r.2.1, I r.2.2]) (Zaf []) := by
    refine Zdd (Φ := fun r : Perceptron × Bool × Int => ((r.1, r.2.1, r.2.2) = toR p s) ∧ (True)) [] (fun r => []) (fn := Tryz.f7) (nt := 20) Tryz.func7 rfl rfl (args := [Zae p, Zcx s]) rfl (Zbv (.inl ⟨rfl, by simp [Zak, Zah, Zdc, Zep]⟩) (Zbv (.inl ⟨rfl, by simp [Zak, Zah, Zed]⟩) Zda)) (res := fun r => .tup [Zan r.1, Bv r.2.1, I r.2.2]) ?_
    refine xR [(0, .new 2), (1, .new 3), (2, .new 4)] [2, 3, 4] [2, 3, 4] [.ref 2 0, .ref 3 0, .ref 4 0] [some (Zag p), some (Zfo s), some (.box [Zao, Zao])] [] trivial ?_
    refine xR [(1, .new 9), (2, .call [(false, .ptr false [slS false p.Labels, Zbg false p.Weights]), (false, Zaj false ([s]))] true (I (cdR p ([s]))))] [2, 3, 4, 7] [2, 3, 4] [.ref 2 0, .ref 3 0, .ref 4 0, I (cdR p ([s]))] [some (Zag p), some (Zfo s), some (.box [Zao, Zao])] [Con Tryz.prog 21 [.ptr false [slS false p.Labels, Zbg false p.Weights], Zaj false ([s])] true (I (cdR p ([s]))) ∧ ((false = true → true = true) ∧ AV.idsL [slS false p.Labels, Zbg false p.Weights] = [] ∧ ((false = true → false = true) ∧ 1 = 1 ∧ p.Labels.length = p.Labels.length ∧ ∀ i_, i_ < p.Labels.length → (fS p.Labels) i_ = (fS p.Labels) i_ ∨ (AV.idsL ((fS p.Labels) i_) = [] ∧ leL (fun _ => none) false ((fS p.Labels) i_) ((fS p.Labels) i_))) ∧ ((false = true → false = true) ∧ 1 = 1 ∧ p.Weights.length = p.Weights.length ∧ ∀ i_, i_ < p.Weights.length → (fLI false p.Weights) i_ = (fLI false p.Weights) i_ ∨ (AV.idsL ((fLI false p.Weights) i_) = [] ∧ leL (fun _ => none) false ((fLI false p.Weights) i_) ((fLI false p.Weights) i_))) ∧ ([] : List AV) = []) ∧ ((false = true → true = true) ∧ 2 = 2 ∧ 1 = (([s]).length) ∧ ∀ i_, i_ < (([s]).length) → (Zcv [Sv s.Label, Zau false s.Feats] 2) i_ = (Zco false ([s])) i_ ∨ (AV.idsL ((Zco false ([s])) i_) = [] ∧ leL (fun _ => none) false ((Zcv [Sv s.Label, Zau false s.Feats] 2) i_) ((Zco false ([s])) i_))) ∧ True] ⟨⟨(Zzl p ([s]) ok (fun y hy => by simp only [List.mem_singleton] at hy; rw [hy]; exact hz)), ⟨(fun h => by cases h), rfl, ⟨⟨(fun h => by cases h), rfl, rfl, fun i _ => .inl rfl⟩, ⟨⟨(fun h => by cases h), rfl, rfl, fun i _ => .inl rfl⟩, rfl⟩⟩⟩, ⟨(fun h => by cases h), rfl, (by first | rfl | (simp; done) | (simp; omega) | omega), fun i_ hi_ => .inl (match i_, hi_ with | 0, _ => rfl | (i + 1), h => absurd h (by simp))⟩, trivial⟩, trivial⟩ ?_
    refine Zap ?_
    refine Zap ?_
    by_cases h1 : (cdR p ([s])) = 0
    ·have hc0 := h1
     have hcd := cd_ok hc0
     have hst := Ydh hc0
     have hs0 := hcd.2.1 0 Nat.zero_lt_one
     have e0 : at_ [s] 0 = s := rfl
     rw [e0] at hs0
     refine x_r [(1, .dec false)] [2, 3, 4, 7, 12] [2, 3, 4] [.ref 2 0, .ref 3 0, .ref 4 0, I (cdR p ([s])), Bv false] [some (Zag p), some (Zfo s), some (.box [Zao, Zao])] [¬ ((cdR p ([s])) ≠ 0)] ⟨(fun hq => hq h1), trivial⟩ ?_
     refine Zab ?_
     refine Zbe rfl ?_
     refine Zbz ?_
     refine Zab ?_
     refine Zap ?_
     refine Zcy [] (T := [(2, .ref 2 0), (3, .ptr true [Sv s.Label, Zau false s.Feats]), (4, .ref 4 0), (7, I (cdR p ([s]))), (12, Bv false)]) (O := [(2, Zag p), (4, .box [Zao, Zao])]) rfl (⟨.inl rfl, .inr ⟨(fun _ => rfl), rfl, ⟨rfl, ⟨⟨(fun h => by cases h), rfl, rfl, fun i _ => .inl rfl⟩, rfl⟩⟩⟩, .inl rfl, .inl rfl, .inl rfl, trivial⟩) (⟨.inl rfl, .inl rfl, trivial⟩) ?_
     obtain ⟨ch_1, c_1, ls_1, ws_1, hx1_0, hc1⟩ := Zqo p s hcd.1 hs0.2.1 hs0.2.2
     refine x_r [(1, .lend [] [(9211, tAS ls_1), (9203, Zbl ws_1), (9212, Zbu 9203 ws_1)] [(true, .any), (false, .ptr false [Sv s.Label, Zau false s.Feats])] false (.tup [.agg [.arr 9211, .arr 9212], Bv ch_1, I c_1]))] [4, 5, 6] [4, 9203, 9211, 9212] [.ref 4 0, Bv ch_1, I c_1] [some (.box [.arr 9211, .arr 9212]), some (Zbl ws_1), some (tAS ls_1), some (Zbu 9203 ws_1)] [Zaz Tryz.prog 22 [Zae p, .ptr false [Sv s.Label, Zau false s.Feats]] (Zaf []) false (.tup [.agg [.arr 9211, .arr 9212], Bv ch_1, I c_1]) (Zaf [(9211, tAS ls_1), (9203, Zbl ws_1), (9212, Zbu 9203 ws_1)]) ∧ ((false = true → true = true) ∧ AV.idsL [Sv s.Label, Zau false s.Feats] = [] ∧ (Zyq (Sv s.Label) = Zyq (Sv s.Label)) ∧ ((false = true → false = true) ∧ 3 = 3 ∧ s.Feats.length = s.Feats.length ∧ ∀ i_, i_ < s.Feats.length → (Zdp s.Feats) i_ = (Zdp s.Feats) i_ ∨ (AV.idsL ((Zdp s.Feats) i_) = [] ∧ leL (fun _ => none) false ((Zdp s.Feats) i_) ((Zdp s.Feats) i_))) ∧ ([] : List AV) = []) ∧ True] ⟨⟨hc1, ⟨(fun h => by cases h), rfl, ⟨rfl, ⟨⟨(fun h => by cases h), rfl, rfl, fun i _ => .inl rfl⟩, rfl⟩⟩⟩, trivial⟩, trivial⟩ ?_
     refine Zab ?_
     refine Zcd ?_
     refine Zbm ((Perceptron.mk ls_1 ws_1), ch_1, c_1) (show (((Perceptron.mk ls_1 ws_1), ch_1, c_1) = toR p s) ∧ (True) from ⟨(by first | exact hst.symm | (rw [hst]; assumption)), trivial⟩) (trivial) (.tup [.agg [.arr 9211, .arr 9212], Bv ch_1, I c_1]) (by kernel_rfl) (.inr ⟨⟨⟨(fun _ => rfl), rfl, rfl, fun i _ => .inl rfl⟩, ⟨⟨(fun _ => rfl), rfl, rfl, Zfv _ _ rfl⟩, rfl⟩⟩, ⟨rfl, ⟨rfl, rfl⟩⟩⟩) (fun _ => rfl) (fun _ => (by simp [Zak, Zah, Zdc, Zep]))
    have hst := to_no h1
    refine x_r [(1, .dec true)] [2, 3, 4, 7, 12] [2, 3, 4] [.ref 2 0, .ref 3 0, .ref 4 0, I (cdR p ([s])), Bv true] [some (Zag p), some (Zfo s), some (.box [Zao, Zao])] [(cdR p ([s])) ≠ 0] ⟨h1, trivial⟩ ?_
    refine Zab ?_
    refine Zbp rfl ?_
    refine xR [] [4, 5, 6] [4] [.ref 4 0, Bv false, I (cdR p ([s]))] [some (.box [Zao, Zao])] [] trivial ?_
    refine Zcd ?_
    refine Zbd ?_
    refine Zbm ((Perceptron.mk ([] : List ByteArray) ([] : List (List Int))), false, (cdR p ([s]))) (show (((Perceptron.mk ([] : List ByteArray) ([] : List (List Int))), false, (cdR p ([s]))) = toR p s) ∧ (True) from ⟨(by first | exact hst.symm | (rw [hst]; assumption)), trivial⟩) (trivial) (.tup [.agg [Zao, Zao], Bv false, I (cdR p ([s]))]) (by kernel_rfl) (.inr ⟨⟨⟨rfl, rfl⟩, ⟨⟨rfl, rfl⟩, rfl⟩⟩, ⟨rfl, ⟨rfl, rfl⟩⟩⟩) (fun _ => rfl) (fun _ => (by simp [Zak, Zah, Zdc, Zep]))
  obtain ⟨⟨v, ch, c⟩, ⟨hh0, _⟩, hc⟩ := hh
  exact ⟨v, ch, c, hh0, hc⟩
def Zdz (n : Int) : ByteArray := ⟨(Lib.itoa n).toArray⟩
def Zhl (u : Nat) : List Int := if h : u = 0 then [] else Zhl (u / 10) ++ [48 + ((u % 10 : Nat) : Int)]
termination_by u
decreasing_by omega
theorem Zhr : Zhl 0 = [] := by rw [Zhl]; simp
theorem Zkw {u : Nat} (h : u ≠ 0) : Zhl u = Zhl (u / 10) ++ [48 + ((u % 10 : Nat) : Int)] := by rw [Zhl]; simp [h]
theorem Zyb : ∀ (k u : Nat), u < 10 ^ k → (Zhl u).length ≤ k := by
  intro k
  induction k with
  | zero => intro u h; have : u = 0 := by simpa using h
            subst this; simp [Zhr]
  | succ k ih =>
    intro u h
    by_cases e : u = 0
    · subst e; simp [Zhr]
    · rw [Zkw e]
      have := ih (u / 10) (by rw [Nat.pow_succ] at h; omega)
      simp; omega
theorem Yck : ∀ (u : Nat) (x : Int), x ∈ Zhl u → 0 ≤ x ∧ x ≤ 255 := by
  intro u
  induction u using Nat.strongRecOn with
  | _ u ih =>
    intro x hx
    by_cases e : u = 0
    · subst e; simp [Zhr] at hx
    · rw [Zkw e] at hx
      rcases List.mem_append.1 hx with h | h
      · exact ih (u / 10) (by omega) x h
      · simp at h; omega
theorem Zyl : ∀ u : Nat, u ≠ 0 → (Zhl u).map (fun n => UInt8.ofNat n.toNat) = Lib.decDigits u := by
  intro u
  induction u using Nat.strongRecOn with
  | _ u ih =>
    intro e
    rw [Zkw e, Lib.decDigits, List.map_append]
    by_cases h : u < 10
    · rw [dif_pos h, show u / 10 = 0 by omega, Zhr]
      simp only [List.map_nil, List.nil_append, List.map_cons]
      congr 2
      omega
    · rw [dif_neg h, ih (u / 10) (by omega) (by omega)]
      simp only [List.map_cons, List.map_nil]
      congr 3
theorem Znb {n : Int} (h : 0 < n) : Zdz n = Zgm (Zhl n.natAbs) := by
  unfold Zdz Zgm Lib.itoa
  rw [if_neg (by omega), Zyl _ (by omega), show n.toNat = n.natAbs by omega]
theorem Zna {n : Int} (h : n < 0) : Zdz n = (⟨#[45]⟩ : ByteArray) ++ Zgm (Zhl n.natAbs) := by
  unfold Zdz Zgm Lib.itoa
  rw [if_pos h, Zyl _ (by omega)]
  apply ByteArray.ext
  rw [ByteArray.data_append]
  simp
theorem Zkv : Zdz 0 = (⟨#[48]⟩ : ByteArray) := by
  unfold Zdz Lib.itoa
  rw [if_neg (by decide)]
  simp [Lib.decDigits]
theorem Zqp (xs : List Int) : (Zgm xs).size = xs.length := by simp [Zgm, ByteArray.size]
theorem Zok {n : Int} (h : -9223372036854775808 ≤ n ∧ n ≤ 9223372036854775807) : (Zdz n).size ≤ 20 := by
  have hl := Zyb 19 n.natAbs (by omega)
  rcases Int.lt_trichotomy n 0 with h1 | h1 | h1
  · rw [Zna h1, ByteArray.size_append, Zqp]
    have : (⟨#[45]⟩ : ByteArray).size = 1 := rfl
    omega
  · subst h1; rw [Zkv]; decide
  · rw [Znb h1, Zqp]; omega
theorem Zyc (k : Int) : (Int.tdiv k 10).natAbs = k.natAbs / 10 := Int.natAbs_tdiv k 10
theorem tmod_abs (k : Int) : (Int.tmod k 10).natAbs = k.natAbs % 10 := Int.natAbs_tmod k 10
theorem digs_nil {u : Nat} (h : (Zhl u).length = 0) : u = 0 := by
  apply Classical.byContradiction
  intro e
  rw [Zkw e] at h
  simp at h
-- strconv.FormatInt
theorem Zul (n base : Int) (h : -9223372036854775808 ≤ n ∧ n ≤ 9223372036854775807) (hb : base = 10) : Con Tryz.prog 61 [I n, I base] true (Sv (Zdz n)) := by
  subst hb
  refine Zfz (vals := [.int .i64 n, .int .i64 10]) fun w hw => ?_
  refine (Tryz.strconv_FormatInt_10 n h.1 h.2 w (WX_tab hw)).mono ?_
  rintro e w' ⟨rfl, k, os, rfl⟩
  exact ⟨rfl, Lib.below_grow _ _ (Nat.le_refl _) k os⟩
-- impl.Decimal
theorem Zpq (n : Int) (hn : -9223372036854775808 ≤ n ∧ n ≤ 9223372036854775807) : Con Tryz.prog 24 [I n] true (Sv (Zdz n)) := by
  refine Zdb (fn := Tryz.f24) (nt := 5) Tryz.func24 rfl rfl rfl rfl (by simp [Zah, Zak]) fun B hB => ?_
  refine aR [] [0] [] [I n] [] [] hB trivial ?_
  refine aR [(1, .call [(true, .any), (true, .any)] true (Sv (Zdz n)))] [2] [] [Sv (Zdz n)] [] [Con Tryz.prog 61 [I n, I 10] true (Sv (Zdz n)) ∧ True] hB ⟨⟨(Zul n 10 (by omega) rfl), trivial⟩, trivial⟩ ?_
  refine Zax ?_
  refine Zba hB (Sv (Zdz n)) (by kernel_rfl) (.inl rfl) rfl (fun _ => trivial)
def Zjd (sep : ByteArray) : List ByteArray → ByteArray
  | [] => ⟨#[]⟩
  | y :: l => (sep ++ y) ++ Zjd sep l
def jnB (sep : ByteArray) : List ByteArray → ByteArray
  | [] => ⟨#[]⟩
  | x :: l => x ++ Zjd sep l
theorem Zje (x : ByteArray) : x ++ (⟨#[]⟩ : ByteArray) = x := by apply ByteArray.ext; simp
theorem nil_ba (x : ByteArray) : (⟨#[]⟩ : ByteArray) ++ x = x := by apply ByteArray.ext; simp
theorem Zqq (sep y : ByteArray) : ∀ l, Zjd sep (l ++ [y]) = (Zjd sep l ++ sep) ++ y
  | [] => by simp only [List.nil_append, Zjd, Zje, nil_ba]
  | x :: l => by simp only [List.cons_append, Zjd, Zqq sep y l, ByteArray.append_assoc]
theorem Zsb {sep y : ByteArray} {l : List ByteArray} (h : l ≠ []) : jnB sep (l ++ [y]) = (jnB sep l ++ sep) ++ y := by
  cases l with
  | nil => exact absurd rfl h
  | cons x l => simp only [List.cons_append, jnB, Zqq, ByteArray.append_assoc]
def jnZ (xs : List ByteArray) : Nat → Nat
  | 0 => 0
  | k + 1 => jnZ xs k + (at_ xs k).size
theorem Zsn (x : ByteArray) (xs : List ByteArray) : ∀ k, jnZ (x :: xs) (k + 1) = x.size + jnZ xs k
  | 0 => by simp [jnZ, at_]
  | k + 1 => by rw [jnZ, Zsn x xs k, jnZ]; simp [at_]; omega
theorem Zqr (sep : ByteArray) : ∀ xs, (Zjd sep xs).size = jnZ xs xs.length + sep.size * xs.length
  | [] => rfl
  | x :: l => by rw [Zjd, ByteArray.size_append, ByteArray.size_append, Zqr sep l, List.length_cons, Zsn, Nat.mul_succ]; omega
theorem jnB_size (sep : ByteArray) {xs : List ByteArray} (h : xs ≠ []) : (jnB sep xs).size = jnZ xs xs.length + sep.size * (xs.length - 1) := by
  cases xs with
  | nil => exact absurd rfl h
  | cons x l => rw [jnB, ByteArray.size_append, Zqr, List.length_cons, Zsn, Nat.add_sub_cancel]; omega
def noB (c : UInt8) (s : ByteArray) : Prop := c ∉ s.data.toList
def Zkd (c : UInt8) (s : ByteArray) : List ByteArray := Lib.splitB ⟨#[c]⟩ 0 (Lib.countB s ⟨#[c]⟩) s
theorem Zjy (c : UInt8) : ∀ l : List UInt8, c ∉ l → Lib.indexByte l c = -1
  | [], _ => rfl
  | b :: l, h => by
    have h1 : ¬ b = c := fun e => h (by simp [e])
    have h2 := Zjy c l (fun e => h (by simp [e]))
    simp [Lib.indexByte, h1, h2]
theorem Zlg (c : UInt8) (r : List UInt8) : ∀ l : List UInt8, c ∉ l → Lib.indexByte (l ++ c :: r) c = (l.length : Int)
  | [], _ => by simp [Lib.indexByte]
  | b :: l, h => by
    have h1 : ¬ b = c := fun e => h (by simp [e])
    have h2 := Zlg c r l (fun e => h (by simp [e]))
    have h3 : ¬ (l.length : Int) = -1 := by omega
    simp [Lib.indexByte, h1, h2, h3]
theorem Zjr {c : UInt8} {s : ByteArray} (h : noB c s) : Zkd c s = [s] := by
  have hi : Lib.indexB s ⟨#[c]⟩ = -1 := by
    show Lib.index s.data.toList [c] = -1
    rw [Lib.index_one, Zjy c _ h]
  unfold Zkd
  rw [Lib.countB_miss _ _ hi, Lib.splitB_zero]
theorem ext_left (x y : ByteArray) : (x ++ y).extract 0 x.size = x := by
  exact ByteArray.extract_append_eq_left rfl
theorem Ydj (x y : ByteArray) : (x ++ y).extract x.size (x ++ y).size = y := by
  exact ByteArray.extract_append_eq_right rfl ByteArray.size_append
theorem Zmw {c : UInt8} {x r : ByteArray} (h : noB c x) : Zkd c ((x ++ ⟨#[c]⟩) ++ r) = x :: Zkd c r := by
  have hi : Lib.indexB ((x ++ ⟨#[c]⟩) ++ r) ⟨#[c]⟩ = ((x.size : Nat) : Int) := by
    show Lib.index ((x ++ ⟨#[c]⟩) ++ r).data.toList [c] = _
    rw [Lib.index_one]
    have : ((x ++ ⟨#[c]⟩) ++ r).data.toList = x.data.toList ++ c :: r.data.toList := by simp
    rw [this, Zlg c _ _ h]
    rfl
  have hz : (x ++ (⟨#[c]⟩ : ByteArray)).size = x.size + (⟨#[c]⟩ : ByteArray).size := by rw [ByteArray.size_append]
  have he : ((x ++ ⟨#[c]⟩) ++ r).extract (x.size + (⟨#[c]⟩ : ByteArray).size) ((x ++ ⟨#[c]⟩) ++ r).size = r := by
    rw [← hz]; exact Ydj _ _
  have hl : ((x ++ ⟨#[c]⟩) ++ r).extract 0 (x.size + 0) = x := by
    rw [Nat.add_zero, ByteArray.append_assoc]; exact ext_left _ _
  unfold Zkd
  rw [Lib.countB_hit _ _ _ (show 1 ≤ (⟨#[c]⟩ : ByteArray).size from Nat.le_refl 1) hi, he, Nat.add_comm 1, Lib.splitB_hit _ _ _ _ _ hi, he, hl]
theorem Zmy {c : UInt8} : ∀ {xs : List ByteArray}, xs ≠ [] → (∀ x ∈ xs, noB c x) → Zkd c (jnB ⟨#[c]⟩ xs) = xs
  | [], h, _ => absurd rfl h
  | [x], _, h => by
    rw [jnB, Zjd, Zje]; exact Zjr (h x (by simp))
  | x :: y :: l, _, h => by
    have e : jnB ⟨#[c]⟩ (x :: y :: l) = (x ++ ⟨#[c]⟩) ++ jnB ⟨#[c]⟩ (y :: l) := by simp only [jnB, Zjd, ByteArray.append_assoc]
    rw [e, Zmw (h x (by simp)), Zmy (by simp) fun z hz => h z (by simp [hz])]
theorem Zwm {c : UInt8} {x y : ByteArray} (h1 : noB c x) (h2 : noB c y) : noB c (x ++ y) := by
  unfold noB at *; simp [h1, h2]
theorem Zog {c : UInt8} : noB c ⟨#[]⟩ := by simp [noB]
theorem Zum {c : UInt8} {sep : ByteArray} (hs : noB c sep) : ∀ {xs : List ByteArray}, (∀ x ∈ xs, noB c x) → noB c (Zjd sep xs)
  | [], _ => Zog
  | x :: l, h => Zwm (Zwm hs (h x (by simp))) (Zum hs fun z hz => h z (by simp [hz]))
theorem noB_join {c : UInt8} {sep : ByteArray} (hs : noB c sep) : ∀ {xs : List ByteArray}, (∀ x ∈ xs, noB c x) → noB c (jnB sep xs)
  | [], _ => Zog
  | x :: l, h => Zwm (h x (by simp)) (Zum hs fun z hz => h z (by simp [hz]))
theorem Zdv : ∀ (k u : Nat), u < k → ∀ b ∈ Lib.decDigits u, 48 ≤ b.toNat ∧ b.toNat ≤ 57
  | 0, u, h, _, _ => absurd h (Nat.not_lt_zero _)
  | k + 1, u, h, b, hb => by
    rw [Lib.decDigits] at hb
    split at hb
    · have hb := List.mem_singleton.1 hb; subst hb; rw [UInt8.toNat_ofNat']; omega
    · rcases List.mem_append.1 hb with hb | hb
      · exact Zdv k (u / 10) (by omega) b hb
      · have hb := List.mem_singleton.1 hb; subst hb; rw [UInt8.toNat_ofNat']; omega
theorem Zzo (n : Int) : ∀ b ∈ (Zdz n).data.toList, b.toNat = 45 ∨ (48 ≤ b.toNat ∧ b.toNat ≤ 57) := fun b hb => by
  have hb : b ∈ Lib.itoa n := by simpa [Zdz] using hb
  unfold Lib.itoa at hb
  split at hb
  · rcases List.mem_cons.1 hb with e | hb
    · subst e; exact .inl rfl
    · exact .inr (Zdv _ _ (Nat.lt_succ_self _) b hb)
  · exact .inr (Zdv _ _ (Nat.lt_succ_self _) b hb)
theorem Zyf {c : UInt8} (hc : c.toNat < 45 ∨ 57 < c.toNat) (n : Int) : noB c (Zdz n) := fun h => by
  have := Zzo n c h
  omega
theorem Zgf (u : Nat) : Lib.decDigits u ≠ [] := by rw [Lib.decDigits]; split <;> simp
theorem Ydk (M : Nat) : ∀ (l r : List UInt8) (acc : Nat), Lib.parseUintM M acc (l ++ r) = match Lib.parseUintM M acc l with | .ok v => Lib.parseUintM M v r | .«syntax» => .«syntax» | .range => .range
  | [], r, acc => rfl
  | c :: l, r, acc => by
    simp only [List.cons_append, Lib.parseUintM]
    split
    · split
      · rfl
      · split
        · rfl
        · exact Ydk M l r _
    · rfl
theorem Zwn {M : Nat} (hM : 1000000000000000000 ≤ M) : ∀ (k u : Nat), u < k → u < 1000000000000000000 → Lib.parseUintM M 0 (Lib.decDigits u) = .ok u
  | 0, u, h, _ => absurd h (Nat.not_lt_zero _)
  | k + 1, u, h, h2 => by
    rw [Lib.decDigits]
    split
    · rename_i h3
      have e : (UInt8.ofNat (48 + u)).toNat = 48 + u := by rw [UInt8.toNat_ofNat']; omega
      simp only [Lib.parseUintM, e]
      rw [if_pos (by omega), if_neg (by omega), if_neg (by omega)]
      simp
    · rename_i h3
      rw [Ydk, Zwn hM k (u / 10) (by omega) (by omega)]
      have e : (UInt8.ofNat (48 + u % 10)).toNat = 48 + u % 10 := by rw [UInt8.toNat_ofNat']; omega
      simp only [Lib.parseUintM, e]
      rw [if_pos (by omega), if_neg (by omega), if_neg (by omega)]
      congr 1
      omega
theorem Ztv {n : Int} (h : -1000000000000000000 < n ∧ n < 1000000000000000000) : Lib.parseIntB 64 (Zdz n).data.toList = .ok n := by
  have e : (Zdz n).data.toList = Lib.itoa n := by simp [Zdz]
  rw [e]
  unfold Lib.itoa
  split
  · rename_i h0
    rw [Lib.parseIntB_minus]
    unfold Lib.parseUintB
    rw [if_neg (Zgf _), Zwn (by decide) _ _ (Nat.lt_succ_self _) (by omega)]
    simp only [Lib.signedC]
    rw [if_neg (by omega)]
    congr 1
    omega
  · rename_i h0
    obtain ⟨c, r, hc⟩ : ∃ c r, Lib.decDigits n.toNat = c :: r := by
      cases h : Lib.decDigits n.toNat with
      | nil => exact absurd h (Zgf _)
      | cons c r => exact ⟨c, r, rfl⟩
    have hb := Zdv _ n.toNat (Nat.lt_succ_self _) c (by rw [hc]; simp)
    rw [hc, Lib.parseIntB_plain 64 c r (by omega) (by omega), ← hc]
    unfold Lib.parseUintB
    rw [if_neg (Zgf _), Zwn (by decide) _ _ (Nat.lt_succ_self _) (by omega)]
    simp only [Lib.signlessC]
    rw [if_neg (by omega)]
    congr 1
    omega
theorem Zoc {P : Program} {f : FuncId} {vals : List Value} {n : Nat} {T : TypeId} {cs : Array Value} {g : Nat → Value} (hn : n ≤ maxLen) (hc : ∀ i, i < n → cs[i]? = some (g i) ∧ (g i).oneCell' = true)
    (h : ∀ w, WX w → Calls P f vals.toArray w fun e w' => e = .returned (.slice (some ⟨w.heap.size, 0, none⟩) n n) ∧ w' = w.alloc (.cells cs T)) : Con P f (vals.map .val) true (.sl true 1 n fun i => [.val (g i)]) := by
  intro B vals' hbo hm hr
  have : vals' = vals := by
    have hl := hr.1
    simp at hl
    apply List.ext_getElem hl.symm
    intro i h1 h2
    have := hr.2 i (.val vals[i]) vals'[i] (by simp [List.getElem?_map, List.getElem?_eq_getElem h2]) (List.getElem?_eq_getElem h1)
    generalize vals[i] = x at *
    generalize vals'[i] = y at *
    cases this with | tree _ _ h => cases h; rfl
  subst this
  refine (h B.w0 (hm.glob _ (Kept.refl _ _))).mono ?_
  rintro e w' ⟨rfl, rfl⟩
  have hk : Kept B.w0 (fun _ => False) (B.w0.alloc (.cells cs T)) := ⟨rfl, rfl, rfl, by simp, fun k hk _ => Go.heap_alloc_old _ _ hk⟩
  have hnew := heap_alloc_new B.w0 (.cells cs T)
  refine ⟨_, B.κ0, rfl, hm.world hk, .tree _ _ (.sl true 1 n _ B.w0.heap.size 0 n (fun i _ => g i) ⟨(Array.getElem?_eq_some_iff.1 hnew).1, ⟨fun _ => Nat.le_refl _, fun h => absurd h (Nat.lt_irrefl _)⟩, fun i hi => absurd rfl hi⟩ (Nat.le_refl _) hn (fun _ _ => rfl) (fun i j hi hj => ?_) fun i j u hi hu => ?_)⟩
  · have : j = 0 := by omega
    subst this
    refine ⟨?_, (hc i hi).2⟩
    have := (hc i hi).1
    rw [Lib.cell_of_heap hnew]
    simpa using this
  · cases j with
    | zero => simp at hu; subst hu; exact .val _
    | succ j => simp at hu
theorem Zkc {sep s : ByteArray} (h1 : sep.size = 1) : (Lib.splitB sep 0 (Lib.countB s sep) s).length = Lib.countB s sep + 1 := Lib.splitB_all sep (by omega) 0 _ s rfl
def Zcq (sep s : ByteArray) : List ByteArray := Lib.splitB sep 0 (Lib.countB s sep) s
def sufB (s p : ByteArray) : Bool := Lib.hasSuffix s.data.toList p.data.toList
def Ztt (s p : ByteArray) : ByteArray := ⟨(Lib.trimSuffix s.data.toList p.data.toList).toArray⟩
theorem Zsc (x y : ByteArray) : sufB (x ++ y) y = true := by simp [sufB, Lib.hasSuffix]
theorem Zsd (x y : ByteArray) : Ztt (x ++ y) y = x := by
  unfold Ztt Lib.trimSuffix
  have h := Zsc x y
  unfold sufB at h
  rw [if_pos h]
  apply ByteArray.ext
  simp
theorem jnB_one (sep : ByteArray) {xs : List ByteArray} (h : xs.length = 1) : jnB sep xs = at_ xs 0 := by
  match xs, h with
  | [x], _ => simp [jnB, Zjd, Zje, at_]
theorem Zku {α : Type} [Inhabited α] (xs : List α) (k : Nat) : at_ (xs.drop 1) k = at_ xs (k + 1) := by
  simp [at_, Nat.add_comm]
theorem jnB_take {sep : ByteArray} {xs : List ByteArray} {k : Nat} (h : k + 1 < xs.length) : jnB sep (xs.take (k + 2)) = (jnB sep (xs.take (k + 1)) ++ sep) ++ at_ xs (k + 1) := by
  rw [show xs.take (k + 2) = xs.take (k + 1) ++ [at_ xs (k + 1)] from by rw [List.take_succ_eq_append_getElem h, Zex h], Zsb]
  intro e
  have h2 : (xs.take (k + 1)).length = k + 1 := by rw [List.length_take]; omega
  rw [e] at h2
  simp at h2
theorem Ydl {sep : ByteArray} {xs : List ByteArray} (h : 1 ≤ xs.length) : jnB sep (xs.take 1) = at_ xs 0 := by
  have e : (xs.take 1).length = 1 := by simp; omega
  rw [jnB_one sep e]
  simp [at_]
def dcV (s : ByteArray) : Int := match Lib.parseIntB 64 s.data.toList with | .ok v => v | _ => 0
theorem ddLen : ∀ (k u : Nat), 1 ≤ k → u < 10 ^ k → (Lib.decDigits u).length ≤ k
  | 0, _, h, _ => absurd h (by decide)
  | k + 1, u, _, h => by
    rw [Lib.decDigits]
    split
    · simp
    · rename_i h3
      rw [List.length_append]
      by_cases hk : k = 0
      · subst hk; omega
      · have := ddLen k (u / 10) (by omega) (by rw [Nat.pow_succ] at h; omega)
        simp only [List.length_cons, List.length_nil]; omega
theorem Yce {n : Int} (h : -1000000000000000000 < n ∧ n < 1000000000000000000) : 1 ≤ (Lib.trimPrefix (Zdz n).data.toList [45]).length ∧ (Lib.trimPrefix (Zdz n).data.toList [45]).length ≤ 18 := by
  have e : (Zdz n).data.toList = Lib.itoa n := by simp [Zdz]
  have hne : ∀ u, 1 ≤ (Lib.decDigits u).length := fun u => List.length_pos_iff.2 (Zgf u)
  rw [e]
  unfold Lib.itoa
  split
  · have : Lib.trimPrefix (45 :: Lib.decDigits n.natAbs) [45] = Lib.decDigits n.natAbs := by simp [Lib.trimPrefix, Lib.hasPrefix]
    rw [this]
    exact ⟨hne _, ddLen 18 _ (by decide) (by omega)⟩
  · have hl := ddLen 18 n.toNat (by decide) (by omega)
    have h1 := hne n.toNat
    obtain ⟨c, r, hc⟩ : ∃ c r, Lib.decDigits n.toNat = c :: r := by
      cases h : Lib.decDigits n.toNat with
      | nil => exact absurd h (Zgf _)
      | cons c r => exact ⟨c, r, rfl⟩
    have hb := Zdv _ n.toNat (Nat.lt_succ_self _) c (by rw [hc]; simp)
    have : Lib.trimPrefix (Lib.decDigits n.toNat) [45] = Lib.decDigits n.toNat := by
      have h2 : ¬ (45 : UInt8) = c := fun e => by subst e; have : (45 : UInt8).toNat = 45 := rfl; omega
      rw [hc]
      simp [Lib.trimPrefix, Lib.hasPrefix, h2]
    rw [this]
    exact ⟨h1, hl⟩
theorem Zse {P : Program} {f : FuncId} {vals : List Value} {v u : Value} {fr : Bool} (h : ∀ w, WX w → Calls P f vals.toArray w fun e w' => e = .returned (.tuple #[v, u]) ∧ Below w.heap.size w w') : Con P f (vals.map .val) fr (.tup [.val v, .val u]) := by
  intro B vals' hbo hm hr
  have h1 := Zfz (fr := fr) h B vals' hbo hm hr
  refine h1.mono ?_
  rintro e w' ⟨v', κ', rfl, h2, h3⟩
  refine ⟨v', κ', rfl, h2, ?_⟩
  have e : v' = .tuple #[v, u] := h3.val_of
  subst e
  exact .tup _ _ rfl fun q a x ha hx => by
    match q, ha, hx with
    | 0, ha, hx => simp at ha hx; subst ha; subst hx; exact .tree _ _ (.val _)
    | 1, ha, hx => simp at ha hx; subst ha; subst hx; exact .tree _ _ (.val _)
    | q + 2, ha, _ => simp at ha
theorem Zoq {α β : Type} [Inhabited α] [Inhabited β] {xs : List α} {f : α → β} {k : Nat} (h : k < xs.length) : at_ (xs.map f) k = f (at_ xs k) := by simp [at_, h]
theorem Zfg {α β : Type} [Inhabited α] {xs : List α} {f : α → β} {i : Int} {y : β} (h0 : 0 ≤ i) (h : i.toNat < xs.length) (hy : y = f (at_ xs i.toNat)) : (xs.take (i + 1).toNat).map f = (xs.take i.toNat).map f ++ [y] := by
  have e : (i + 1).toNat = i.toNat + 1 := by omega
  rw [e, List.take_succ_eq_append_getElem h, hy, Zex h]
  simp only [List.map_append, List.map_cons, List.map_nil]
theorem Ycj {α β : Type} {xs : List α} {f : α → β} {i : Int} (h : (xs.length : Int) ≤ i) : (xs.take i.toNat).map f = xs.map f := by
  rw [List.take_of_length_le (by omega)]
theorem jnZ_le {B : Nat} {xs : List ByteArray} (h : ∀ x ∈ xs, x.size ≤ B) : ∀ k, k ≤ xs.length → jnZ xs k ≤ B * k
  | 0, _ => Nat.zero_le _
  | k + 1, hk => by
    have h1 := jnZ_le h k (by omega)
    have h2 := h _ (Zcs (show k < xs.length from hk))
    rw [jnZ, Nat.mul_succ]; omega
theorem Ydm {xs : List Int} (h : ∀ x ∈ xs, -1000000000000000000 < x ∧ x < 1000000000000000000) : ∀ y ∈ xs.map Zdz, y.size ≤ 20 := fun y hy => by
  obtain ⟨x, hx, rfl⟩ := List.mem_map.1 hy
  have := h x hx
  exact Zok (by omega)
theorem jnB_le {sep : ByteArray} {B : Nat} {xs : List ByteArray} (hs : sep.size = 1) (h : ∀ x ∈ xs, x.size ≤ B) : (jnB sep xs).size ≤ (B + 1) * xs.length := by
  by_cases e : xs = []
  · subst e; exact Nat.le_refl _
  · have h1 := jnZ_le h xs.length (Nat.le_refl _)
    rw [jnB_size sep e, hs, Nat.add_mul]; omega
theorem Zmx (c : UInt8) (s : ByteArray) : (Zcq ⟨#[c]⟩ s).length ≤ s.size + 1 := by
  have h1 := Lib.countB_le ⟨#[c]⟩ (Nat.le_refl 1) s.size s (Nat.le_refl _)
  have h2 := Zkc (sep := ⟨#[c]⟩) (s := s) rfl
  show (Lib.splitB ⟨#[c]⟩ 0 (Lib.countB s ⟨#[c]⟩) s).length ≤ _
  omega
theorem Ztw (s p : ByteArray) : (Ztt s p).size ≤ s.size := by
  show (Lib.trimSuffix s.data.toList p.data.toList).toArray.size ≤ s.data.size
  unfold Lib.trimSuffix
  split
  · simp
  · simp
def Zei : List ByteArray → Nat → ByteArray
  | _, 0 => ⟨#[]⟩
  | ls, k + 1 => Zei ls k ++ (at_ ls k ++ ⟨#[10]⟩)
theorem Zos {ls : List ByteArray} : ∀ {k}, k < ls.length → Zei ls (k + 1) = jnB ⟨#[10]⟩ (ls.take (k + 1)) ++ ⟨#[10]⟩
  | 0, h => by rw [Zei, Zei, nil_ba, Ydl h]
  | k + 1, h => by
    rw [Zei, Zos (by omega), jnB_take (by omega)]
    simp only [ByteArray.append_assoc]
theorem Zue {ls : List ByteArray} {k : Nat} : Zei ls (k + 1) ≠ ⟨#[]⟩ := fun e => by
  have := congrArg ByteArray.size e
  simp only [Zei, ByteArray.size_append] at this
  have h1 : (⟨#[10]⟩ : ByteArray).size = 1 := rfl
  have h2 : (⟨#[]⟩ : ByteArray).size = 0 := rfl
  omega
theorem Zlw {ls : List ByteArray} (h : ls ≠ []) : ∃ k, ls.length = k + 1 ∧ Zei ls ls.length = jnB ⟨#[10]⟩ ls ++ ⟨#[10]⟩ := by
  obtain ⟨k, hk⟩ : ∃ k, ls.length = k + 1 := ⟨ls.length - 1, by have := List.length_pos_iff.2 h; omega⟩
  refine ⟨k, hk, ?_⟩
  rw [hk, Zos (by omega), ← hk, List.take_length]
theorem Ycr {ls : List ByteArray} (h : ls ≠ []) : sufB (Zei ls ls.length) ⟨#[10]⟩ = true := by
  obtain ⟨k, hk, e⟩ := Zlw h
  rw [e]; exact Zsc _ _
theorem Zot {ls : List ByteArray} {B : Nat} (h : ∀ l ∈ ls, l.size ≤ B) : ∀ k, k ≤ ls.length → (Zei ls k).size ≤ (B + 1) * k
  | 0, _ => Nat.zero_le _
  | k + 1, hk => by
    have h1 := Zot h k (by omega)
    have h2 := h _ (Zcs (show k < ls.length from hk))
    have h3 : (⟨#[10]⟩ : ByteArray).size = 1 := rfl
    rw [Zei, ByteArray.size_append, ByteArray.size_append, Nat.mul_succ]; omega
def Zzy (l : ByteArray) (ws : List Int) : ByteArray := jnB ⟨#[32]⟩ (l :: ws.map Zdz)
def Zfp (p : Perceptron) : List ByteArray := (List.range p.Labels.length).map fun k => Zzy (at_ p.Labels k) (at_ p.Weights k)
def Zeo (p : Perceptron) : ByteArray := if Zbb p = true then Zei (Zfp p) p.Labels.length else ⟨#[]⟩
theorem Zdw (p : Perceptron) : (Zfp p).length = p.Labels.length := by simp [Zfp]
theorem Zkx {p : Perceptron} {k : Nat} (h : k < p.Labels.length) : at_ (Zfp p) k = Zzy (at_ p.Labels k) (at_ p.Weights k) := by
  have h2 : k < (Zfp p).length := by rw [Zdw]; exact h
  rw [Zex h2]; simp [Zfp]
theorem pcLn_0 (l : ByteArray) (ws : List Int) : jnB ⟨#[32]⟩ (l :: (ws.take 0).map Zdz) = l := by simp [jnB, Zjd, Zje]
theorem pcLn_1 (l : ByteArray) {ws : List Int} {k : Nat} (h : k < ws.length) : jnB ⟨#[32]⟩ (l :: (ws.take (k + 1)).map Zdz) = jnB ⟨#[32]⟩ (l :: (ws.take k).map Zdz) ++ ((⟨#[32]⟩ : ByteArray) ++ Zdz (at_ ws k)) := by
  rw [List.take_succ_eq_append_getElem h, List.map_append, ← List.cons_append, Zex h]
  show jnB ⟨#[32]⟩ (l :: (ws.take k).map Zdz ++ [Zdz ws[k]]) = _
  rw [Zsb (by simp), ByteArray.append_assoc]
theorem Zsf (l : ByteArray) {ws : List Int} {k : Nat} (h : ws.length ≤ k) : jnB ⟨#[32]⟩ (l :: (ws.take k).map Zdz) = Zzy l ws := by
  rw [List.take_of_length_le h]; rfl
theorem Zoi {l : ByteArray} {ws : List Int} {k : Nat} (hl : l.size ≤ 1) (hw : ∀ x ∈ ws, -1000000000000000000 < x ∧ x < 1000000000000000000) (hn : ws.length ≤ 25) : (jnB ⟨#[32]⟩ (l :: (ws.take k).map Zdz)).size ≤ 600 := by
  have h := jnB_le (sep := ⟨#[32]⟩) (B := 20) rfl (xs := l :: (ws.take k).map Zdz) fun y hy => by
    rcases List.mem_cons.1 hy with rfl | hy
    · omega
    · exact Ydm (fun x hx => hw x (List.mem_of_mem_take hx)) y hy
  have h2 : (l :: (ws.take k).map Zdz).length ≤ 26 := by simp only [List.length_cons, List.length_map, List.length_take]; omega
  have h3 : (20 + 1) * (l :: (ws.take k).map Zdz).length ≤ (20 + 1) * 26 := Nat.mul_le_mul_left _ h2
  omega
theorem Zqh {ws : List Int} (h : ws.length = 25 ∧ ∀ k, k < 25 → -1000000 ≤ at_ ws k ∧ at_ ws k ≤ 1000000) : ∀ x ∈ ws, -1000000000000000000 < x ∧ x < 1000000000000000000 := fun x hx => by
  obtain ⟨j, hj, e⟩ := List.getElem_of_mem hx
  have := h.2 j (by omega)
  rw [Zex hj, e] at this
  omega
theorem lab1 {s : ByteArray} (h : Zcg s = true) : s.size = 1 := by simp only [Zcg, Bool.and_eq_true, decide_eq_true_eq] at h; exact h.1
theorem Zzp {p : Perceptron} (h : Zbb p = true) : ∀ y ∈ Zfp p, y.size ≤ 600 := fun y hy => by
  obtain ⟨k, hk, rfl⟩ := List.mem_map.1 hy
  rw [List.mem_range] at hk
  have hq := okPerc_iff.1 h
  have hr := Zct hq.2.2 (j := k) (by omega)
  have := Zoi (k := 25) (l := at_ p.Labels k) (by rw [lab1 (Zek hq.1 hk)]; decide) (Zqh hr) (by omega)
  rwa [Zsf _ (by omega)] at this
theorem Zic {p : Perceptron} (h : Zbb p = true) {k : Nat} (hk : k ≤ p.Labels.length) : (Zei (Zfp p) k).size ≤ 8000 := by
  have h1 := Zot (Zzp h) k (by rw [Zdw]; exact hk)
  have := Zki h
  omega
theorem Zfl {p : Perceptron} : (Zeo p).size ≤ 8000 := by
  unfold Zeo
  split
  · rename_i h; exact Zic h (Nat.le_refl _)
  · exact Nat.zero_le _
theorem Znc (xs ys : List Int) : Zgm (xs ++ ys) = Zgm xs ++ Zgm ys := by
  apply ByteArray.ext; apply Array.ext'; simp [Zgm]
theorem Zoj (s : ByteArray) : Zgm (Zgx s) = s := by
  apply ByteArray.ext; apply Array.ext'
  simp only [Zgm, Zgx, List.map_map, List.toList_toArray]
  have : ((fun n : Int => UInt8.ofNat n.toNat) ∘ fun b : UInt8 => (b.toNat : Int)) = id := funext fun b => by simp
  rw [this, List.map_id]
theorem Zua (s : ByteArray) : ∀ x ∈ Zgx s, 0 ≤ x ∧ x ≤ 255 := fun x hx => by
  obtain ⟨b, _, rfl⟩ := List.mem_map.1 hx
  have := b.toNat_lt; omega
theorem Zyd {xs ys : List Int} (h1 : ∀ x ∈ xs, 0 ≤ x ∧ x ≤ 255) (h2 : ∀ x ∈ ys, 0 ≤ x ∧ x ≤ 255) : ∀ x ∈ xs ++ ys, 0 ≤ x ∧ x ≤ 255 := fun x hx => (List.mem_append.1 hx).elim (h1 x) (h2 x)
-- impl.PerceptronText
theorem Zeq (p : Perceptron) (ok_ : ∀ y ∈ p.Labels, y.size ≤ 9223372036854775807) : Con Tryz.prog 8 [Zae p] true (Sv (Zeo p)) := by
  refine Zdb (fn := Tryz.f8) (nt := 39) Tryz.func8 rfl rfl rfl rfl (by simp [Zah, Zak, Zdc, Zep]) fun B hB => ?_
  refine Zce (x := Zae p) 0 rfl (fun len_p => ?_)
  simp [Zdr, Zgi, cI, cLI, cS, fI, fLI, fS, slI, Zbg, slS] at len_p
  refine aR [(0, .new 1)] [1] [1] [.ref 1 0] [some (Zag p)] [] hB trivial ?_
  refine Zal ?_
  refine Zal ?_
  rcases Bool.eq_false_or_eq_true (Zbb p) with h1 | h1
  ·have hok := h1
   have hq := okPerc_iff.1 hok
   have hpn := Zki hok
   refine Zbx [(1, .call [(true, .any)] true (Bv true))] [1, 10] [1] [.ref 1 0, Bv false] [some (Zag p)] [Con Tryz.prog 14 [Zae p] true (Bv true) ∧ True] hB ⟨⟨(Zaq h1 (Zbk p ok_)), trivial⟩, trivial⟩ ?_
   refine Zac ?_
   refine Zay rfl ?_
   refine Zbf ?_
   refine Zac ?_
   refine aR [(0, .newb 3 60006 5)] [1, 3] [1, 3, 60006] [.ref 1 0, .ref 3 0] [some (Zag p), some (.bld 58 60006), some (.buf 5 false (⟨#[]⟩ : ByteArray))] [] hB trivial ?_
   refine Zal ?_
   refine aR [] [1, 3, 12, 13, 14] [1, 3, 60006] [.ref 1 0, .ref 3 0, slS false p.Labels, I (p.Labels.length : Int), I 0] [some (Zag p), some (.bld 58 60006), some (.buf 5 false (⟨#[]⟩ : ByteArray))] [] hB trivial ?_
   refine Zbn ?_
   refine Zdk (fun gn gσ => ∃ (k : Int) (tx : ByteArray), gn = ((p.Labels.length : Int) - k).toNat ∧ (0 ≤ k ∧ k ≤ (p.Labels.length : Int)) ∧ (tx = Zei (Zfp p) k.toNat) ∧ gσ = mkS [(1, .ref 1 0), (3, .ref 3 0), (12, slS false p.Labels), (13, I (p.Labels.length : Int)), (14, I k)] [(1, Zag p), (3, .bld 58 60006), (60006, .buf 5 false tx)]) (((p.Labels.length : Int) - 0).toNat) ⟨0, (⟨#[]⟩ : ByteArray), rfl, (by omega), (by rfl), rfl⟩ (fun gn gσ hI => ?_)
   obtain ⟨k, tx, rfl, hi0, htx, rfl⟩ := hI
   refine Zal ?_
   by_cases h2 : k < (p.Labels.length : Int)
   ·have hi : k.toNat < p.Labels.length := by omega
    have hks : (k + 1).toNat = k.toNat + 1 := by omega
    have hrow := Zct hq.2.2 (j := k.toNat) (by omega)
    have hl1 := lab1 (Zek hq.1 hi)
    have hzl := Zic hok (k := k.toNat) (by omega)
    have hsz := fun j_ : Nat => Zoi (k := j_) (l := at_ p.Labels k.toNat) (by omega) (Zqh hrow) (by omega)
    rw [← htx] at hzl
    refine Zbx [(0, .dec true)] [1, 3, 12, 13, 14, 15] [1, 3, 60006] [.ref 1 0, .ref 3 0, slS false p.Labels, I (p.Labels.length : Int), I k, Bv true] [some (Zag p), some (.bld 58 60006), some (.buf 5 false tx)] [k < (p.Labels.length : Int)] hB ⟨h2, trivial⟩ ?_
    refine Zac ?_
    refine Zal ?_
    refine Zbc rfl ?_
    refine Zbf ?_
    refine Zac ?_
    refine Zal ?_
    refine Zbn ?_
    refine aR [] [1, 3, 4, 5, 12, 13, 14] [1, 3, 60006] [.ref 1 0, .ref 3 0, I k, Sv (at_ p.Labels k.toNat), slS false p.Labels, I (p.Labels.length : Int), I k] [some (Zag p), some (.bld 58 60006), some (.buf 5 false tx)] [(0 : Int) ≤ k ∧ k < (p.Labels.length : Int)] hB ⟨⟨(by omega), (by omega)⟩, trivial⟩ ?_
    refine aR [(1, .bw 3 60006 60007 (.string (at_ p.Labels k.toNat)) false (at_ p.Labels k.toNat))] [1, 3, 4, 12, 13, 14] [1, 3, 60007] [.ref 1 0, .ref 3 0, I k, slS false p.Labels, I (p.Labels.length : Int), I k] [some (Zag p), some (.bld 58 60007), some (.buf 5 false (tx ++ (at_ p.Labels k.toNat)))] [([.ref 3 0, Sv (at_ p.Labels k.toNat)] : List AV) = [.ref 3 0, Sv (at_ p.Labels k.toNat)] ∧ BwOK Tryz.prog 23 58 5 (.string (at_ p.Labels k.toNat)) false tx false (at_ p.Labels k.toNat)] hB ⟨⟨rfl, bw_ok (by have h3 : (⟨#[10]⟩ : ByteArray).size = 1 := rfl; have h4 : (⟨#[32]⟩ : ByteArray).size = 1 := rfl; (try simp only [ByteArray.size_append]); omega)⟩, trivial⟩ ?_
    refine Zal ?_
    refine aR [] [1, 3, 12, 13, 14, 25, 26, 27] [1, 3, 60007] [.ref 1 0, .ref 3 0, slS false p.Labels, I (p.Labels.length : Int), I k, slI false (at_ p.Weights k.toNat), I (((at_ p.Weights k.toNat).length) : Int), I 0] [some (Zag p), some (.bld 58 60007), some (.buf 5 false (tx ++ (at_ p.Labels k.toNat)))] [(0 : Int) ≤ k ∧ k < (p.Weights.length : Int)] hB ⟨⟨(by omega), (by omega)⟩, trivial⟩ ?_
    refine Zbn ?_
    refine Zdk (fun gn gσ => ∃ (j : Int) (ty : ByteArray), gn = (((at_ p.Weights k.toNat).length : Int) - j).toNat ∧ (0 ≤ j ∧ j ≤ ((at_ p.Weights k.toNat).length : Int)) ∧ (ty = Zei (Zfp p) k.toNat ++ jnB ⟨#[32]⟩ (at_ p.Labels k.toNat :: ((at_ p.Weights k.toNat).take j.toNat).map Zdz)) ∧ gσ = mkS [(1, .ref 1 0), (3, .ref 3 0), (12, slS false p.Labels), (13, I (p.Labels.length : Int)), (14, I k), (25, slI false (at_ p.Weights k.toNat)), (26, I (((at_ p.Weights k.toNat).length) : Int)), (27, I j)] [(1, Zag p), (3, .bld 58 60007), (60007, .buf 5 false ty)]) ((((at_ p.Weights k.toNat).length : Int) - 0).toNat) ⟨0, (tx ++ (at_ p.Labels k.toNat)), rfl, (by omega), (by rw [htx]; exact congrArg (Zei (Zfp p) k.toNat ++ ·) (pcLn_0 _ _).symm), rfl⟩ (fun gn gσ hI => ?_)
    obtain ⟨j, ty, rfl, hj0, hty, rfl⟩ := hI
    refine Zal ?_
    by_cases h3 : j < (((at_ p.Weights k.toNat).length) : Int)
    ·have hzy := congrArg ByteArray.size hty
     rw [ByteArray.size_append] at hzy
     have hzz := hsz j.toNat
     have hzq := Zic hok (k := k.toNat) (by omega)
     have hj : j.toNat < (at_ p.Weights k.toNat).length := by omega
     have hwb := hrow.2 j.toNat (by omega)
     have hj1 : (j + 1).toNat = j.toNat + 1 := by omega
     have hpl := pcLn_1 (at_ p.Labels k.toNat) hj
     have hdz := Zok (n := at_ (at_ p.Weights k.toNat) j.toNat) (by omega)
     refine Zbx [(0, .dec true)] [1, 3, 12, 13, 14, 25, 26, 27, 28] [1, 3, 60007] [.ref 1 0, .ref 3 0, slS false p.Labels, I (p.Labels.length : Int), I k, slI false (at_ p.Weights k.toNat), I (((at_ p.Weights k.toNat).length) : Int), I j, Bv true] [some (Zag p), some (.bld 58 60007), some (.buf 5 false ty)] [j < (((at_ p.Weights k.toNat).length) : Int)] hB ⟨h3, trivial⟩ ?_
     refine Zac ?_
     refine Zal ?_
     refine Zbc rfl ?_
     refine Zbf ?_
     refine Zac ?_
     refine Zal ?_
     refine Zbn ?_
     refine aR [] [1, 3, 7, 12, 13, 14, 25, 26, 27] [1, 3, 60007] [.ref 1 0, .ref 3 0, I (at_ (at_ p.Weights k.toNat) j.toNat), slS false p.Labels, I (p.Labels.length : Int), I k, slI false (at_ p.Weights k.toNat), I (((at_ p.Weights k.toNat).length) : Int), I j] [some (Zag p), some (.bld 58 60007), some (.buf 5 false ty)] [(0 : Int) ≤ j ∧ j < (((at_ p.Weights k.toNat).length) : Int)] hB ⟨⟨(by omega), (by omega)⟩, trivial⟩ ?_
     refine Zbx [(1, .call [(true, .any)] true (Sv (Zdz (at_ (at_ p.Weights k.toNat) j.toNat)))), (3, .bw 3 60007 60006 (.string ((⟨#[32]⟩ : ByteArray) ++ (Zdz (at_ (at_ p.Weights k.toNat) j.toNat)))) false ((⟨#[32]⟩ : ByteArray) ++ (Zdz (at_ (at_ p.Weights k.toNat) j.toNat))))] [1, 3, 12, 13, 14, 25, 26, 27] [1, 3, 60006] [.ref 1 0, .ref 3 0, slS false p.Labels, I (p.Labels.length : Int), I k, slI false (at_ p.Weights k.toNat), I (((at_ p.Weights k.toNat).length) : Int), I j] [some (Zag p), some (.bld 58 60006), some (.buf 5 false (ty ++ ((⟨#[32]⟩ : ByteArray) ++ (Zdz (at_ (at_ p.Weights k.toNat) j.toNat)))))] [Con Tryz.prog 24 [I (at_ (at_ p.Weights k.toNat) j.toNat)] true (Sv (Zdz (at_ (at_ p.Weights k.toNat) j.toNat))) ∧ True, (⟨#[32]⟩ : ByteArray).size + (Zdz (at_ (at_ p.Weights k.toNat) j.toNat)).size ≤ 9223372036854775807, ([.ref 3 0, Sv ((⟨#[32]⟩ : ByteArray) ++ (Zdz (at_ (at_ p.Weights k.toNat) j.toNat)))] : List AV) = [.ref 3 0, Sv ((⟨#[32]⟩ : ByteArray) ++ (Zdz (at_ (at_ p.Weights k.toNat) j.toNat)))] ∧ BwOK Tryz.prog 23 58 5 (.string ((⟨#[32]⟩ : ByteArray) ++ (Zdz (at_ (at_ p.Weights k.toNat) j.toNat)))) false ty false ((⟨#[32]⟩ : ByteArray) ++ (Zdz (at_ (at_ p.Weights k.toNat) j.toNat)))] hB ⟨⟨(Zpq (at_ (at_ p.Weights k.toNat) j.toNat) (by omega)), trivial⟩, (by have h3 : (⟨#[10]⟩ : ByteArray).size = 1 := rfl; have h4 : (⟨#[32]⟩ : ByteArray).size = 1 := rfl; (try simp only [ByteArray.size_append]); omega), ⟨rfl, bw_ok (by have h3 : (⟨#[10]⟩ : ByteArray).size = 1 := rfl; have h4 : (⟨#[32]⟩ : ByteArray).size = 1 := rfl; (try simp only [ByteArray.size_append]); omega)⟩, trivial⟩ ?_
     refine Zcm 3 ?_
     refine Zac ?_
     refine Zbx [] [1, 3, 12, 13, 14, 25, 26, 27] [1, 3, 60006] [.ref 1 0, .ref 3 0, slS false p.Labels, I (p.Labels.length : Int), I k, slI false (at_ p.Weights k.toNat), I (((at_ p.Weights k.toNat).length) : Int), I (j + 1)] [some (Zag p), some (.bld 58 60006), some (.buf 5 false (ty ++ ((⟨#[32]⟩ : ByteArray) ++ (Zdz (at_ (at_ p.Weights k.toNat) j.toNat)))))] [inR .i64 (j + 1)] hB ⟨(Zam (by omega) (by omega)), trivial⟩ ?_
     refine Zfb hB [(60007, 60006)] (T := [(1, .ref 1 0), (3, .ref 3 0), (12, slS false p.Labels), (13, I (p.Labels.length : Int)), (14, I k), (25, slI false (at_ p.Weights k.toNat)), (26, I (((at_ p.Weights k.toNat).length) : Int)), (27, I (j + 1))]) (O := [(1, Zag p), (3, .bld 58 60007), (60007, .buf 5 false (ty ++ ((⟨#[32]⟩ : ByteArray) ++ (Zdz (at_ (at_ p.Weights k.toNat) j.toNat)))))]) rfl (⟨.inl rfl, .inl rfl, .inl rfl, .inl rfl, .inl rfl, .inl rfl, .inl rfl, .inl rfl, trivial⟩) (⟨.inl rfl, .inl rfl, .inl rfl, trivial⟩) (Zcp _ (by omega) ⟨(j + 1), (ty ++ ((⟨#[32]⟩ : ByteArray) ++ (Zdz (at_ (at_ p.Weights k.toNat) j.toNat)))), rfl, (by omega), (by rw [hj1, hpl, hty]; simp only [ByteArray.append_assoc]), rfl⟩)
    have hzy := congrArg ByteArray.size hty
    rw [ByteArray.size_append] at hzy
    have hzz := hsz j.toNat
    have hzq := Zic hok (k := k.toNat) (by omega)
    have hje : ty = Zei (Zfp p) k.toNat ++ Zzy (at_ p.Labels k.toNat) (at_ p.Weights k.toNat) := by rw [hty, Zsf _ (by omega)]
    refine Zbx [(0, .dec false)] [1, 3, 12, 13, 14, 25, 26, 27, 28] [1, 3, 60007] [.ref 1 0, .ref 3 0, slS false p.Labels, I (p.Labels.length : Int), I k, slI false (at_ p.Weights k.toNat), I (((at_ p.Weights k.toNat).length) : Int), I j, Bv false] [some (Zag p), some (.bld 58 60007), some (.buf 5 false ty)] [¬ (j < (((at_ p.Weights k.toNat).length) : Int))] hB ⟨h3, trivial⟩ ?_
    refine Zac ?_
    refine Zal ?_
    refine Zay rfl ?_
    refine Zdl ?_
    refine Zas ?_
    refine Zas ?_
    refine Zbw ?_
    refine Zac ?_
    refine Zbx [(0, .bw 3 60007 60006 (.string (⟨#[10]⟩ : ByteArray)) false (⟨#[10]⟩ : ByteArray))] [1, 3, 12, 13, 14] [1, 3, 60006] [.ref 1 0, .ref 3 0, slS false p.Labels, I (p.Labels.length : Int), I k] [some (Zag p), some (.bld 58 60006), some (.buf 5 false (ty ++ (⟨#[10]⟩ : ByteArray)))] [([.ref 3 0, Sv (⟨#[10]⟩ : ByteArray)] : List AV) = [.ref 3 0, Sv (⟨#[10]⟩ : ByteArray)] ∧ BwOK Tryz.prog 23 58 5 (.string (⟨#[10]⟩ : ByteArray)) false ty false (⟨#[10]⟩ : ByteArray)] hB ⟨⟨rfl, bw_ok (by have h3 : (⟨#[10]⟩ : ByteArray).size = 1 := rfl; have h4 : (⟨#[32]⟩ : ByteArray).size = 1 := rfl; (try simp only [ByteArray.size_append]); omega)⟩, trivial⟩ ?_
    refine Zcm 1 ?_
    refine Zac ?_
    refine Zbx [] [1, 3, 12, 13, 14] [1, 3, 60006] [.ref 1 0, .ref 3 0, slS false p.Labels, I (p.Labels.length : Int), I (k + 1)] [some (Zag p), some (.bld 58 60006), some (.buf 5 false (ty ++ (⟨#[10]⟩ : ByteArray)))] [inR .i64 (k + 1)] hB ⟨(Zam (by omega) (by omega)), trivial⟩ ?_
    exact Zcp _ (by omega) ⟨(k + 1), (ty ++ (⟨#[10]⟩ : ByteArray)), rfl, (by omega), (by rw [hks, Zei, Zkx hi, hje]; simp only [ByteArray.append_assoc]), rfl⟩
   have hke : k.toNat = p.Labels.length := by omega
   rw [hke] at htx
   refine Zbx [(0, .dec false)] [1, 3, 12, 13, 14, 15] [1, 3, 60006] [.ref 1 0, .ref 3 0, slS false p.Labels, I (p.Labels.length : Int), I k, Bv false] [some (Zag p), some (.bld 58 60006), some (.buf 5 false tx)] [¬ (k < (p.Labels.length : Int))] hB ⟨h2, trivial⟩ ?_
   refine Zac ?_
   refine Zal ?_
   refine Zay rfl ?_
   refine Zdl ?_
   refine Zas ?_
   refine Zas ?_
   refine Zbw ?_
   refine Zac ?_
   refine aR [(0, .bs 3 60006)] [2] [] [Sv tx] [] [([.ref 3 0] : List AV) = [.ref 3 0] ∧ BsOK Tryz.prog 25 58 5] hB ⟨⟨rfl, bs_ok⟩, trivial⟩ ?_
   refine Zax ?_
   refine Zba hB (Sv tx) (by kernel_rfl) (.inl (by first | (rw [Zeo, if_pos hok, htx]; done) | (rw [Zeo, if_neg (by simp [*])]; done))) rfl (fun _ => trivial)
  refine Zbx [(1, .call [(true, .any)] true (Bv false))] [1, 10] [1] [.ref 1 0, Bv true] [some (Zag p)] [Con Tryz.prog 14 [Zae p] true (Bv false) ∧ True] hB ⟨⟨(Zaq h1 (Zbk p ok_)), trivial⟩, trivial⟩ ?_
  refine Zac ?_
  refine Zbc rfl ?_
  refine aR [] [2] [] [Sv (⟨#[]⟩ : ByteArray)] [] [] hB trivial ?_
  refine Zax ?_
  refine Zai ?_
  refine Zba hB (Sv (⟨#[]⟩ : ByteArray)) (by kernel_rfl) (.inl (by first | (rw [Zeo, if_pos hok, htx]; done) | (rw [Zeo, if_neg (by simp [*])]; done))) rfl (fun _ => trivial)
-- strings.HasSuffix
theorem Zmi (s p : ByteArray) (hs : s.size ≤ 9223372036854775807) : Con Tryz.prog 62 [Sv s, Sv p] true (Bv (sufB s p)) := by
  refine Zfz (vals := [.string s, .string p]) fun w _ => ?_
  refine (Tryz.strings_HasSuffix s p w hs).mono ?_
  rintro e w' ⟨rfl, rfl⟩
  exact ⟨rfl, Below.refl _ _⟩
end Go.Proofs.YtblhhmcplocepaaGreatDoor.Ax
