/- Contracts that the statement FnTraining reaches, part 3. No conditions. -/
import Derived.Test.YtblhhmcplocepaaGreatDoorAxLTraining2
import Derived.LaidMore
import Derived.Lay
import Derived.Lib.IndexBytes
import Derived.Lib.ItoaNum
import Derived.Lib.ParseIntBCases
import Derived.Lib.ParseIntBTie
import Derived.Lib.SplitLaws
import Derived.OpenShut
import Derived.SevenTiedAt
import Derived.Stop.Joined
import Derived.Test.YtblhhmcplocepaaGreatDoorAxBd
import Derived.Test.YtblhhmcplocepaaGreatDoorAxQ
import Derived.Test.YtblhhmcplocepaaGreatDoorAxR
import Derived.Test.YtblhhmcplocepaaGreatDoorAxS
import Derived.Test.YtblhhmcplocepaaGreatDoorAxY
import Derived.Test.YtblhhmcplocepaaGreatDoorDelShelf
namespace Go.Proofs.YtblhhmcplocepaaGreatDoor.Ax
open Go.RowKit Go.ChangeShapes Go.WideShapes
set_option linter.unusedVariables false
set_option linter.unusedSimpArgs false
theorem scoR_ok {p : Perceptron} {fs : List Feat} {v : List Int} {c : Int} (e : (v, c) = Zzt p fs) (h : c = 0) : Zbb p = true ∧ Zbp fs 384 = true ∧ v = scR p.Weights (Zed fs) := by
  subst h
  unfold Zzt at e
  split at e
  · rename_i h; exact ⟨h.1, h.2, congrArg Prod.fst e⟩
  · exact absurd (show (0 : Int) = 1 from congrArg Prod.snd e) (by decide)
theorem clsR_no {p : Perceptron} {fs : List Feat} {v : List Int} {c : Int} (e : (v, c) = Zzt p fs) (h : ¬ c = 0) : Ycv p fs = ((⟨#[]⟩, 0), c) := by
  unfold Zzt at e
  unfold Ycv
  split at e
  · exact absurd (congrArg Prod.snd e) h
  · rename_i q; rw [if_neg q, show c = 1 from congrArg Prod.snd e]
theorem mg_one {l : List Int} (h1 : 1 ≤ l.length) (h : ¬ 0 < ((l.take (Zbk l).toNat ++ l.drop (Zbk l + 1).toNat).length : Int)) : mgI l = 0 := by
  have hb := Zjj h1
  refine mg_none ?_
  rw [List.length_append, List.length_take, List.length_drop] at h
  omega
theorem mg_two {l : List Int} {M : Int} (h1 : 1 ≤ l.length) (h : 0 < ((l.take (Zbk l).toNat ++ l.drop (Zbk l + 1).toNat).length : Int)) (hm : Zwp (l.take (Zbk l).toNat ++ l.drop (Zbk l + 1).toNat) (l.take (Zbk l).toNat ++ l.drop (Zbk l + 1).toNat).length M) : at_ l (Zbk l).toNat - M = mgI l := by
  have hb := Zjj h1
  have e : (Zbk l + 1).toNat = (Zbk l).toNat + 1 := by omega
  rw [e] at h hm
  refine mg_mx ?_ hm
  rw [List.length_append, List.length_take, List.length_drop] at h
  omega
theorem mx_bd {l : List Int} {k m A B : Int} (h : Zwp l k m) (hk : k ≤ (l.length : Int)) (hl : ∀ x ∈ l, A ≤ x ∧ x ≤ B) : A ≤ m ∧ m ≤ B := by
  obtain ⟨⟨j, h1, h2⟩, _⟩ := h
  have := hl _ (Zct (xs := l) (i := j) (by omega))
  omega
theorem sc_bd {p : Perceptron} {fs : List Feat} (h1 : Zbb p = true) (h2 : Zbp fs 384 = true) : ∀ x ∈ scR p.Weights (Zed fs), -12800000000 ≤ x ∧ x ≤ 12800000000 := fun x hx => by
  unfold scR at hx
  rw [List.mem_map] at hx
  obtain ⟨r, hr, rfl⟩ := hx
  obtain ⟨j, hj, e⟩ := List.getElem_of_mem hr
  have hq := Zcu (Zcd.1 h1).2.2 hj
  rw [Zez hj, e] at hq
  have := Zyp hq.2 (Zwq (Zjk h2).1) 25 (Nat.le_refl _)
  omega
theorem rest_mem {l : List Int} {a b : Nat} {x : Int} (h : x ∈ l.take a ++ l.drop b) : x ∈ l := by
  rcases List.mem_append.1 h with h | h
  · exact List.mem_of_mem_take h
  · exact List.mem_of_mem_drop h
def okS (s : Sample) : Bool := Zci s.Label && Zbp s.Feats 384
def cdR (p : Perceptron) (list : List Sample) : Int := if Zbb p = true then (if Zim list.length (fun j => okS (at_ list j)) = true then (if Zim list.length (fun j => decide (0 ≤ Zaw p.Labels (at_ list j).Label)) = true then (if 40 < (list.length : Int) then 2 else 0) else 3) else 1) else 1
theorem fndL_mem {ls : List ByteArray} {l : ByteArray} (h : 0 ≤ Zaw ls l) : l ∈ ls := by
  unfold Zaw at h
  rcases Zhi ls.length (fun j => decide (at_ ls j = l)) with ⟨h1, _⟩ | ⟨k, _, h2, h3, _⟩
  · omega
  · rw [← of_decide_eq_true h3]; exact Zct h2
theorem cd_ok {p : Perceptron} {list : List Sample} (h : cdR p list = 0) : Zbb p = true ∧ (∀ j, j < list.length → okS (at_ list j) = true ∧ (at_ list j).Label ∈ p.Labels ∧ Zbp (at_ list j).Feats 384 = true) ∧ list.length ≤ 40 := by
  unfold cdR at h
  split at h
  · rename_i h1
    split at h
    · rename_i h2
      split at h
      · rename_i h3
        split at h
        · cases h
        · refine ⟨h1, fun j hj => ?_, by omega⟩
          have a := Zhh h2 hj
          have b := Zhh h3 hj
          refine ⟨a, fndL_mem (of_decide_eq_true b), ?_⟩
          unfold okS at a
          rw [Bool.and_eq_true] at a; exact a.2
      · cases h
    · cases h
  · cases h
theorem cd_a {p : Perceptron} {list : List Sample} (h : Zbb p = false) : cdR p list = 1 := by unfold cdR; rw [h]; rfl
theorem cd_b {p : Perceptron} {list : List Sample} (h1 : Zbb p = true) (h : Zim list.length (fun j => okS (at_ list j)) = false) : cdR p list = 1 := by unfold cdR; rw [if_pos h1, h]; rfl
theorem cd_c {p : Perceptron} {list : List Sample} (h1 : Zbb p = true) (h2 : Zim list.length (fun j => okS (at_ list j)) = true) (h : Zim list.length (fun j => decide (0 ≤ Zaw p.Labels (at_ list j).Label)) = false) : cdR p list = 3 := by unfold cdR; rw [if_pos h1, if_pos h2, h]; rfl
theorem cd_d {p : Perceptron} {list : List Sample} (h1 : Zbb p = true) (h2 : Zim list.length (fun j => okS (at_ list j)) = true) (h3 : Zim list.length (fun j => decide (0 ≤ Zaw p.Labels (at_ list j).Label)) = true) (h : 40 < (list.length : Int)) : cdR p list = 2 := by unfold cdR; rw [if_pos h1, if_pos h2, if_pos h3, if_pos h]
theorem cd_e {p : Perceptron} {list : List Sample} (h1 : Zbb p = true) (h2 : Zim list.length (fun j => okS (at_ list j)) = true) (h3 : Zim list.length (fun j => decide (0 ≤ Zaw p.Labels (at_ list j).Label)) = true) (h : ¬ 40 < (list.length : Int)) : cdR p list = 0 := by unfold cdR; rw [if_pos h1, if_pos h2, if_pos h3, if_neg h]
def trnR (p : Perceptron) (s : Sample) : List (List Int) × Bool := if Zbk (scR p.Weights (Zed s.Feats)) = Zaw p.Labels s.Label then (p.Weights, false) else (Zgi p.Weights (Zed s.Feats) (Zaw p.Labels s.Label).toNat (Zbk (scR p.Weights (Zed s.Feats))).toNat 25, true)
theorem Ydb {p : Perceptron} {s : Sample} (h : Zbk (scR p.Weights (Zed s.Feats)) = Zaw p.Labels s.Label) : trnR p s = (p.Weights, false) := if_pos h
theorem Ydc {p : Perceptron} {s : Sample} (h : ¬ Zbk (scR p.Weights (Zed s.Feats)) = Zaw p.Labels s.Label) : trnR p s = (Zgi p.Weights (Zed s.Feats) (Zaw p.Labels s.Label).toNat (Zbk (scR p.Weights (Zed s.Feats))).toNat 25, true) := if_neg h
theorem trn_step {p : Perceptron} {s : Sample} {W : List (List Int)} {ch : Bool} (hp : Zbb p = true) (e : (W, ch) = trnR p s) : (Zbb ⟨p.Labels, W⟩ = true → Zdv p s = (⟨p.Labels, W⟩, ch, 0)) ∧ (Zbb ⟨p.Labels, W⟩ = false → Zdv p s = (⟨[], []⟩, false, 5)) := by
  by_cases h : Zbk (scR p.Weights (Zed s.Feats)) = Zaw p.Labels s.Label
  · rw [Ydb h, Prod.mk.injEq] at e
    obtain ⟨rfl, rfl⟩ := e
    refine ⟨fun _ => by rw [Zjz h], fun q => ?_⟩
    rw [show (⟨p.Labels, p.Weights⟩ : Perceptron) = p from rfl, hp] at q; cases q
  · rw [Ydc h, Prod.mk.injEq] at e
    obtain ⟨e1, e2⟩ := e
    subst e2
    have h3 := Zlb h
    have h4 := Zmn h
    rw [← e1] at h3 h4
    exact ⟨h3, fun q => h4 (by rw [q]; exact Bool.false_ne_true)⟩
def Zow (p : Perceptron) (list : List Sample) : Perceptron × Int × Int := if cdR p list = 0 then epR p list list.length else (⟨[], []⟩, 0, cdR p list)
theorem Ydd {p : Perceptron} {list : List Sample} (h : cdR p list = 0) : Zow p list = epR p list list.length := if_pos h
theorem tep_no {p : Perceptron} {list : List Sample} (h : ¬ cdR p list = 0) : Zow p list = (⟨[], []⟩, 0, cdR p list) := if_neg h
theorem Yde {p : Perceptron} {list : List Sample} : ∀ k, ¬ (epR p list k).2.2 = 0 → epR p list k = (⟨[], []⟩, 0, (epR p list k).2.2)
  | 0, h => absurd rfl h
  | k + 1, h => by
    rw [epR] at h ⊢
    by_cases h1 : (epR p list k).2.2 = 0
    · rw [if_pos h1] at h ⊢
      by_cases h2 : (Zdv (epR p list k).1 (at_ list k)).2.2 = 0
      · rw [if_pos h2] at h; exact absurd rfl h
      · rw [if_neg h2]
    · rw [if_neg h1]; exact Yde k h1
theorem lab_win {p : Perceptron} {l : ByteArray} {b : Int} (hp : Zbb p = true) (hl : l ∈ p.Labels) (hb : 0 ≤ b ∧ b < (p.Labels.length : Int)) : at_ p.Labels b.toNat = l ↔ b = Zaw p.Labels l := by
  have hpw := (Zkg (Zcd.1 hp).1).2
  rw [List.pairwise_iff_getElem] at hpw
  have hf := Zso hl
  have hat : at_ p.Labels (Zaw p.Labels l).toNat = l := by
    unfold Zaw
    rcases Zhi p.Labels.length (fun j => decide (at_ p.Labels j = l)) with ⟨h1, _⟩ | ⟨k, h1, h2, h3, _⟩
    · unfold Zaw at hf; omega
    · rw [h1]; exact of_decide_eq_true h3
  constructor
  · intro h
    apply Classical.byContradiction
    intro hn
    rcases Int.lt_or_gt_of_ne hn with q | q
    · have := hpw b.toNat (Zaw p.Labels l).toNat (by omega) (by omega) (by omega)
      rw [← Zez, ← Zez, h, hat, Ydf] at this; cases this
    · have := hpw (Zaw p.Labels l).toNat b.toNat (by omega) (by omega) (by omega)
      rw [← Zez, ← Zez, h, hat, Ydf] at this; cases this
  · intro h; rw [h]; exact hat
theorem step_n {q : Perceptron} {s : Sample} (hs : (Zdv q s).2.2 = 0) : (Zdv q s).2.1 = false ↔ Zbk (scR q.Weights (Zed s.Feats)) = Zaw q.Labels s.Label := by
  by_cases h1 : Zbk (scR q.Weights (Zed s.Feats)) = Zaw q.Labels s.Label
  · rw [Zjz h1]; exact ⟨fun _ => h1, fun _ => rfl⟩
  · by_cases h2 : Zbb ⟨q.Labels, Zgi q.Weights (Zed s.Feats) (Zaw q.Labels s.Label).toNat (Zbk (scR q.Weights (Zed s.Feats))).toNat 25⟩ = true
    · rw [Zlb h1 h2]; exact ⟨fun z => absurd (show true = false from z) (by decide), fun z => absurd z h1⟩
    · rw [Zmn h1 h2] at hs; cases hs
theorem Ydg {p : Perceptron} {list : List Sample} {ls : List ByteArray} {W : List (List Int)} {n c : Int} (hp : Zbb p = true) (h1 : ls = p.Labels) (h2 : (epR p list list.length).2 = (n, c)) (h3 : c = 0 → W = (epR p list list.length).1.Weights) (hc : c = 0) : (Perceptron.mk ls W, n, (0 : Int)) = epR p list list.length := by
  have h4 := ep_ok (list := list) hp list.length (by rw [h2]; exact hc)
  refine Prod.ext ?_ ?_
  · show Perceptron.mk ls W = (epR p list list.length).1
    rw [h3 hc, h1, ← h4.2]
  · rw [h2, hc]
theorem Zwr {p : Perceptron} {list : List Sample} {n c : Int} (h2 : (epR p list list.length).2 = (n, c)) (hc : ¬ c = 0) : ((⟨[], []⟩ : Perceptron), (0 : Int), c) = epR p list list.length := by
  have := Yde (p := p) (list := list) list.length (by rw [h2]; exact hc)
  rw [this, h2]
theorem Zpu (s : Sample) (hz : s.Label.size ≤ 9223372036854775807) : Con Tryz.prog 89 [Zcy s] true (Bv (okS s)) := by
  refine Zdc (fn := Tryz.f89) (nt := 11) Tryz.func89 rfl rfl rfl rfl (by simp [Zah, Zak, Zef]) fun B hB => ?_
  refine Zcg (x := Zcy s) 0 rfl (fun len_s => ?_)
  simp [Zdt, Zgj, Zhc, Zdr, Zau] at len_s
  refine aR [(0, .new 1)] [1] [1] [.ref 1 0] [some (Zfq s)] [] hB trivial ?_
  refine Zal ?_
  rcases Bool.eq_false_or_eq_true (Zci s.Label) with h1 | h1
  ·refine Zby [(2, .call [(true, .any)] true (Bv true)), (6, .call [(true, .any)] true (Bv (Zbp s.Feats 384)))] [2] [] [Bv (Zbp s.Feats 384)] [] [Con Tryz.prog 75 [Sv s.Label] true (Bv true) ∧ True, Con Tryz.prog 80 [Zau false s.Feats] true (Bv (Zbp s.Feats 384)) ∧ True] hB ⟨⟨(Zaq h1 (Zeo s.Label hz)), trivial⟩, ⟨(Zif s.Feats), trivial⟩, trivial⟩ ?_
   refine Zac ?_
   refine Zax ?_
   refine Zba hB (Bv (Zbp s.Feats 384)) (by kernel_rfl) (.inl (by refine congrArg Bv ?_; unfold okS; first | (rw [show Zci s.Label = false from by assumption]; rfl) | (rw [show Zci s.Label = true from by assumption]; rfl))) rfl (fun _ => trivial)
  refine Zby [(2, .call [(true, .any)] true (Bv false))] [2] [] [Bv false] [] [Con Tryz.prog 75 [Sv s.Label] true (Bv false) ∧ True] hB ⟨⟨(Zaq h1 (Zeo s.Label hz)), trivial⟩, trivial⟩ ?_
  refine Zac ?_
  refine Zax ?_
  refine Zba hB (Bv false) (by kernel_rfl) (.inl (by refine congrArg Bv ?_; unfold okS; first | (rw [show Zci s.Label = false from by assumption]; rfl) | (rw [show Zci s.Label = true from by assumption]; rfl))) rfl (fun _ => trivial)
theorem Zlc (s : Sample) (hz : s.Label.size ≤ 9223372036854775807) : Con Tryz.prog 88 [Zcy s] true (Bv (!(okS s))) := by
  refine Zdc (fn := Tryz.f88) (nt := 6) Tryz.func88 rfl rfl rfl rfl (by simp [Zah, Zak, Zef]) fun B hB => ?_
  refine Zcg (x := Zcy s) 0 rfl (fun len_s => ?_)
  simp [Zdt, Zgj, Zhc, Zdr, Zau] at len_s
  refine aR [(0, .new 1)] [1] [1] [.ref 1 0] [some (Zfq s)] [] hB trivial ?_
  refine aR [(1, .call [(true, .any)] true (Bv (okS s)))] [2] [] [Bv (!((okS s)))] [] [Con Tryz.prog 89 [Zcy s] true (Bv (okS s)) ∧ True] hB ⟨⟨(Zpu s hz), trivial⟩, trivial⟩ ?_
  refine Zax ?_
  refine Zba hB (Bv (!((okS s)))) (by kernel_rfl) (.inl (by first | rfl | (refine congrArg Bv ?_; simp [*]; done) | (refine congrArg Bv ?_; simp [*]; omega) | (refine congrArg Bv ?_; simp_all []; done) | (refine congrArg Bv ?_; simp_all []; omega))) rfl (fun _ => trivial)
theorem Zum (s : List ByteArray) (v : ByteArray) : Con Tryz.prog 112 [slS false s, Sv v] true (I (Zaw s v)) := by
  refine Zdc (fn := Tryz.f112) (nt := 19) Tryz.func112 rfl rfl rfl rfl (by simp [Zah, Zak, Zer]) fun B hB => ?_
  refine Zcg (x := slS false s) 0 rfl (fun len_s => ?_)
  simp [Zdt, Zgj, cS, fS, slS] at len_s
  refine aR [] [0, 1] [] [slS false s, Sv v] [] [] hB trivial ?_
  refine Zal ?_
  refine aR [] [0, 1, 7, 8] [] [slS false s, Sv v, I (s.length : Int), I 0] [] [] hB trivial ?_
  refine Zbo ?_
  refine Zdm (fun gn gσ => ∃ (t8 : Int), gn = ((s.length : Int) - t8).toNat ∧ (0 ≤ t8 ∧ t8 ≤ (s.length : Int)) ∧ (∀ j : Nat, (j : Int) < t8 → ¬ at_ s j = v) ∧ gσ = mkS [(0, slS false s), (1, Sv v), (7, I (s.length : Int)), (8, I t8)] []) (((s.length : Int) - 0).toNat) ⟨0, rfl, (by omega), (by intro j hj; omega), rfl⟩ (fun gn gσ hI => ?_)
  obtain ⟨t8, rfl, hi0, hne, rfl⟩ := hI
  refine Zal ?_
  by_cases h1 : t8 < (s.length : Int)
  ·have hi : t8.toNat < s.length := by omega
   refine Zby [(0, .dec true)] [0, 1, 7, 8, 9] [] [slS false s, Sv v, I (s.length : Int), I t8, Bv true] [] [t8 < (s.length : Int)] hB ⟨h1, trivial⟩ ?_
   refine Zac ?_
   refine Zal ?_
   refine Zbc rfl ?_
   refine Zbf ?_
   refine Zac ?_
   refine Zal ?_
   refine Zbo ?_
   refine aR [] [0, 1, 5, 7, 8] [] [slS false s, Sv v, I t8, I (s.length : Int), I t8] [] [] hB trivial ?_
   refine Zal ?_
   by_cases h2 : v = (at_ s t8.toNat)
   ·have hfin : Zaw s v = t8.toNat := Zex hi (decide_eq_true (Eq.symm h2)) (fun j hj => decide_eq_false (hne j (by omega)))
    refine Zby [(5, .dec true)] [0, 1, 5, 7, 8, 16] [] [slS false s, Sv v, I t8, I (s.length : Int), I t8, Bv true] [] [(0 : Int) ≤ t8 ∧ t8 < (s.length : Int), v = (at_ s t8.toNat)] hB ⟨⟨(by omega), (by omega)⟩, h2, trivial⟩ ?_
    refine Zac ?_
    refine Zbc rfl ?_
    refine aR [] [4] [] [I t8] [] [] hB trivial ?_
    refine Zax ?_
    refine Zat (Zai (Zai (Zat (Zai ?_))))
    refine Zba hB (I t8) (by kernel_rfl) (.inl (by refine congrArg I ?_; first | (rw [hfin]; done) | (rw [hfin]; omega))) rfl (fun _ => trivial)
   have hno : ¬ at_ s t8.toNat = v := fun q => h2 q.symm
   refine Zby [(5, .dec false)] [0, 1, 5, 7, 8, 16] [] [slS false s, Sv v, I t8, I (s.length : Int), I t8, Bv false] [] [(0 : Int) ≤ t8 ∧ t8 < (s.length : Int), ¬ (v = (at_ s t8.toNat))] hB ⟨⟨(by omega), (by omega)⟩, h2, trivial⟩ ?_
   refine Zac ?_
   refine Zay rfl ?_
   refine Zbf ?_
   refine Zco 1 ?_
   refine Zac ?_
   refine Zby [] [0, 1, 7, 8] [] [slS false s, Sv v, I (s.length : Int), I (t8 + 1)] [] [inR .i64 (t8 + 1)] hB ⟨(Zam (by omega) (by omega)), trivial⟩ ?_
   exact Zcr _ (by omega) ⟨(t8 + 1), rfl, (by omega), (by intro j hj; by_cases ej : j = t8.toNat; (subst ej; exact hno); exact hne j (by omega)), rfl⟩
  have hfin : Zaw s v = -1 := Zen (fun j hj => decide_eq_false (hne j (by omega)))
  refine Zby [(0, .dec false)] [0, 1, 7, 8, 9] [] [slS false s, Sv v, I (s.length : Int), I t8, Bv false] [] [¬ (t8 < (s.length : Int))] hB ⟨h1, trivial⟩ ?_
  refine Zac ?_
  refine Zal ?_
  refine Zay rfl ?_
  refine Zdn ?_
  refine Zas ?_
  refine Zas ?_
  refine Zbx ?_
  refine Zac ?_
  refine aR [] [4] [] [I (-1)] [] [] hB trivial ?_
  refine Zax ?_
  refine Zba hB (I (-1)) (by kernel_rfl) (.inl (by refine congrArg I ?_; first | (rw [hfin]; done) | (rw [hfin]; omega))) rfl (fun _ => trivial)
theorem Zpv (s : List ByteArray) (v : ByteArray) : Con Tryz.prog 91 [slS false s, Sv v] true (Bv (decide (0 ≤ Zaw s v))) := by
  refine Zdc (fn := Tryz.f91) (nt := 9) Tryz.func91 rfl rfl rfl rfl (by simp [Zah, Zak, Zer]) fun B hB => ?_
  refine Zcg (x := slS false s) 0 rfl (fun len_s => ?_)
  simp [Zdt, Zgj, cS, fS, slS] at len_s
  refine aR [] [0, 1] [] [slS false s, Sv v] [] [] hB trivial ?_
  refine aR [(2, .call [(true, .any), (true, .any)] true (I (Zaw s v)))] [4] [] [Bv (decide (0 ≤ (Zaw s v)))] [] [Con Tryz.prog 112 [slS false s, Sv v] true (I (Zaw s v)) ∧ True] hB ⟨⟨(Zum s v), trivial⟩, trivial⟩ ?_
  refine Zax ?_
  refine Zba hB (Bv (decide (0 ≤ (Zaw s v)))) (by kernel_rfl) (.inl (by rfl)) rfl (fun _ => trivial)
theorem Zld (s : Sample) (p : Perceptron) : Con Tryz.prog 90 [Zcy s, .ptr false [slS false p.Labels, Zbg false p.Weights]] true (Bv (!(decide (0 ≤ Zaw p.Labels s.Label)))) := by
  refine Zdc (fn := Tryz.f90) (nt := 10) Tryz.func90 rfl rfl rfl rfl (by simp [Zah, Zak, Zef, Zdd, Zer]) fun B hB => ?_
  refine Zcg (x := Zcy s) 0 rfl (fun len_s => ?_)
  simp [Zdt, Zgj, Zhc, Zdr, Zau] at len_s
  refine Zcg (x := .ptr false [slS false p.Labels, Zbg false p.Weights]) 1 rfl (fun len_p => ?_)
  simp [Zdt, Zgj, cI, cLI, cS, fI, fLI, fS, slI, Zbg, slS] at len_p
  refine aR [(0, .new 2)] [1, 2] [2] [.ptr false [slS false p.Labels, Zbg false p.Weights], .ref 2 0] [some (Zfq s)] [] hB trivial ?_
  refine aR [(4, .call [(true, .any), (true, .any)] true (Bv (decide (0 ≤ Zaw p.Labels s.Label))))] [3] [] [Bv (!((decide (0 ≤ Zaw p.Labels s.Label))))] [] [Con Tryz.prog 91 [slS false p.Labels, Sv s.Label] true (Bv (decide (0 ≤ Zaw p.Labels s.Label))) ∧ True] hB ⟨⟨(Zpv p.Labels s.Label), trivial⟩, trivial⟩ ?_
  refine Zax ?_
  refine Zba hB (Bv (!((decide (0 ≤ Zaw p.Labels s.Label))))) (by kernel_rfl) (.inl (by first | rfl | (refine congrArg Bv ?_; simp [*]; done) | (refine congrArg Bv ?_; simp [*]; omega) | (refine congrArg Bv ?_; simp_all []; done) | (refine congrArg Bv ?_; simp_all []; omega))) rfl (fun _ => trivial)
theorem Zmb (s : List Sample) (hel : ∀ j, j < s.length → (at_ s j).Label.size ≤ 9223372036854775807) : Con Tryz.prog 111 [Zaj false s, .fn 88 []] true (I (Zcm s.length (fun j => (!(okS (at_ s j)))))) := by
  refine Zdc (fn := Tryz.f111) (nt := 19) Tryz.func111 rfl rfl rfl rfl (by simp [Zah, Zak, Zdq]) fun B hB => ?_
  refine Zcg (x := Zaj false s) 0 rfl (fun len_s => ?_)
  simp [Zdt, Zgj, Zhc, Zec, Zdr, Zcq, Zau, Zaj] at len_s
  refine aR [] [0, 1] [] [Zaj false s, .fn 88 []] [] [] hB trivial ?_
  refine Zal ?_
  refine aR [] [0, 1, 7, 8] [] [Zaj false s, .fn 88 [], I (s.length : Int), I 0] [] [] hB trivial ?_
  refine Zbo ?_
  refine Zdm (fun gn gσ => ∃ (t8 : Int), gn = ((s.length : Int) - t8).toNat ∧ (0 ≤ t8 ∧ t8 ≤ (s.length : Int)) ∧ (∀ j : Nat, (j : Int) < t8 → (!(okS (at_ s j))) = false) ∧ gσ = mkS [(0, Zaj false s), (1, .fn 88 []), (7, I (s.length : Int)), (8, I t8)] []) (((s.length : Int) - 0).toNat) ⟨0, rfl, (by omega), (by intro j hj; omega), rfl⟩ (fun gn gσ hI => ?_)
  obtain ⟨t8, rfl, hi0, hall0, rfl⟩ := hI
  refine Zal ?_
  by_cases h1 : t8 < (s.length : Int)
  ·have hi : t8.toNat < s.length := by omega
   refine Zby [(0, .dec true)] [0, 1, 7, 8, 9] [] [Zaj false s, .fn 88 [], I (s.length : Int), I t8, Bv true] [] [t8 < (s.length : Int)] hB ⟨h1, trivial⟩ ?_
   refine Zac ?_
   refine Zal ?_
   refine Zbc rfl ?_
   refine Zbf ?_
   refine Zac ?_
   refine Zal ?_
   refine Zbo ?_
   refine aR [] [0, 1, 5, 7, 8] [] [Zaj false s, .fn 88 [], I t8, I (s.length : Int), I t8] [] [] hB trivial ?_
   refine Zal ?_
   rcases Bool.eq_false_or_eq_true (!(okS (at_ s t8.toNat))) with h2 | h2
   ·have hfin : Zcm s.length (fun j => (!(okS (at_ s j)))) = t8.toNat := Zex hi h2 (fun j hj => hall0 j (by omega))
    refine Zby [(5, .call [(true, .any)] true (Bv true))] [0, 1, 5, 7, 8, 16] [] [Zaj false s, .fn 88 [], I t8, I (s.length : Int), I t8, Bv true] [] [(0 : Int) ≤ t8 ∧ t8 < (s.length : Int), Con Tryz.prog 88 [Zcy (at_ s t8.toNat)] true (Bv true) ∧ True] hB ⟨⟨(by omega), (by omega)⟩, ⟨(Zaq h2 (Zlc (at_ s t8.toNat) (hel _ hi))), trivial⟩, trivial⟩ ?_
    refine Zac ?_
    refine Zbc rfl ?_
    refine aR [] [4] [] [I t8] [] [] hB trivial ?_
    refine Zax ?_
    refine Zat (Zai (Zai (Zat (Zai ?_))))
    refine Zba hB (I t8) (by kernel_rfl) (.inl (by refine congrArg I ?_; first | (rw [hfin]; done) | (rw [hfin]; omega))) rfl (fun _ => trivial)
   refine Zby [(5, .call [(true, .any)] true (Bv false))] [0, 1, 5, 7, 8, 16] [] [Zaj false s, .fn 88 [], I t8, I (s.length : Int), I t8, Bv false] [] [(0 : Int) ≤ t8 ∧ t8 < (s.length : Int), Con Tryz.prog 88 [Zcy (at_ s t8.toNat)] true (Bv false) ∧ True] hB ⟨⟨(by omega), (by omega)⟩, ⟨(Zaq h2 (Zlc (at_ s t8.toNat) (hel _ hi))), trivial⟩, trivial⟩ ?_
   refine Zac ?_
   refine Zay rfl ?_
   refine Zbf ?_
   refine Zco 1 ?_
   refine Zac ?_
   refine Zby [] [0, 1, 7, 8] [] [Zaj false s, .fn 88 [], I (s.length : Int), I (t8 + 1)] [] [inR .i64 (t8 + 1)] hB ⟨(Zam (by omega) (by omega)), trivial⟩ ?_
   exact Zcr _ (by omega) ⟨(t8 + 1), rfl, (by omega), (by intro j hj; by_cases ej : j = t8.toNat; (subst ej; first | assumption | rfl); exact hall0 j (by omega)), rfl⟩
  have hfin : Zcm s.length (fun j => (!(okS (at_ s j)))) = -1 := Zen (fun j hj => hall0 j (by omega))
  refine Zby [(0, .dec false)] [0, 1, 7, 8, 9] [] [Zaj false s, .fn 88 [], I (s.length : Int), I t8, Bv false] [] [¬ (t8 < (s.length : Int))] hB ⟨h1, trivial⟩ ?_
  refine Zac ?_
  refine Zal ?_
  refine Zay rfl ?_
  refine Zdn ?_
  refine Zas ?_
  refine Zas ?_
  refine Zbx ?_
  refine Zac ?_
  refine aR [] [4] [] [I (-1)] [] [] hB trivial ?_
  refine Zax ?_
  refine Zba hB (I (-1)) (by kernel_rfl) (.inl (by refine congrArg I ?_; first | (rw [hfin]; done) | (rw [hfin]; omega))) rfl (fun _ => trivial)
theorem Zle (s : List Sample) (hel : ∀ j, j < s.length → (at_ s j).Label.size ≤ 9223372036854775807) : Con Tryz.prog 87 [Zaj false s, .fn 88 []] true (Bv (Zkj s.length (fun j => (!(okS (at_ s j)))))) := by
  refine Zdc (fn := Tryz.f87) (nt := 9) Tryz.func87 rfl rfl rfl rfl (by simp [Zah, Zak, Zdq]) fun B hB => ?_
  refine Zcg (x := Zaj false s) 0 rfl (fun len_s => ?_)
  simp [Zdt, Zgj, Zhc, Zec, Zdr, Zcq, Zau, Zaj] at len_s
  refine aR [] [0, 1] [] [Zaj false s, .fn 88 []] [] [] hB trivial ?_
  refine aR [(2, .call [(true, .any), (true, .any)] true (I (Zcm s.length (fun j => (!(okS (at_ s j)))))))] [4] [] [Bv (decide (0 ≤ (Zcm s.length (fun j => (!(okS (at_ s j)))))))] [] [Con Tryz.prog 111 [Zaj false s, .fn 88 []] true (I (Zcm s.length (fun j => (!(okS (at_ s j)))))) ∧ True] hB ⟨⟨(Zmb s hel), trivial⟩, trivial⟩ ?_
  refine Zax ?_
  refine Zba hB (Bv (decide (0 ≤ (Zcm s.length (fun j => (!(okS (at_ s j)))))))) (by kernel_rfl) (.inl (by exact congrArg Bv (Zhv _ _))) rfl (fun _ => trivial)
theorem Zmc (s : List Sample) (p : Perceptron) : Con Tryz.prog 111 [Zaj false s, .fn 90 [.ptr false [slS false p.Labels, Zbg false p.Weights]]] true (I (Zcm s.length (fun j => (!(decide (0 ≤ Zaw p.Labels (at_ s j).Label)))))) := by
  refine Zdc (fn := Tryz.f111) (nt := 19) Tryz.func111 rfl rfl rfl rfl (by simp [Zah, Zak, Zdd, Zer, Zdq]) fun B hB => ?_
  refine Zcg (x := Zaj false s) 0 rfl (fun len_s => ?_)
  simp [Zdt, Zgj, Zhc, Zec, Zdr, Zcq, Zau, Zaj] at len_s
  refine aR [] [0, 1] [] [Zaj false s, .fn 90 [.ptr false [slS false p.Labels, Zbg false p.Weights]]] [] [] hB trivial ?_
  refine Zal ?_
  refine aR [] [0, 1, 7, 8] [] [Zaj false s, .fn 90 [.ptr false [slS false p.Labels, Zbg false p.Weights]], I (s.length : Int), I 0] [] [] hB trivial ?_
  refine Zbo ?_
  refine Zdm (fun gn gσ => ∃ (t8 : Int), gn = ((s.length : Int) - t8).toNat ∧ (0 ≤ t8 ∧ t8 ≤ (s.length : Int)) ∧ (∀ j : Nat, (j : Int) < t8 → (!(decide (0 ≤ Zaw p.Labels (at_ s j).Label))) = false) ∧ gσ = mkS [(0, Zaj false s), (1, .fn 90 [.ptr false [slS false p.Labels, Zbg false p.Weights]]), (7, I (s.length : Int)), (8, I t8)] []) (((s.length : Int) - 0).toNat) ⟨0, rfl, (by omega), (by intro j hj; omega), rfl⟩ (fun gn gσ hI => ?_)
  obtain ⟨t8, rfl, hi0, hall0, rfl⟩ := hI
  refine Zal ?_
  by_cases h1 : t8 < (s.length : Int)
  ·have hi : t8.toNat < s.length := by omega
   refine Zby [(0, .dec true)] [0, 1, 7, 8, 9] [] [Zaj false s, .fn 90 [.ptr false [slS false p.Labels, Zbg false p.Weights]], I (s.length : Int), I t8, Bv true] [] [t8 < (s.length : Int)] hB ⟨h1, trivial⟩ ?_
   refine Zac ?_
   refine Zal ?_
   refine Zbc rfl ?_
   refine Zbf ?_
   refine Zac ?_
   refine Zal ?_
   refine Zbo ?_
   refine aR [] [0, 1, 5, 7, 8] [] [Zaj false s, .fn 90 [.ptr false [slS false p.Labels, Zbg false p.Weights]], I t8, I (s.length : Int), I t8] [] [] hB trivial ?_
   refine Zal ?_
   rcases Bool.eq_false_or_eq_true (!(decide (0 ≤ Zaw p.Labels (at_ s t8.toNat).Label))) with h2 | h2
   ·have hfin : Zcm s.length (fun j => (!(decide (0 ≤ Zaw p.Labels (at_ s j).Label)))) = t8.toNat := Zex hi h2 (fun j hj => hall0 j (by omega))
    refine Zby [(5, .call [(true, .any), (true, .any)] true (Bv true))] [0, 1, 5, 7, 8, 16] [] [Zaj false s, .fn 90 [.ptr false [slS false p.Labels, Zbg false p.Weights]], I t8, I (s.length : Int), I t8, Bv true] [] [(0 : Int) ≤ t8 ∧ t8 < (s.length : Int), Con Tryz.prog 90 [Zcy (at_ s t8.toNat), .ptr false [slS false p.Labels, Zbg false p.Weights]] true (Bv true) ∧ True] hB ⟨⟨(by omega), (by omega)⟩, ⟨(Zaq h2 (Zld (at_ s t8.toNat) p)), trivial⟩, trivial⟩ ?_
    refine Zac ?_
    refine Zbc rfl ?_
    refine aR [] [4] [] [I t8] [] [] hB trivial ?_
    refine Zax ?_
    refine Zat (Zai (Zai (Zat (Zai ?_))))
    refine Zba hB (I t8) (by kernel_rfl) (.inl (by refine congrArg I ?_; first | (rw [hfin]; done) | (rw [hfin]; omega))) rfl (fun _ => trivial)
   refine Zby [(5, .call [(true, .any), (true, .any)] true (Bv false))] [0, 1, 5, 7, 8, 16] [] [Zaj false s, .fn 90 [.ptr false [slS false p.Labels, Zbg false p.Weights]], I t8, I (s.length : Int), I t8, Bv false] [] [(0 : Int) ≤ t8 ∧ t8 < (s.length : Int), Con Tryz.prog 90 [Zcy (at_ s t8.toNat), .ptr false [slS false p.Labels, Zbg false p.Weights]] true (Bv false) ∧ True] hB ⟨⟨(by omega), (by omega)⟩, ⟨(Zaq h2 (Zld (at_ s t8.toNat) p)), trivial⟩, trivial⟩ ?_
   refine Zac ?_
   refine Zay rfl ?_
   refine Zbf ?_
   refine Zco 1 ?_
   refine Zac ?_
   refine Zby [] [0, 1, 7, 8] [] [Zaj false s, .fn 90 [.ptr false [slS false p.Labels, Zbg false p.Weights]], I (s.length : Int), I (t8 + 1)] [] [inR .i64 (t8 + 1)] hB ⟨(Zam (by omega) (by omega)), trivial⟩ ?_
   exact Zcr _ (by omega) ⟨(t8 + 1), rfl, (by omega), (by intro j hj; by_cases ej : j = t8.toNat; (subst ej; first | assumption | rfl); exact hall0 j (by omega)), rfl⟩
  have hfin : Zcm s.length (fun j => (!(decide (0 ≤ Zaw p.Labels (at_ s j).Label)))) = -1 := Zen (fun j hj => hall0 j (by omega))
  refine Zby [(0, .dec false)] [0, 1, 7, 8, 9] [] [Zaj false s, .fn 90 [.ptr false [slS false p.Labels, Zbg false p.Weights]], I (s.length : Int), I t8, Bv false] [] [¬ (t8 < (s.length : Int))] hB ⟨h1, trivial⟩ ?_
  refine Zac ?_
  refine Zal ?_
  refine Zay rfl ?_
  refine Zdn ?_
  refine Zas ?_
  refine Zas ?_
  refine Zbx ?_
  refine Zac ?_
  refine aR [] [4] [] [I (-1)] [] [] hB trivial ?_
  refine Zax ?_
  refine Zba hB (I (-1)) (by kernel_rfl) (.inl (by refine congrArg I ?_; first | (rw [hfin]; done) | (rw [hfin]; omega))) rfl (fun _ => trivial)
theorem Zlf (s : List Sample) (p : Perceptron) : Con Tryz.prog 87 [Zaj false s, .fn 90 [.ptr false [slS false p.Labels, Zbg false p.Weights]]] true (Bv (Zkj s.length (fun j => (!(decide (0 ≤ Zaw p.Labels (at_ s j).Label)))))) := by
  refine Zdc (fn := Tryz.f87) (nt := 9) Tryz.func87 rfl rfl rfl rfl (by simp [Zah, Zak, Zdd, Zer, Zdq]) fun B hB => ?_
  refine Zcg (x := Zaj false s) 0 rfl (fun len_s => ?_)
  simp [Zdt, Zgj, Zhc, Zec, Zdr, Zcq, Zau, Zaj] at len_s
  refine aR [] [0, 1] [] [Zaj false s, .fn 90 [.ptr false [slS false p.Labels, Zbg false p.Weights]]] [] [] hB trivial ?_
  refine aR [(2, .call [(true, .any), (true, .any)] true (I (Zcm s.length (fun j => (!(decide (0 ≤ Zaw p.Labels (at_ s j).Label)))))))] [4] [] [Bv (decide (0 ≤ (Zcm s.length (fun j => (!(decide (0 ≤ Zaw p.Labels (at_ s j).Label)))))))] [] [Con Tryz.prog 111 [Zaj false s, .fn 90 [.ptr false [slS false p.Labels, Zbg false p.Weights]]] true (I (Zcm s.length (fun j => (!(decide (0 ≤ Zaw p.Labels (at_ s j).Label)))))) ∧ True] hB ⟨⟨(Zmc s p), trivial⟩, trivial⟩ ?_
  refine Zax ?_
  refine Zba hB (Bv (decide (0 ≤ (Zcm s.length (fun j => (!(decide (0 ≤ Zaw p.Labels (at_ s j).Label)))))))) (by kernel_rfl) (.inl (by exact congrArg Bv (Zhv _ _))) rfl (fun _ => trivial)
theorem Zun (p : Perceptron) (list : List Sample) (ok : ∀ y ∈ p.Labels, y.size ≤ 9223372036854775807) (ok2 : ∀ y ∈ list, y.Label.size ≤ 9223372036854775807) : Con Tryz.prog 51 [Zae p, Zaj false list] true (I (cdR p list)) := by
  refine Zdc (fn := Tryz.f51) (nt := 18) Tryz.func51 rfl rfl rfl rfl (by simp [Zah, Zak, Zdd, Zer, Zdq]) fun B hB => ?_
  refine Zcg (x := Zae p) 0 rfl (fun len_p => ?_)
  simp [Zdt, Zgj, cI, cLI, cS, fI, fLI, fS, slI, Zbg, slS] at len_p
  refine Zcg (x := Zaj false list) 1 rfl (fun len_list => ?_)
  simp [Zdt, Zgj, Zhc, Zec, Zdr, Zcq, Zau, Zaj] at len_list
  refine aR [(0, .new 2)] [1, 2] [2] [Zaj false list, .ref 2 0] [some (Zag p)] [] hB trivial ?_
  refine Zal ?_
  refine Zal ?_
  rcases Bool.eq_false_or_eq_true (Zbb p) with h1 | h1
  ·have hpk := h1
   rcases Bool.eq_false_or_eq_true (Zkj list.length (fun j => (!(okS (at_ list j))))) with h2 | h2
   ·have hal : Zim list.length (fun j => okS (at_ list j)) = false := by have e : Zkj list.length (fun j => !(okS (at_ list j))) = !(Zim list.length (fun j => okS (at_ list j))) := Zdo _ _; rw [e] at h2; simpa using h2
    have hst := cd_b hpk hal
    refine Zby [(1, .call [(true, .any)] true (Bv true)), (5, .call [(true, .any), (true, .any)] true (Bv true))] [1, 2, 11] [2] [Zaj false list, .ref 2 0, Bv true] [some (Zag p)] [Con Tryz.prog 14 [Zae p] true (Bv true) ∧ True, Con Tryz.prog 87 [Zaj false list, .fn 88 []] true (Bv true) ∧ True] hB ⟨⟨(Zaq h1 (Zbl p ok)), trivial⟩, ⟨(Zaq h2 (Zle list (fun j hj => ok2 _ (Zct hj)))), trivial⟩, trivial⟩ ?_
    refine Zac ?_
    refine Zbc rfl ?_
    refine aR [] [4] [] [I 1] [] [] hB trivial ?_
    refine Zax ?_
    refine Zai ?_
    refine Zba hB (I 1) (by kernel_rfl) (.inl (by exact congrArg I hst.symm)) rfl (fun _ => trivial)
   have hal : Zim list.length (fun j => okS (at_ list j)) = true := by have e : Zkj list.length (fun j => !(okS (at_ list j))) = !(Zim list.length (fun j => okS (at_ list j))) := Zdo _ _; rw [e] at h2; simpa using h2
   refine Zby [(1, .call [(true, .any)] true (Bv true)), (5, .call [(true, .any), (true, .any)] true (Bv false))] [1, 2, 11] [2] [Zaj false list, .ref 2 0, Bv false] [some (Zag p)] [Con Tryz.prog 14 [Zae p] true (Bv true) ∧ True, Con Tryz.prog 87 [Zaj false list, .fn 88 []] true (Bv false) ∧ True] hB ⟨⟨(Zaq h1 (Zbl p ok)), trivial⟩, ⟨(Zaq h2 (Zle list (fun j hj => ok2 _ (Zct hj)))), trivial⟩, trivial⟩ ?_
   refine Zac ?_
   refine Zay rfl ?_
   refine Zbf ?_
   refine Zac ?_
   refine Zal ?_
   refine Zal ?_
   rcases Bool.eq_false_or_eq_true (Zkj list.length (fun j => (!(decide (0 ≤ Zaw p.Labels (at_ list j).Label))))) with h3 | h3
   ·have hal2 : Zim list.length (fun j => decide (0 ≤ Zaw p.Labels (at_ list j).Label)) = false := by have e : Zkj list.length (fun j => !(decide (0 ≤ Zaw p.Labels (at_ list j).Label))) = !(Zim list.length (fun j => decide (0 ≤ Zaw p.Labels (at_ list j).Label))) := Zdo _ _; rw [e] at h3; simpa using h3
    have hst := cd_c hpk hal hal2
    refine Zby [(2, .call [(true, .any), (false, .fn 90 [.ptr false [slS false p.Labels, Zbg false p.Weights]])] true (Bv true))] [1, 14] [] [Zaj false list, Bv true] [] [Con Tryz.prog 87 [Zaj false list, .fn 90 [.ptr false [slS false p.Labels, Zbg false p.Weights]]] true (Bv true) ∧ (90 = 90 ∧ ((false = true → true = true) ∧ AV.idsL [slS false p.Labels, Zbg false p.Weights] = [] ∧ ((false = true → false = true) ∧ 1 = 1 ∧ p.Labels.length = p.Labels.length ∧ ∀ i_, i_ < p.Labels.length → (fS p.Labels) i_ = (fS p.Labels) i_ ∨ (AV.idsL ((fS p.Labels) i_) = [] ∧ leL (fun _ => none) false ((fS p.Labels) i_) ((fS p.Labels) i_))) ∧ ((false = true → false = true) ∧ 1 = 1 ∧ p.Weights.length = p.Weights.length ∧ ∀ i_, i_ < p.Weights.length → (fLI false p.Weights) i_ = (fLI false p.Weights) i_ ∨ (AV.idsL ((fLI false p.Weights) i_) = [] ∧ leL (fun _ => none) false ((fLI false p.Weights) i_) ((fLI false p.Weights) i_))) ∧ ([] : List AV) = []) ∧ ([] : List AV) = []) ∧ True] hB ⟨⟨(Zaq h3 (Zlf list p)), ⟨rfl, ⟨⟨(fun h => by cases h), rfl, ⟨⟨(fun h => by cases h), rfl, rfl, fun i _ => .inl rfl⟩, ⟨⟨(fun h => by cases h), rfl, rfl, fun i _ => .inl rfl⟩, rfl⟩⟩⟩, rfl⟩⟩, trivial⟩, trivial⟩ ?_
    refine Zac ?_
    refine Zbc rfl ?_
    refine aR [] [4] [] [I 3] [] [] hB trivial ?_
    refine Zax ?_
    refine Zai ?_
    refine Zba hB (I 3) (by kernel_rfl) (.inl (by exact congrArg I hst.symm)) rfl (fun _ => trivial)
   have hal2 : Zim list.length (fun j => decide (0 ≤ Zaw p.Labels (at_ list j).Label)) = true := by have e : Zkj list.length (fun j => !(decide (0 ≤ Zaw p.Labels (at_ list j).Label))) = !(Zim list.length (fun j => decide (0 ≤ Zaw p.Labels (at_ list j).Label))) := Zdo _ _; rw [e] at h3; simpa using h3
   refine Zby [(2, .call [(true, .any), (false, .fn 90 [.ptr false [slS false p.Labels, Zbg false p.Weights]])] true (Bv false))] [1, 14] [] [Zaj false list, Bv false] [] [Con Tryz.prog 87 [Zaj false list, .fn 90 [.ptr false [slS false p.Labels, Zbg false p.Weights]]] true (Bv false) ∧ (90 = 90 ∧ ((false = true → true = true) ∧ AV.idsL [slS false p.Labels, Zbg false p.Weights] = [] ∧ ((false = true → false = true) ∧ 1 = 1 ∧ p.Labels.length = p.Labels.length ∧ ∀ i_, i_ < p.Labels.length → (fS p.Labels) i_ = (fS p.Labels) i_ ∨ (AV.idsL ((fS p.Labels) i_) = [] ∧ leL (fun _ => none) false ((fS p.Labels) i_) ((fS p.Labels) i_))) ∧ ((false = true → false = true) ∧ 1 = 1 ∧ p.Weights.length = p.Weights.length ∧ ∀ i_, i_ < p.Weights.length → (fLI false p.Weights) i_ = (fLI false p.Weights) i_ ∨ (AV.idsL ((fLI false p.Weights) i_) = [] ∧ leL (fun _ => none) false ((fLI false p.Weights) i_) ((fLI false p.Weights) i_))) ∧ ([] : List AV) = []) ∧ ([] : List AV) = []) ∧ True] hB ⟨⟨(Zaq h3 (Zlf list p)), ⟨rfl, ⟨⟨(fun h => by cases h), rfl, ⟨⟨(fun h => by cases h), rfl, rfl, fun i _ => .inl rfl⟩, ⟨⟨(fun h => by cases h), rfl, rfl, fun i _ => .inl rfl⟩, rfl⟩⟩⟩, rfl⟩⟩, trivial⟩, trivial⟩ ?_
   refine Zac ?_
   refine Zay rfl ?_
   refine Zbf ?_
   refine Zac ?_
   refine Zal ?_
   refine Zal ?_
   by_cases h4 : 40 < (list.length : Int)
   ·have hst := cd_d hpk hal hal2 h4
    refine Zby [(2, .dec true)] [17] [] [Bv true] [] [40 < (list.length : Int)] hB ⟨h4, trivial⟩ ?_
    refine Zac ?_
    refine Zbc rfl ?_
    refine aR [] [4] [] [I 2] [] [] hB trivial ?_
    refine Zax ?_
    refine Zai ?_
    refine Zba hB (I 2) (by kernel_rfl) (.inl (by exact congrArg I hst.symm)) rfl (fun _ => trivial)
   have hst := cd_e hpk hal hal2 h4
   refine Zby [(2, .dec false)] [17] [] [Bv false] [] [¬ (40 < (list.length : Int))] hB ⟨h4, trivial⟩ ?_
   refine Zac ?_
   refine Zay rfl ?_
   refine Zbf ?_
   refine Zac ?_
   refine aR [] [4] [] [I 0] [] [] hB trivial ?_
   refine Zax ?_
   refine Zba hB (I 0) (by kernel_rfl) (.inl (by exact congrArg I hst.symm)) rfl (fun _ => trivial)
  have hst := cd_a (list := list) h1
  refine Zby [(1, .call [(true, .any)] true (Bv false))] [1, 2, 11] [2] [Zaj false list, .ref 2 0, Bv true] [some (Zag p)] [Con Tryz.prog 14 [Zae p] true (Bv false) ∧ True] hB ⟨⟨(Zaq h1 (Zbl p ok)), trivial⟩, trivial⟩ ?_
  refine Zac ?_
  refine Zbc rfl ?_
  refine aR [] [4] [] [I 1] [] [] hB trivial ?_
  refine Zax ?_
  refine Zai ?_
  refine Zba hB (I 1) (by kernel_rfl) (.inl (by exact congrArg I hst.symm)) rfl (fun _ => trivial)
theorem Ydh (s : List ByteArray) (hl : s.length ≤ 100000) : ∃ (out : List ByteArray), (out = s) ∧ Zaz Tryz.prog 92 [slS false s] (Zaf []) false (.arr 8511) (Zaf [(8511, .arr 1 out.length (fS out))]) := by
  refine ⟨s, rfl, ?_⟩
  refine Zxj [] [(8511, .arr 1 s.length (fS s))] (fn := Tryz.f92) (nt := 8) Tryz.func92 rfl rfl (args := [slS false s]) rfl (Zbw (.inl ⟨rfl, Zer false _⟩) Zdb) (res := .arr 8511) (fun B hB => ?_)
  refine Zal ?_
  refine Zir [] [0] [] [slS false s] [] [] (by kernel_rfl) hB trivial ?_
  refine Zac ?_
  refine Zal ?_
  refine Zal ?_
  refine Zir [] [0, 4] [] [slS false s, .nilq s.length] [] [] (by kernel_rfl) hB trivial ?_
  refine Zac ?_
  refine Yaq (n := s.length) rfl (fun h1 => ?_) ?_
  · refine Zal ?_
    refine Zir [] [2] [] [Zao] [] [] (by kernel_rfl) hB trivial ?_
    refine Zac ?_
    refine Zax ?_
    refine Zai ?_
    refine ae_nil hB 2 8511 1 (fun _ => []) (by kernel_rfl) ?_
    refine Zfd hB [] (T := [(2, .arr 8511)]) (O := [(8511, .arr 1 s.length (fS s))]) rfl (⟨.inl rfl, trivial⟩) (⟨.inr ⟨rfl, (by omega), fun i_ hi_ => absurd hi_ (by omega)⟩, trivial⟩) ?_
    refine Zlp hB [(8511, .arr 1 s.length (fS s))] (⟨.inl rfl, trivial⟩) (.arr 8511) (by kernel_rfl) (.inl rfl) (fun h => by cases h) (fun h => by cases h)
  · refine Zbf ?_
    refine Zac ?_
    refine Zal ?_
    refine Zir [(0, .new 5), (2, .new 7)] [2] [7] [.arr 7] [some (.arr 1 (0 + s.length) (Zdf 0 (Zcw [] 1) (fS s)))] [(0 + s.length) * 16 ≤ 140737488355328] (by kernel_rfl) hB ⟨(by omega), trivial⟩ ?_
    refine Zac ?_
    refine Zax ?_
    refine Zfd hB [(8511, 7)] (T := [(2, .arr 8511)]) (O := [(8511, .arr 1 s.length (fS s))]) rfl (⟨.inl rfl, trivial⟩) (⟨.inr ⟨rfl, (by simp), fun i_ hi_ => .inl (Znq i_)⟩, trivial⟩) ?_
    refine Zlp hB [(8511, .arr 1 s.length (fS s))] (⟨.inl rfl, trivial⟩) (.arr 8511) (by kernel_rfl) (.inl rfl) (fun h => by cases h) (fun h => by cases h)
theorem Zuk (s : List Int) (hl : s.length ≤ 100000) : ∃ (out : List Int), (out = s) ∧ Zaz Tryz.prog 44 [slI false s] (Zaf []) false (.arr 8211) (Zaf [(8211, .arr 1 out.length (fI out))]) := by
  refine ⟨s, rfl, ?_⟩
  refine Zxj [] [(8211, .arr 1 s.length (fI s))] (fn := Tryz.f44) (nt := 8) Tryz.func44 rfl rfl (args := [slI false s]) rfl (Zbw (.inl ⟨rfl, Zpg false _⟩) Zdb) (res := .arr 8211) (fun B hB => ?_)
  refine Zal ?_
  refine Zir [] [0] [] [slI false s] [] [] (by kernel_rfl) hB trivial ?_
  refine Zac ?_
  refine Zal ?_
  refine Zal ?_
  refine Zir [] [0, 4] [] [slI false s, .nilq s.length] [] [] (by kernel_rfl) hB trivial ?_
  refine Zac ?_
  refine Yaq (n := s.length) rfl (fun h1 => ?_) ?_
  · refine Zal ?_
    refine Zir [] [2] [] [Zao] [] [] (by kernel_rfl) hB trivial ?_
    refine Zac ?_
    refine Zax ?_
    refine Zai ?_
    refine ae_nil hB 2 8211 1 (fun _ => []) (by kernel_rfl) ?_
    refine Zfd hB [] (T := [(2, .arr 8211)]) (O := [(8211, .arr 1 s.length (fI s))]) rfl (⟨.inl rfl, trivial⟩) (⟨.inr ⟨rfl, (by omega), fun i_ hi_ => absurd hi_ (by omega)⟩, trivial⟩) ?_
    refine Zlp hB [(8211, .arr 1 s.length (fI s))] (⟨.inl rfl, trivial⟩) (.arr 8211) (by kernel_rfl) (.inl rfl) (fun h => by cases h) (fun h => by cases h)
  · refine Zbf ?_
    refine Zac ?_
    refine Zal ?_
    refine Zir [(0, .new 5), (2, .new 7)] [2] [7] [.arr 7] [some (.arr 1 (0 + s.length) (Zdf 0 (Zcw [] 1) (fI s)))] [(0 + s.length) * 8 ≤ 140737488355328] (by kernel_rfl) hB ⟨(by omega), trivial⟩ ?_
    refine Zac ?_
    refine Zax ?_
    refine Zfd hB [(8211, 7)] (T := [(2, .arr 8211)]) (O := [(8211, .arr 1 s.length (fI s))]) rfl (⟨.inl rfl, trivial⟩) (⟨.inr ⟨rfl, (by simp), fun i_ hi_ => .inl (Znq i_)⟩, trivial⟩) ?_
    refine Zlp hB [(8211, .arr 1 s.length (fI s))] (⟨.inl rfl, trivial⟩) (.arr 8211) (by kernel_rfl) (.inl rfl) (fun h => by cases h) (fun h => by cases h)
theorem Zmd (p : Perceptron) (hb : (p.Labels.length ≤ 100 ∧ p.Weights.length ≤ 100) ∧ ∀ j, j < p.Weights.length → (at_ p.Weights j).length ≤ 100) : ∃ (ls : List ByteArray) (ws : List (List Int)), (ls = p.Labels) ∧ (ws = p.Weights) ∧ Zaz Tryz.prog 52 [Zae p] (Zaf []) false (.agg [.arr 9251, .arr 9252]) (Zaf [(9251, tAS ls), (9203, Zbm ws), (9252, Zbv 9203 ws)]) := by
  have hh : ∃ r : (List ByteArray) × (List (List Int)), ((r.1 = p.Labels) ∧ (r.2 = p.Weights) ∧ (True)) ∧ Zaz Tryz.prog 52 [Zae p] (Zaf []) false (.agg [.arr 9251, .arr 9252]) (Zaf [(9251, tAS r.1), (9203, Zbm r.2), (9252, Zbv 9203 r.2)]) := by
    refine Zde (Φ := fun r : (List ByteArray) × (List (List Int)) => (r.1 = p.Labels) ∧ (r.2 = p.Weights) ∧ (True)) [] (fun r => [(9251, tAS r.1), (9203, Zbm r.2), (9252, Zbv 9203 r.2)]) (fn := Tryz.f52) (nt := 26) Tryz.func52 rfl rfl (args := [Zae p]) rfl (Zbw (.inl ⟨rfl, by simp [Zak, Zah, Zdd, Zer]⟩) Zdb) (res := fun r => .agg [.arr 9251, .arr 9252]) ?_
    refine xR [(0, .new 1), (1, .new 2)] [1, 2] [1, 2] [.ref 1 0, .ref 2 0] [some (Zag p), some (.box [Zao, Zao])] [] trivial ?_
    refine Zap ?_
    obtain ⟨out_1, hx1_0, hc1⟩ := Ydh p.Labels (by omega)
    have hcs := hx1_0
    refine x_r [(2, .lend [] [(8511, tAS out_1)] [(true, .any)] false (.arr 8511)), (4, .new 3)] [1, 2, 3] [1, 2, 3, 8511] [.ref 1 0, .ref 2 0, .ref 3 0] [some (Zag p), some (.box [Zao, Zao]), some (.box [.arr 8511, Zao]), some (tAS out_1)] [Zaz Tryz.prog 92 [slS false p.Labels] (Zaf []) false (.arr 8511) (Zaf [(8511, tAS out_1)]) ∧ True] ⟨⟨hc1, trivial⟩, trivial⟩ ?_
    refine Zab ?_
    refine Zap ?_
    refine xR [] [2, 3, 11, 12, 13] [2, 3, 8511] [.ref 2 0, .ref 3 0, Zbg false p.Weights, I (p.Weights.length : Int), I 0] [some (.box [Zao, Zao]), some (.box [.arr 8511, Zao]), some (tAS out_1)] [] trivial ?_
    refine Zbz ?_
    refine Zkm 3 1 731 1 (fun _ => []) rfl (by kernel_rfl) ?_
    refine Zzc 9203 1 (fun _ => 0) (fun _ _ => []) (by kernel_rfl) ?_
    refine Zcz [] (T := [(2, .ref 2 0), (3, .ref 3 0), (11, Zbg false p.Weights), (12, I (p.Weights.length : Int)), (13, I 0)]) (O := [(2, .box [Zao, Zao]), (3, .box [.arr 8511, .arr 731]), (731, Zbv 9203 ([] : List (List Int))), (8511, tAS out_1), (9203, Zbm ([] : List (List Int)))]) rfl (⟨.inl rfl, .inl rfl, .inl rfl, .inl rfl, .inl rfl, trivial⟩) (⟨.inl rfl, .inl rfl, .inr ⟨rfl, rfl, fun i hi => absurd hi (Nat.not_lt_zero _)⟩, .inl rfl, .inr ⟨rfl, rfl, fun p hp => absurd hp (Nat.not_lt_zero _)⟩, trivial⟩) ?_
    refine Zeh (X := Int × (List (List Int))) (fun x => mkS [(2, .ref 2 0), (3, .ref 3 0), (11, Zbg false p.Weights), (12, I (p.Weights.length : Int)), (13, I x.1)] [(2, .box [Zao, Zao]), (3, .box [.arr 8511, .arr 731]), (731, Zbv 9203 x.2), (8511, tAS out_1), (9203, Zbm x.2)]) (fun x => (0 ≤ x.1 ∧ x.1 ≤ (p.Weights.length : Int)) ∧ (x.2 = p.Weights.take x.1.toNat) ∧ ((x.2.length : Int) = x.1) ∧ True) (fun x => ((p.Weights.length : Int) - x.1).toNat) (0, ([] : List (List Int))) rfl (show (0 ≤ (0 : Int) ∧ (0 : Int) ≤ (p.Weights.length : Int)) ∧ (([] : List (List Int)) = p.Weights.take (0 : Int).toNat) ∧ ((([] : List (List Int)).length : Int) = (0 : Int)) ∧ True from ⟨(by omega), (by rfl), (by rfl), trivial⟩) (fun x hI => ?_)
    obtain ⟨t13, ws⟩ := x
    obtain ⟨hi0, hws, hwl, _⟩ : (0 ≤ t13 ∧ t13 ≤ (p.Weights.length : Int)) ∧ (ws = p.Weights.take t13.toNat) ∧ ((ws.length : Int) = t13) ∧ True := hI
    show XW _ _ _ _ (mkS [(2, .ref 2 0), (3, .ref 3 0), (11, Zbg false p.Weights), (12, I (p.Weights.length : Int)), (13, I t13)] [(2, .box [Zao, Zao]), (3, .box [.arr 8511, .arr 731]), (731, Zbv 9203 ws), (8511, tAS out_1), (9203, Zbm ws)]) _ _
    refine Zap ?_
    by_cases h1 : t13 < (p.Weights.length : Int)
    ·have hi : t13.toNat < p.Weights.length := by omega
     have hbi := hb.2 t13.toNat hi
     refine x_r [(0, .dec true)] [2, 3, 11, 12, 13, 14] [2, 3, 731, 8511, 9203] [.ref 2 0, .ref 3 0, Zbg false p.Weights, I (p.Weights.length : Int), I t13, Bv true] [some (.box [Zao, Zao]), some (.box [.arr 8511, .arr 731]), some (Zbv 9203 ws), some (tAS out_1), some (Zbm ws)] [t13 < (p.Weights.length : Int)] ⟨h1, trivial⟩ ?_
     refine Zab ?_
     refine Zap ?_
     refine Zbq rfl ?_
     refine Zca ?_
     refine Zab ?_
     refine Zap ?_
     refine Zbz ?_
     refine xR [] [2, 3, 5, 11, 12, 13] [2, 3, 731, 8511, 9203] [.ref 2 0, .ref 3 0, slI false (at_ p.Weights t13.toNat), Zbg false p.Weights, I (p.Weights.length : Int), I t13] [some (.box [Zao, Zao]), some (.box [.arr 8511, .arr 731]), some (Zbv 9203 ws), some (tAS out_1), some (Zbm ws)] [(0 : Int) ≤ t13 ∧ t13 < (p.Weights.length : Int)] ⟨⟨(by omega), (by omega)⟩, trivial⟩ ?_
     obtain ⟨out_2, hx2_0, hc2⟩ := Zuk (at_ p.Weights t13.toNat) (by omega)
     have how := hx2_0
     refine x_r [(3, .lend [] [(8211, tAI out_2)] [(true, .any)] false (.arr 8211)), (4, .new 21), (5, .new 22)] [2, 3, 11, 12, 13] [2, 3, 22, 8211, 8511, 9203] [.ref 2 0, .ref 3 0, Zbg false p.Weights, I (p.Weights.length : Int), I t13] [some (.box [Zao, Zao]), some (.box [.arr 8511, .arr 22]), some (.oar [9203, 8211] 1 (ws.length + 1) (Zdf ws.length (oLI 9203 ws) (Zcw [.arr 8211] 1))), some (tAI out_2), some (tAS out_1), some (Zbm ws)] [Zaz Tryz.prog 44 [slI false (at_ p.Weights t13.toNat)] (Zaf []) false (.arr 8211) (Zaf [(8211, tAI out_2)]) ∧ True, (ws.length + 1) * 24 ≤ 140737488355328] ⟨⟨hc2, trivial⟩, (by omega), trivial⟩ ?_
     refine Zbr 1 ?_
     refine Zab ?_
     refine x_r [] [2, 3, 11, 12, 13] [2, 3, 22, 8211, 8511, 9203] [.ref 2 0, .ref 3 0, Zbg false p.Weights, I (p.Weights.length : Int), I (t13 + 1)] [some (.box [Zao, Zao]), some (.box [.arr 8511, .arr 22]), some (.oar [9203, 8211] 1 (ws.length + 1) (Zdf ws.length (oLI 9203 ws) (Zcw [.arr 8211] 1))), some (tAI out_2), some (tAS out_1), some (Zbm ws)] [inR .i64 (t13 + 1)] ⟨(Zam (by omega) (by omega)), trivial⟩ ?_
     refine Zlo 8211 9203 rfl rfl rfl ?_
     refine Zcx [(731, 22)] (T := [(2, .ref 2 0), (3, .ref 3 0), (11, Zbg false p.Weights), (12, I (p.Weights.length : Int)), (13, I (t13 + 1))]) (O := [(2, .box [Zao, Zao]), (3, .box [.arr 8511, .arr 731]), (731, Zbv 9203 (ws ++ [out_2])), (8511, tAS out_1), (9203, Zbm (ws ++ [out_2]))]) rfl (⟨.inl rfl, .inl rfl, .inl rfl, .inl rfl, .inl rfl, trivial⟩) (⟨.inl rfl, .inl rfl, .inr ⟨rfl, rfl, (by simp), fun i hi => .inl (Zqk rfl rfl rfl i hi)⟩, .inl rfl, .inr (Zql out_2 (by first | rfl | (simp; done)) (fun i _ => rfl)), trivial⟩) (Zcj ((t13 + 1), (ws ++ [out_2])) rfl (show (0 ≤ (t13 + 1) ∧ (t13 + 1) ≤ (p.Weights.length : Int)) ∧ ((ws ++ [out_2]) = p.Weights.take (t13 + 1).toNat) ∧ (((ws ++ [out_2]).length : Int) = (t13 + 1)) ∧ True from ⟨(by omega), (by rw [hws, how, show (t13 + 1).toNat = t13.toNat + 1 from by omega, Zju hi]), (by simp; omega), trivial⟩) (by first | (show (((p.Weights.length : Int) - (t13 + 1)).toNat : Nat) < ((p.Weights.length : Int) - t13).toNat; omega) | (dsimp only; omega)))
    have hie : t13.toNat = p.Weights.length := by omega
    rw [hie, List.take_of_length_le (Nat.le_refl _)] at hws
    refine x_r [(0, .dec false)] [2, 3, 11, 12, 13, 14] [2, 3, 731, 8511, 9203] [.ref 2 0, .ref 3 0, Zbg false p.Weights, I (p.Weights.length : Int), I t13, Bv false] [some (.box [Zao, Zao]), some (.box [.arr 8511, .arr 731]), some (Zbv 9203 ws), some (tAS out_1), some (Zbm ws)] [¬ (t13 < (p.Weights.length : Int))] ⟨h1, trivial⟩ ?_
    refine Zab ?_
    refine Zap ?_
    refine Zbe rfl ?_
    refine Zeg ?_
    refine Zbs ?_
    refine Zbu ?_
    refine Zbt ?_
    refine Zab ?_
    refine xR [] [2] [2, 731, 8511, 9203] [.ref 2 0] [some (.box [.arr 8511, .arr 731]), some (Zbv 9203 ws), some (tAS out_1), some (Zbm ws)] [] trivial ?_
    refine Zcf ?_
    refine Zcx [(9251, 8511), (9252, 731)] (T := [(2, .ref 2 0)]) (O := [(2, .box [.arr 9251, .arr 9252]), (9203, Zbm ws), (9251, tAS out_1), (9252, Zbv 9203 ws)]) rfl (⟨.inl rfl, trivial⟩) (⟨.inl rfl, .inl rfl, .inl rfl, .inl rfl, trivial⟩) ?_
    refine Zbn (out_1, ws) (show (out_1 = p.Labels) ∧ (ws = p.Weights) ∧ (True) from ⟨(by first | exact hcs | exact hws), (by first | exact hcs | exact hws), trivial⟩) (⟨.inl rfl, .inl rfl, .inl rfl, trivial⟩) (.agg [.arr 9251, .arr 9252]) (by kernel_rfl) (.inl rfl) (fun h => by cases h) (fun h => by cases h)
  obtain ⟨⟨ls, ws⟩, ⟨hh0, hh1, _⟩, hc⟩ := hh
  exact ⟨ls, ws, hh0, hh1, hc⟩
theorem Zws (n : Int) (d : Int) (hn : (-4611686018427387904 ≤ n ∧ n ≤ 4611686018427387904) ∧ 0 < d) : Con Tryz.prog 132 [I n, I d] true (I (n / d)) := by
  have hq := Ydi n d
  have hs := Zuo n hn.2
  refine Zdc (fn := Tryz.f132) (nt := 16) Tryz.func132 rfl rfl rfl rfl (by simp [Zah, Zak]) fun B hB => ?_
  refine aR [] [0, 1] [] [I n, I d] [] [] hB trivial ?_
  refine aR [] [0, 1, 5] [] [I n, I d, I (Int.tdiv n d)] [] [(d : Int) ≠ 0 ∧ inR .i64 (Int.tdiv n d)] hB ⟨⟨by omega, (Zam (by omega) (by omega))⟩, trivial⟩ ?_
  refine Zal ?_
  refine Zal ?_
  by_cases h1 : (Int.tmod n d) < 0
  ·refine Zby [(3, .dec true)] [5, 12] [] [I (Int.tdiv n d), Bv true] [] [(d : Int) ≠ 0, (Int.tmod n d) < 0] hB ⟨(by omega), h1, trivial⟩ ?_
   refine Zac ?_
   refine Zbc rfl ?_
   refine Zby [] [5] [] [I ((Int.tdiv n d) - 1)] [] [inR .i64 ((Int.tdiv n d) - 1)] hB ⟨(Zam (by omega) (by omega)), trivial⟩ ?_
   refine Zac ?_
   refine aR [] [4] [] [I ((Int.tdiv n d) - 1)] [] [] hB trivial ?_
   refine Zax ?_
   refine Zba hB (I ((Int.tdiv n d) - 1)) (by kernel_rfl) (.inl (by refine congrArg I ?_; first | exact hs.1 (by assumption) | exact hs.2 (by assumption))) rfl (fun _ => trivial)
  refine Zby [(3, .dec false)] [5, 12] [] [I (Int.tdiv n d), Bv false] [] [(d : Int) ≠ 0, ¬ ((Int.tmod n d) < 0)] hB ⟨(by omega), h1, trivial⟩ ?_
  refine Zac ?_
  refine Zay rfl ?_
  refine Zbf ?_
  refine Zac ?_
  refine aR [] [4] [] [I (Int.tdiv n d)] [] [] hB trivial ?_
  refine Zax ?_
  refine Zba hB (I (Int.tdiv n d)) (by kernel_rfl) (.inl (by refine congrArg I ?_; first | exact hs.1 (by assumption) | exact hs.2 (by assumption))) rfl (fun _ => trivial)
theorem Zsp (n : Int) (d : Int) (hn : (-1000000000000000000 ≤ n ∧ n ≤ 1000000000000000000) ∧ 0 < d ∧ d ≤ 1000000000000000000) : Con Tryz.prog 110 [I n, I d] true (I (Zgf n d)) := by
  have hs := Ydj n hn.2.1
  have hrb := rest_bd n hn.2.1
  have heb := ediv_bd n hn.2.1
  refine Zdc (fn := Tryz.f110) (nt := 23) Tryz.func110 rfl rfl rfl rfl (by simp [Zah, Zak]) fun B hB => ?_
  refine aR [] [0, 1] [] [I n, I d] [] [] hB trivial ?_
  refine aR [(2, .call [(true, .any), (true, .any)] true (I (n / d)))] [0, 1, 5] [] [I n, I d, I (n / d)] [] [Con Tryz.prog 132 [I n, I d] true (I (n / d)) ∧ True] hB ⟨⟨(Zws n d (by omega)), trivial⟩, trivial⟩ ?_
  refine Zal ?_
  refine aR [] [1, 5, 6] [] [I d, I (n / d), I (n - ((n / d) * d))] [] [inR .i64 ((n / d) * d), inR .i64 (n - ((n / d) * d))] hB ⟨(Zam (by omega) (by omega)), (Zam (by omega) (by omega)), trivial⟩ ?_
  refine Zal ?_
  by_cases h1 : (d - (n - ((n / d) * d))) ≤ (n - ((n / d) * d))
  ·refine Zby [(4, .dec true)] [5, 19] [] [I (n / d), Bv true] [] [inR .i64 (d - (n - ((n / d) * d))), (d - (n - ((n / d) * d))) ≤ (n - ((n / d) * d))] hB ⟨(Zam (by omega) (by omega)), h1, trivial⟩ ?_
   refine Zac ?_
   refine Zbc rfl ?_
   refine Zby [] [5] [] [I ((n / d) + 1)] [] [inR .i64 ((n / d) + 1)] hB ⟨(Zam (by omega) (by omega)), trivial⟩ ?_
   refine Zac ?_
   refine aR [] [4] [] [I ((n / d) + 1)] [] [] hB trivial ?_
   refine Zax ?_
   refine Zba hB (I ((n / d) + 1)) (by kernel_rfl) (.inl (by refine congrArg I ?_; first | exact hs.1 (by assumption) | exact hs.2 (by assumption))) rfl (fun _ => trivial)
  refine Zby [(4, .dec false)] [5, 19] [] [I (n / d), Bv false] [] [inR .i64 (d - (n - ((n / d) * d))), ¬ ((d - (n - ((n / d) * d))) ≤ (n - ((n / d) * d)))] hB ⟨(Zam (by omega) (by omega)), h1, trivial⟩ ?_
  refine Zac ?_
  refine Zay rfl ?_
  refine Zbf ?_
  refine Zac ?_
  refine aR [] [4] [] [I (n / d)] [] [] hB trivial ?_
  refine Zax ?_
  refine Zba hB (I (n / d)) (by kernel_rfl) (.inl (by refine congrArg I ?_; first | exact hs.1 (by assumption) | exact hs.2 (by assumption))) rfl (fun _ => trivial)
theorem Zqr (feats : List Feat) (hok : Zbp feats 384 = true) : ∃ (v : List Int), (v = Zed feats) ∧ Con Tryz.prog 82 [Zau false feats] true (slI true v) := by
  have hfn := Zjk hok
  have hh : ∃ r : (List Int), ((r = Zed feats) ∧ (True)) ∧ Zaz Tryz.prog 82 [Zau false feats] (Zaf []) true (slI true r) (Zaf []) := by
    refine Zde (Φ := fun r : (List Int) => (r = Zed feats) ∧ (True)) [] (fun r => []) (fn := Tryz.f82) (nt := 58) Tryz.func82 rfl rfl (args := [Zau false feats]) rfl (Zbw (.inl ⟨rfl, Zef false _⟩) Zdb) (res := fun r => slI true r) ?_
    refine xR [] [0] [] [Zau false feats] [] [] trivial ?_
    refine xR [(0, .new 8)] [0, 3] [8] [Zau false feats, .arr 8] [some (.arr 1 25 (fun _ => [I 0]))] [(0 : Int) ≤ 25 ∧ (25 : Int) ≤ 25 ∧ (8 : Int) * 25 ≤ 281474976710656 ∧ (25 : Int) ≤ 9223372036854775807] ⟨⟨(by omega), (by omega), (by omega), (by omega)⟩, trivial⟩ ?_
    refine Zap ?_
    refine xR [] [0, 3, 9, 10, 11] [8] [Zau false feats, .arr 8, Zau false feats, I (feats.length : Int), I 0] [some (.arr 1 25 (fun _ => [I 0]))] [] trivial ?_
    refine Zbz ?_
    refine Zcz [] (T := [(0, Zau false feats), (3, .arr 8), (9, Zau false feats), (10, I (feats.length : Int)), (11, I 0)]) (O := [(8, tAI (List.replicate 25 (0 : Int)))]) rfl (⟨.inl rfl, .inl rfl, .inl rfl, .inl rfl, .inl rfl, trivial⟩) (⟨.inr ⟨rfl, (by first | rfl | (simp; done) | (simp; omega) | omega), fun i_ hi_ => .inl (Zkp (enc := cI) rfl i_ hi_)⟩, trivial⟩) ?_
    refine Zeh (X := Int × (List Int)) (fun x => mkS [(0, Zau false feats), (3, .arr 8), (9, Zau false feats), (10, I (feats.length : Int)), (11, I x.1)] [(8, tAI x.2)]) (fun x => (0 ≤ x.1 ∧ x.1 ≤ (feats.length : Int)) ∧ (x.2 = Zio feats x.1.toNat) ∧ (x.2.length = 25) ∧ True) (fun x => ((feats.length : Int) - x.1).toNat) (0, (List.replicate 25 (0 : Int))) rfl (show (0 ≤ (0 : Int) ∧ (0 : Int) ≤ (feats.length : Int)) ∧ ((List.replicate 25 (0 : Int)) = Zio feats (0 : Int).toNat) ∧ ((List.replicate 25 (0 : Int)).length = 25) ∧ True from ⟨(by omega), (by rfl), (by rfl), trivial⟩) (fun x hI => ?_)
    obtain ⟨t11, ys⟩ := x
    obtain ⟨hi0, hys, hyl, _⟩ : (0 ≤ t11 ∧ t11 ≤ (feats.length : Int)) ∧ (ys = Zio feats t11.toNat) ∧ (ys.length = 25) ∧ True := hI
    show XW _ _ _ _ (mkS [(0, Zau false feats), (3, .arr 8), (9, Zau false feats), (10, I (feats.length : Int)), (11, I t11)] [(8, tAI ys)]) _ _
    refine Zap ?_
    by_cases h1 : t11 < (feats.length : Int)
    ·have hi : t11.toNat < feats.length := by omega
     have hf := Zox.1 (Zqs hok hi)
     have hbb : ∀ j_, 0 ≤ at_ ys j_ ∧ at_ ys j_ ≤ 2 * t11 := fun j_ => by rw [hys]; have := Zjl feats t11.toNat j_; omega
     have hb1 := hbb (at_ feats t11.toNat).D.toNat
     refine x_r [(0, .dec true)] [0, 3, 9, 10, 11, 12] [8] [Zau false feats, .arr 8, Zau false feats, I (feats.length : Int), I t11, Bv true] [some (tAI ys)] [t11 < (feats.length : Int)] ⟨h1, trivial⟩ ?_
     refine Zab ?_
     refine Zap ?_
     refine Zbq rfl ?_
     refine Zca ?_
     refine Zab ?_
     refine Zap ?_
     refine Zbz ?_
     refine xR [(2, .new 5)] [0, 3, 5, 9, 10, 11] [5, 8] [Zau false feats, .arr 8, .ref 5 0, Zau false feats, I (feats.length : Int), I t11] [some (Zlg (at_ feats t11.toNat)), some (tAI ys)] [(0 : Int) ≤ t11 ∧ t11 < (feats.length : Int)] ⟨⟨(by omega), (by omega)⟩, trivial⟩ ?_
     refine xR [] [0, 3, 5, 9, 10, 11] [5, 8] [Zau false feats, .arr 8, .ref 5 0, Zau false feats, I (feats.length : Int), I t11] [some (Zlg (at_ feats t11.toNat)), some (.arr 1 ys.length (fun q => bif Nat.beq q (((at_ feats t11.toNat).D).toNat) then [I ((at_ ys (((at_ feats t11.toNat).D).toNat)) + 1)] else (fI ys) q))] [(0 : Int) ≤ ((at_ feats t11.toNat).D) ∧ ((at_ feats t11.toNat).D) < (ys.length : Int), ((at_ feats t11.toNat).D).toNat < ys.length, inR .i64 ((at_ ys (((at_ feats t11.toNat).D).toNat)) + 1), (0 : Int) ≤ ((at_ feats t11.toNat).D) ∧ ((at_ feats t11.toNat).D) < (ys.length : Int), ((at_ feats t11.toNat).D).toNat < ys.length] ⟨⟨(by omega), (by omega)⟩, (by omega), (Zam (by omega) (by omega)), ⟨(by omega), (by omega)⟩, (by omega), trivial⟩ ?_
     refine Zcz [] (T := [(0, Zau false feats), (3, .arr 8), (5, .ref 5 0), (9, Zau false feats), (10, I (feats.length : Int)), (11, I t11)]) (O := [(5, Zlg (at_ feats t11.toNat)), (8, tAI (ys.set (((at_ feats t11.toNat).D).toNat) ((at_ ys (((at_ feats t11.toNat).D).toNat)) + 1)))]) rfl (⟨.inl rfl, .inl rfl, .inl rfl, .inl rfl, .inl rfl, .inl rfl, trivial⟩) (⟨.inl rfl, .inr ⟨rfl, (by first | rfl | (simp; done) | (simp; omega) | omega), fun i_ hi_ => .inl (Zic (enc := cI) rfl i_ hi_)⟩, trivial⟩) ?_
     refine x_r [(3, .nn), (8, .nn)] [0, 3, 9, 10, 11] [8] [Zau false feats, .arr 8, Zau false feats, I (feats.length : Int), I t11] [some (.arr 1 ((ys.set (((at_ feats t11.toNat).D).toNat) ((at_ ys (((at_ feats t11.toNat).D).toNat)) + 1)).length) (fun q => bif Nat.beq q (((8 + ((((at_ feats t11.toNat).Y) / 64) * 4)) + (((at_ feats t11.toNat).X) / 64)).toNat) then [I ((at_ (ys.set (((at_ feats t11.toNat).D).toNat) ((at_ ys (((at_ feats t11.toNat).D).toNat)) + 1)) (((8 + ((((at_ feats t11.toNat).Y) / 64) * 4)) + (((at_ feats t11.toNat).X) / 64)).toNat)) + 1)] else (fI (ys.set (((at_ feats t11.toNat).D).toNat) ((at_ ys (((at_ feats t11.toNat).D).toNat)) + 1))) q))] [(0 : Int) ≤ ((at_ feats t11.toNat).Y) ∧ (0 : Int) < 64 ∧ inR .i64 ((at_ feats t11.toNat).Y), inR .i64 ((((at_ feats t11.toNat).Y) / 64) * 4), inR .i64 (8 + ((((at_ feats t11.toNat).Y) / 64) * 4)), (0 : Int) ≤ ((at_ feats t11.toNat).X) ∧ (0 : Int) < 64 ∧ inR .i64 ((at_ feats t11.toNat).X), inR .i64 ((8 + ((((at_ feats t11.toNat).Y) / 64) * 4)) + (((at_ feats t11.toNat).X) / 64)), (0 : Int) ≤ ((8 + ((((at_ feats t11.toNat).Y) / 64) * 4)) + (((at_ feats t11.toNat).X) / 64)) ∧ ((8 + ((((at_ feats t11.toNat).Y) / 64) * 4)) + (((at_ feats t11.toNat).X) / 64)) < (((ys.set (((at_ feats t11.toNat).D).toNat) ((at_ ys (((at_ feats t11.toNat).D).toNat)) + 1)).length : Nat) : Int), ((8 + ((((at_ feats t11.toNat).Y) / 64) * 4)) + (((at_ feats t11.toNat).X) / 64)).toNat < (ys.set (((at_ feats t11.toNat).D).toNat) ((at_ ys (((at_ feats t11.toNat).D).toNat)) + 1)).length, inR .i64 ((at_ (ys.set (((at_ feats t11.toNat).D).toNat) ((at_ ys (((at_ feats t11.toNat).D).toNat)) + 1)) (((8 + ((((at_ feats t11.toNat).Y) / 64) * 4)) + (((at_ feats t11.toNat).X) / 64)).toNat)) + 1), (0 : Int) ≤ ((8 + ((((at_ feats t11.toNat).Y) / 64) * 4)) + (((at_ feats t11.toNat).X) / 64)) ∧ ((8 + ((((at_ feats t11.toNat).Y) / 64) * 4)) + (((at_ feats t11.toNat).X) / 64)) < (((ys.set (((at_ feats t11.toNat).D).toNat) ((at_ ys (((at_ feats t11.toNat).D).toNat)) + 1)).length : Nat) : Int), ((8 + ((((at_ feats t11.toNat).Y) / 64) * 4)) + (((at_ feats t11.toNat).X) / 64)).toNat < (ys.set (((at_ feats t11.toNat).D).toNat) ((at_ ys (((at_ feats t11.toNat).D).toNat)) + 1)).length] ⟨⟨(by omega), (by omega), (Zam (by omega) (by omega))⟩, (Zam (by omega) (by omega)), (Zam (by omega) (by omega)), ⟨(by omega), (by omega), (Zam (by omega) (by omega))⟩, (Zam (by omega) (by omega)), ⟨(by first | omega | (simp only [List.length_set]; omega)), (by first | omega | (simp only [List.length_set]; omega))⟩, (by first | omega | (simp only [List.length_set]; omega)), (by have q1 := hbb (((8 + ((((at_ feats t11.toNat).Y) / 64) * 4)) + (((at_ feats t11.toNat).X) / 64)).toNat); have q2 := hbb (at_ feats t11.toNat).D.toNat; simp only [Zil]; split <;> exact Zam (by omega) (by omega)), ⟨(by first | omega | (simp only [List.length_set]; omega)), (by first | omega | (simp only [List.length_set]; omega))⟩, (by first | omega | (simp only [List.length_set]; omega)), trivial⟩ ?_
     refine Zbr 1 ?_
     refine Zab ?_
     refine Zcz [] (T := [(0, Zau false feats), (3, .arr 8), (9, Zau false feats), (10, I (feats.length : Int)), (11, I t11)]) (O := [(8, tAI ((ys.set (((at_ feats t11.toNat).D).toNat) ((at_ ys (((at_ feats t11.toNat).D).toNat)) + 1)).set (((8 + ((((at_ feats t11.toNat).Y) / 64) * 4)) + (((at_ feats t11.toNat).X) / 64)).toNat) ((at_ (ys.set (((at_ feats t11.toNat).D).toNat) ((at_ ys (((at_ feats t11.toNat).D).toNat)) + 1)) (((8 + ((((at_ feats t11.toNat).Y) / 64) * 4)) + (((at_ feats t11.toNat).X) / 64)).toNat)) + 1)))]) rfl (⟨.inl rfl, .inl rfl, .inl rfl, .inl rfl, .inl rfl, trivial⟩) (⟨.inr ⟨rfl, (by first | rfl | (simp; done) | (simp; omega) | omega), fun i_ hi_ => .inl (Zic (enc := cI) rfl i_ hi_)⟩, trivial⟩) ?_
     refine x_r [] [0, 3, 9, 10, 11] [8] [Zau false feats, .arr 8, Zau false feats, I (feats.length : Int), I (t11 + 1)] [some (tAI ((ys.set (((at_ feats t11.toNat).D).toNat) ((at_ ys (((at_ feats t11.toNat).D).toNat)) + 1)).set (((8 + ((((at_ feats t11.toNat).Y) / 64) * 4)) + (((at_ feats t11.toNat).X) / 64)).toNat) ((at_ (ys.set (((at_ feats t11.toNat).D).toNat) ((at_ ys (((at_ feats t11.toNat).D).toNat)) + 1)) (((8 + ((((at_ feats t11.toNat).Y) / 64) * 4)) + (((at_ feats t11.toNat).X) / 64)).toNat)) + 1)))] [inR .i64 (t11 + 1)] ⟨(Zam (by omega) (by omega)), trivial⟩ ?_
     exact Zcj ((t11 + 1), ((ys.set (((at_ feats t11.toNat).D).toNat) ((at_ ys (((at_ feats t11.toNat).D).toNat)) + 1)).set (((8 + ((((at_ feats t11.toNat).Y) / 64) * 4)) + (((at_ feats t11.toNat).X) / 64)).toNat) ((at_ (ys.set (((at_ feats t11.toNat).D).toNat) ((at_ ys (((at_ feats t11.toNat).D).toNat)) + 1)) (((8 + ((((at_ feats t11.toNat).Y) / 64) * 4)) + (((at_ feats t11.toNat).X) / 64)).toNat)) + 1))) rfl (show (0 ≤ (t11 + 1) ∧ (t11 + 1) ≤ (feats.length : Int)) ∧ (((ys.set (((at_ feats t11.toNat).D).toNat) ((at_ ys (((at_ feats t11.toNat).D).toNat)) + 1)).set (((8 + ((((at_ feats t11.toNat).Y) / 64) * 4)) + (((at_ feats t11.toNat).X) / 64)).toNat) ((at_ (ys.set (((at_ feats t11.toNat).D).toNat) ((at_ ys (((at_ feats t11.toNat).D).toNat)) + 1)) (((8 + ((((at_ feats t11.toNat).Y) / 64) * 4)) + (((at_ feats t11.toNat).X) / 64)).toNat)) + 1)) = Zio feats (t11 + 1).toNat) ∧ (((ys.set (((at_ feats t11.toNat).D).toNat) ((at_ ys (((at_ feats t11.toNat).D).toNat)) + 1)).set (((8 + ((((at_ feats t11.toNat).Y) / 64) * 4)) + (((at_ feats t11.toNat).X) / 64)).toNat) ((at_ (ys.set (((at_ feats t11.toNat).D).toNat) ((at_ ys (((at_ feats t11.toNat).D).toNat)) + 1)) (((8 + ((((at_ feats t11.toNat).Y) / 64) * 4)) + (((at_ feats t11.toNat).X) / 64)).toNat)) + 1)).length = 25) ∧ True from ⟨(by omega), (by rw [inpC_1 hi0.1, ← hys]; rfl), (by simp only [List.length_set]; exact hyl), trivial⟩) (by first | (show (((feats.length : Int) - (t11 + 1)).toNat : Nat) < ((feats.length : Int) - t11).toNat; omega) | (dsimp only; omega))
    have hie : t11.toNat = feats.length := by omega
    rw [hie] at hys
    refine x_r [(0, .dec false)] [0, 3, 9, 10, 11, 12] [8] [Zau false feats, .arr 8, Zau false feats, I (feats.length : Int), I t11, Bv false] [some (tAI ys)] [¬ (t11 < (feats.length : Int))] ⟨h1, trivial⟩ ?_
    refine Zab ?_
    refine Zap ?_
    refine Zbe rfl ?_
    refine Zeg ?_
    refine Zbs ?_
    refine Zbu ?_
    refine Zbt ?_
    refine Zab ?_
    refine xR [] [3, 6] [8] [.arr 8, I (feats.length : Int)] [some (tAI ys)] [] trivial ?_
    refine Zap ?_
    refine xR [] [3, 6, 40, 41] [8] [.arr 8, I (feats.length : Int), I (ys.length : Int), I 0] [some (tAI ys)] [] trivial ?_
    refine Zbz ?_
    refine Zeh (X := Int × (List Int)) (fun x => mkS [(3, .arr 8), (6, I (feats.length : Int)), (40, I (ys.length : Int)), (41, I x.1)] [(8, tAI x.2)]) (fun x => (0 ≤ x.1 ∧ x.1 ≤ (25 : Int)) ∧ (x.2 = Zni (Zio feats feats.length) (feats.length : Int) x.1.toNat) ∧ (x.2.length = 25) ∧ True) (fun x => ((25 : Int) - x.1).toNat) (0, ys) rfl (show (0 ≤ (0 : Int) ∧ (0 : Int) ≤ (25 : Int)) ∧ (ys = Zni (Zio feats feats.length) (feats.length : Int) (0 : Int).toNat) ∧ (ys.length = 25) ∧ True from ⟨(by omega), (by exact hys), (by exact hyl), trivial⟩) (fun x hI => ?_)
    obtain ⟨t41, zs⟩ := x
    obtain ⟨hj0, hzs, hzl, _⟩ : (0 ≤ t41 ∧ t41 ≤ (25 : Int)) ∧ (zs = Zni (Zio feats feats.length) (feats.length : Int) t41.toNat) ∧ (zs.length = 25) ∧ True := hI
    show XW _ _ _ _ (mkS [(3, .arr 8), (6, I (feats.length : Int)), (40, I (ys.length : Int)), (41, I t41)] [(8, tAI zs)]) _ _
    refine Zap ?_
    by_cases h2 : t41 < (ys.length : Int)
    ·have hi2 : t41.toNat < zs.length := by omega
     have hzb := Zjl feats feats.length t41.toNat
     have hze : at_ zs t41.toNat = at_ (Zio feats feats.length) t41.toNat := by rw [hzs]; exact (Zsq (n := (feats.length : Int)) (by omega) (Zjl feats feats.length) t41.toNat t41.toNat).1 (Nat.le_refl _)
     refine x_r [(0, .dec true)] [3, 6, 40, 41, 42] [8] [.arr 8, I (feats.length : Int), I (ys.length : Int), I t41, Bv true] [some (tAI zs)] [t41 < (ys.length : Int)] ⟨h2, trivial⟩ ?_
     refine Zab ?_
     refine Zap ?_
     refine Zbq rfl ?_
     refine Zca ?_
     refine Zab ?_
     refine Zap ?_
     refine Zbz ?_
     refine xR [] [3, 6, 7, 40, 41] [8] [.arr 8, I (feats.length : Int), I t41, I (ys.length : Int), I t41] [some (tAI zs)] [] trivial ?_
     refine x_r [(8, .call [(true, .any), (true, .any)] true (I (Zgf ((at_ zs t41.toNat) * 256) (feats.length : Int))))] [3, 6, 40, 41] [8] [.arr 8, I (feats.length : Int), I (ys.length : Int), I t41] [some (.arr 1 zs.length (fun q => bif Nat.beq q t41.toNat then [I (Zgf ((at_ zs t41.toNat) * 256) (feats.length : Int))] else (fI zs) q))] [(0 : Int) ≤ t41 ∧ t41 < (zs.length : Int), t41.toNat < zs.length, inR .i64 ((at_ zs t41.toNat) * 256), Con Tryz.prog 110 [I ((at_ zs t41.toNat) * 256), I (feats.length : Int)] true (I (Zgf ((at_ zs t41.toNat) * 256) (feats.length : Int))) ∧ True, (0 : Int) ≤ t41 ∧ t41 < (zs.length : Int), t41.toNat < zs.length] ⟨⟨(by omega), (by omega)⟩, (by omega), (Zam (by omega) (by omega)), ⟨(Zsp ((at_ zs t41.toNat) * 256) (feats.length : Int) (by omega)), trivial⟩, ⟨(by omega), (by omega)⟩, (by omega), trivial⟩ ?_
     refine Zbr 3 ?_
     refine Zab ?_
     refine Zcz [] (T := [(3, .arr 8), (6, I (feats.length : Int)), (40, I (ys.length : Int)), (41, I t41)]) (O := [(8, tAI (zs.set t41.toNat (Zgf ((at_ zs t41.toNat) * 256) (feats.length : Int))))]) rfl (⟨.inl rfl, .inl rfl, .inl rfl, .inl rfl, trivial⟩) (⟨.inr ⟨rfl, (by first | rfl | (simp; done) | (simp; omega) | omega), fun i_ hi_ => .inl (Zic (enc := cI) rfl i_ hi_)⟩, trivial⟩) ?_
     refine x_r [] [3, 6, 40, 41] [8] [.arr 8, I (feats.length : Int), I (ys.length : Int), I (t41 + 1)] [some (tAI (zs.set t41.toNat (Zgf ((at_ zs t41.toNat) * 256) (feats.length : Int))))] [inR .i64 (t41 + 1)] ⟨(Zam (by omega) (by omega)), trivial⟩ ?_
     exact Zcj ((t41 + 1), (zs.set t41.toNat (Zgf ((at_ zs t41.toNat) * 256) (feats.length : Int)))) rfl (show (0 ≤ (t41 + 1) ∧ (t41 + 1) ≤ (25 : Int)) ∧ ((zs.set t41.toNat (Zgf ((at_ zs t41.toNat) * 256) (feats.length : Int))) = Zni (Zio feats feats.length) (feats.length : Int) (t41 + 1).toNat) ∧ ((zs.set t41.toNat (Zgf ((at_ zs t41.toNat) * 256) (feats.length : Int))).length = 25) ∧ True from ⟨(by omega), (by first | (rw [Zyq hj0.1, ← hzs]; done) | (rw [Zyq hj0.1, ← hzs, Int.mul_comm 256])), (by simp only [List.length_set]; exact hzl), trivial⟩) (by first | (show (((25 : Int) - (t41 + 1)).toNat : Nat) < ((25 : Int) - t41).toNat; omega) | (dsimp only; omega))
    have hie2 : t41.toNat = 25 := by omega
    rw [hie2] at hzs
    refine x_r [(0, .dec false)] [3, 6, 40, 41, 42] [8] [.arr 8, I (feats.length : Int), I (ys.length : Int), I t41, Bv false] [some (tAI zs)] [¬ (t41 < (ys.length : Int))] ⟨h2, trivial⟩ ?_
    refine Zab ?_
    refine Zap ?_
    refine Zbe rfl ?_
    refine Zeg ?_
    refine Zbs ?_
    refine Zbu ?_
    refine Zbt ?_
    refine Zab ?_
    refine xR [] [3] [8] [.arr 8] [some (.arr 1 zs.length (fun q => bif Nat.beq q 24 then [I 256] else (fI zs) q))] [(0 : Int) ≤ 24 ∧ 24 < (zs.length : Int), 24 < zs.length] ⟨⟨(by omega), (by omega)⟩, (by omega), trivial⟩ ?_
    refine Zap ?_
    refine Zcz [] (T := [(3, .arr 8)]) (O := [(8, tAI (zs.set 24 256))]) rfl (⟨.inl rfl, trivial⟩) (⟨.inr ⟨rfl, (by first | rfl | (simp; done) | (simp; omega) | omega), fun i_ hi_ => .inl (Zic (enc := cI) rfl i_ hi_)⟩, trivial⟩) ?_
    refine x_r [] [2] [8] [.arr 8] [some (tAI (zs.set 24 256))] [] trivial ?_
    refine Zab ?_
    refine Zcf ?_
    refine Zbn (zs.set 24 256) (show ((zs.set 24 256) = Zed feats) ∧ (True) from ⟨(by rw [hzs, inpR_alt]), trivial⟩) (trivial) (.arr 8) (by kernel_rfl) (.inr ⟨(fun _ => rfl), rfl, rfl, fun i _ => .inl rfl⟩) (fun _ => rfl) (fun _ => (Zpg true _))
  obtain ⟨v, ⟨hh0, _⟩, hc⟩ := hh
  exact ⟨v, hh0, hc⟩
theorem Zot (p : Perceptron) (input : List Int) (hp : Zbb p = true) (hx : (∀ i, 0 ≤ at_ input i ∧ at_ input i ≤ 512) ∧ input.length = 25) : ∃ (v : List Int), (v = scR p.Weights input) ∧ Con Tryz.prog 81 [Zae p, slI false input] true (slI true v) := by
  have hq := Zcd.1 hp
  have hln := Zfi hq.1
  have hxl := hx.2
  have hh : ∃ r : (List Int), ((r = scR p.Weights input) ∧ (True)) ∧ Zaz Tryz.prog 81 [Zae p, slI false input] (Zaf []) true (slI true r) (Zaf []) := by
    refine Zde (Φ := fun r : (List Int) => (r = scR p.Weights input) ∧ (True)) [] (fun r => []) (fn := Tryz.f81) (nt := 40) Tryz.func81 rfl rfl (args := [Zae p, slI false input]) rfl (Zbw (.inl ⟨rfl, by simp [Zak, Zah, Zdd, Zer]⟩) (Zbw (.inl ⟨rfl, Zpg false _⟩) Zdb)) (res := fun r => slI true r) ?_
    refine xR [(0, .new 2)] [1, 2] [2] [slI false input, .ref 2 0] [some (Zag p)] [] trivial ?_
    refine xR [] [1, 2, 5] [2] [slI false input, .ref 2 0, Zao] [some (Zag p)] [] trivial ?_
    refine Zap ?_
    refine xR [] [1, 5, 12, 13, 14] [] [slI false input, Zao, Zbg false p.Weights, I (p.Weights.length : Int), I 0] [] [] trivial ?_
    refine Zbz ?_
    refine x_nil 5 705 1 (fun _ => []) (by kernel_rfl) ?_
    refine Zcz [] (T := [(1, slI false input), (5, .arr 705), (12, Zbg false p.Weights), (13, I (p.Weights.length : Int)), (14, I 0)]) (O := [(705, tAI ([] : List Int))]) rfl (⟨.inl rfl, .inl rfl, .inl rfl, .inl rfl, .inl rfl, trivial⟩) (⟨.inr ⟨rfl, (by first | rfl | (simp; done) | (simp; omega) | omega), fun i_ hi_ => absurd hi_ (Nat.not_lt_zero _)⟩, trivial⟩) ?_
    refine Zeh (X := (List Int) × Int) (fun x => mkS [(1, slI false input), (5, .arr 705), (12, Zbg false p.Weights), (13, I (p.Weights.length : Int)), (14, I x.2)] [(705, tAI x.1)]) (fun x => (0 ≤ x.2 ∧ x.2 ≤ (p.Weights.length : Int)) ∧ (x.1 = (p.Weights.take x.2.toNat).map fun r => scT r input 25) ∧ ((x.1.length : Int) = x.2) ∧ True) (fun x => ((p.Weights.length : Int) - x.2).toNat) (([] : List Int), 0) rfl (show (0 ≤ (0 : Int) ∧ (0 : Int) ≤ (p.Weights.length : Int)) ∧ (([] : List Int) = (p.Weights.take (0 : Int).toNat).map fun r => scT r input 25) ∧ ((([] : List Int).length : Int) = (0 : Int)) ∧ True from ⟨(by omega), (by rfl), (by rfl), trivial⟩) (fun x hI => ?_)
    obtain ⟨scores, t14⟩ := x
    obtain ⟨hi0, hsc, hsl, _⟩ : (0 ≤ t14 ∧ t14 ≤ (p.Weights.length : Int)) ∧ (scores = (p.Weights.take t14.toNat).map fun r => scT r input 25) ∧ ((scores.length : Int) = t14) ∧ True := hI
    show XW _ _ _ _ (mkS [(1, slI false input), (5, .arr 705), (12, Zbg false p.Weights), (13, I (p.Weights.length : Int)), (14, I t14)] [(705, tAI scores)]) _ _
    refine Zap ?_
    by_cases h1 : t14 < (p.Weights.length : Int)
    ·have hi : t14.toNat < p.Weights.length := by omega
     have hr := Zcu hq.2.2 hi
     refine x_r [(0, .dec true)] [1, 5, 12, 13, 14, 15] [705] [slI false input, .arr 705, Zbg false p.Weights, I (p.Weights.length : Int), I t14, Bv true] [some (tAI scores)] [t14 < (p.Weights.length : Int)] ⟨h1, trivial⟩ ?_
     refine Zab ?_
     refine Zap ?_
     refine Zbq rfl ?_
     refine Zca ?_
     refine Zab ?_
     refine Zap ?_
     refine Zbz ?_
     refine xR [] [1, 5, 7, 12, 13, 14] [705] [slI false input, .arr 705, slI false (at_ p.Weights t14.toNat), Zbg false p.Weights, I (p.Weights.length : Int), I t14] [some (tAI scores)] [(0 : Int) ≤ t14 ∧ t14 < (p.Weights.length : Int)] ⟨⟨(by omega), (by omega)⟩, trivial⟩ ?_
     refine xR [] [1, 5, 7, 8, 12, 13, 14] [705] [slI false input, .arr 705, slI false (at_ p.Weights t14.toNat), I 0, Zbg false p.Weights, I (p.Weights.length : Int), I t14] [some (tAI scores)] [] trivial ?_
     refine Zap ?_
     refine xR [] [1, 5, 8, 12, 13, 14, 18, 19, 20] [705] [slI false input, .arr 705, I 0, Zbg false p.Weights, I (p.Weights.length : Int), I t14, slI false (at_ p.Weights t14.toNat), I (((at_ p.Weights t14.toNat).length) : Int), I 0] [some (tAI scores)] [] trivial ?_
     refine Zbz ?_
     refine Zeh (X := Int × Int) (fun x => mkS [(1, slI false input), (5, .arr 705), (8, I x.1), (12, Zbg false p.Weights), (13, I (p.Weights.length : Int)), (14, I t14), (18, slI false (at_ p.Weights t14.toNat)), (19, I (((at_ p.Weights t14.toNat).length) : Int)), (20, I x.2)] [(705, tAI scores)]) (fun x => (0 ≤ x.2 ∧ x.2 ≤ 25) ∧ (x.1 = scT (at_ p.Weights t14.toNat) input x.2.toNat) ∧ True) (fun x => ((25 : Int) - x.2).toNat) (0, 0) rfl (show (0 ≤ (0 : Int) ∧ (0 : Int) ≤ 25) ∧ ((0 : Int) = scT (at_ p.Weights t14.toNat) input (0 : Int).toNat) ∧ True from ⟨(by omega), (by rfl), trivial⟩) (fun x hI => ?_)
     obtain ⟨sum, t20⟩ := x
     obtain ⟨hk0, hsum, _⟩ : (0 ≤ t20 ∧ t20 ≤ 25) ∧ (sum = scT (at_ p.Weights t14.toNat) input t20.toNat) ∧ True := hI
     show XW _ _ _ _ (mkS [(1, slI false input), (5, .arr 705), (8, I sum), (12, Zbg false p.Weights), (13, I (p.Weights.length : Int)), (14, I t14), (18, slI false (at_ p.Weights t14.toNat)), (19, I (((at_ p.Weights t14.toNat).length) : Int)), (20, I t20)] [(705, tAI scores)]) _ _
     refine Zap ?_
     by_cases h2 : t20 < (((at_ p.Weights t14.toNat).length) : Int)
     ·have hk : t20.toNat < 25 := by omega
      have hrk := hr.2 t20.toNat hk
      have hxk := hx.1 t20.toNat
      have hmx := Zwt hrk hxk
      have hsb := Zyp hr.2 hx.1 t20.toNat (by omega)
      refine x_r [(0, .dec true)] [1, 5, 8, 12, 13, 14, 18, 19, 20, 21] [705] [slI false input, .arr 705, I sum, Zbg false p.Weights, I (p.Weights.length : Int), I t14, slI false (at_ p.Weights t14.toNat), I (((at_ p.Weights t14.toNat).length) : Int), I t20, Bv true] [some (tAI scores)] [t20 < (((at_ p.Weights t14.toNat).length) : Int)] ⟨h2, trivial⟩ ?_
      refine Zab ?_
      refine Zap ?_
      refine Zbq rfl ?_
      refine Zca ?_
      refine Zab ?_
      refine Zap ?_
      refine Zbz ?_
      refine xR [] [1, 5, 8, 9, 10, 12, 13, 14, 18, 19, 20] [705] [slI false input, .arr 705, I sum, I t20, I (at_ (at_ p.Weights t14.toNat) t20.toNat), Zbg false p.Weights, I (p.Weights.length : Int), I t14, slI false (at_ p.Weights t14.toNat), I (((at_ p.Weights t14.toNat).length) : Int), I t20] [some (tAI scores)] [(0 : Int) ≤ t20 ∧ t20 < (((at_ p.Weights t14.toNat).length) : Int)] ⟨⟨(by omega), (by omega)⟩, trivial⟩ ?_
      refine x_r [] [1, 5, 8, 12, 13, 14, 18, 19, 20] [705] [slI false input, .arr 705, I (sum + ((at_ (at_ p.Weights t14.toNat) t20.toNat) * (at_ input t20.toNat))), Zbg false p.Weights, I (p.Weights.length : Int), I t14, slI false (at_ p.Weights t14.toNat), I (((at_ p.Weights t14.toNat).length) : Int), I t20] [some (tAI scores)] [(0 : Int) ≤ t20 ∧ t20 < (input.length : Int), inR .i64 ((at_ (at_ p.Weights t14.toNat) t20.toNat) * (at_ input t20.toNat)), inR .i64 (sum + ((at_ (at_ p.Weights t14.toNat) t20.toNat) * (at_ input t20.toNat)))] ⟨⟨(by omega), (by omega)⟩, (Zam (by omega) (by omega)), (Zam (by omega) (by omega)), trivial⟩ ?_
      refine Zbr 3 ?_
      refine Zab ?_
      refine x_r [] [1, 5, 8, 12, 13, 14, 18, 19, 20] [705] [slI false input, .arr 705, I (sum + ((at_ (at_ p.Weights t14.toNat) t20.toNat) * (at_ input t20.toNat))), Zbg false p.Weights, I (p.Weights.length : Int), I t14, slI false (at_ p.Weights t14.toNat), I (((at_ p.Weights t14.toNat).length) : Int), I (t20 + 1)] [some (tAI scores)] [inR .i64 (t20 + 1)] ⟨(Zam (by omega) (by omega)), trivial⟩ ?_
      exact Zcj ((sum + ((at_ (at_ p.Weights t14.toNat) t20.toNat) * (at_ input t20.toNat))), (t20 + 1)) rfl (show (0 ≤ (t20 + 1) ∧ (t20 + 1) ≤ 25) ∧ ((sum + ((at_ (at_ p.Weights t14.toNat) t20.toNat) * (at_ input t20.toNat))) = scT (at_ p.Weights t14.toNat) input (t20 + 1).toNat) ∧ True from ⟨(by omega), (by rw [scT_1 hk0.1, ← hsum]), trivial⟩) (by first | (show (((25 : Int) - (t20 + 1)).toNat : Nat) < ((25 : Int) - t20).toNat; omega) | (dsimp only; omega))
     have hie2 : t20.toNat = 25 := by omega
     rw [hie2] at hsum
     refine x_r [(0, .dec false)] [1, 5, 8, 12, 13, 14, 18, 19, 20, 21] [705] [slI false input, .arr 705, I sum, Zbg false p.Weights, I (p.Weights.length : Int), I t14, slI false (at_ p.Weights t14.toNat), I (((at_ p.Weights t14.toNat).length) : Int), I t20, Bv false] [some (tAI scores)] [¬ (t20 < (((at_ p.Weights t14.toNat).length) : Int))] ⟨h2, trivial⟩ ?_
     refine Zab ?_
     refine Zap ?_
     refine Zbe rfl ?_
     refine Zeg ?_
     refine Zbs ?_
     refine Zbu ?_
     refine Zbt ?_
     refine Zab ?_
     refine x_r [(2, .new 36), (3, .new 37)] [1, 5, 12, 13, 14] [37] [slI false input, .arr 37, Zbg false p.Weights, I (p.Weights.length : Int), I t14] [some (.arr 1 (scores.length + 1) (Zdf scores.length (fI scores) (Zcw [I sum] 1)))] [(scores.length + 1) * 8 ≤ 140737488355328] ⟨(by omega), trivial⟩ ?_
     refine Zbr 1 ?_
     refine Zab ?_
     refine x_r [] [1, 5, 12, 13, 14] [37] [slI false input, .arr 37, Zbg false p.Weights, I (p.Weights.length : Int), I (t14 + 1)] [some (.arr 1 (scores.length + 1) (Zdf scores.length (fI scores) (Zcw [I sum] 1)))] [inR .i64 (t14 + 1)] ⟨(Zam (by omega) (by omega)), trivial⟩ ?_
     refine Zcx [(705, 37)] (T := [(1, slI false input), (5, .arr 705), (12, Zbg false p.Weights), (13, I (p.Weights.length : Int)), (14, I (t14 + 1))]) (O := [(705, tAI (scores ++ [sum]))]) rfl (⟨.inl rfl, .inl rfl, .inl rfl, .inl rfl, .inl rfl, trivial⟩) (⟨.inr ⟨rfl, (by first | rfl | (simp; done) | (simp; omega) | omega), fun i_ hi_ => .inl (Zee (enc := cI) (xs := scores) rfl i_ hi_)⟩, trivial⟩) (Zcj ((scores ++ [sum]), (t14 + 1)) rfl (show (0 ≤ (t14 + 1) ∧ (t14 + 1) ≤ (p.Weights.length : Int)) ∧ ((scores ++ [sum]) = (p.Weights.take (t14 + 1).toNat).map fun r => scT r input 25) ∧ (((scores ++ [sum]).length : Int) = (t14 + 1)) ∧ True from ⟨(by omega), (by rw [Zyr hi0.1 hi, ← hsc, ← hsum]), (by simp; omega), trivial⟩) (by first | (show (((p.Weights.length : Int) - (t14 + 1)).toNat : Nat) < ((p.Weights.length : Int) - t14).toNat; omega) | (dsimp only; omega)))
    have hie : t14.toNat = p.Weights.length := by omega
    rw [hie, List.take_of_length_le (Nat.le_refl _)] at hsc
    refine x_r [(0, .dec false)] [1, 5, 12, 13, 14, 15] [705] [slI false input, .arr 705, Zbg false p.Weights, I (p.Weights.length : Int), I t14, Bv false] [some (tAI scores)] [¬ (t14 < (p.Weights.length : Int))] ⟨h1, trivial⟩ ?_
    refine Zab ?_
    refine Zap ?_
    refine Zbe rfl ?_
    refine Zeg ?_
    refine Zbs ?_
    refine Zbu ?_
    refine Zbt ?_
    refine Zab ?_
    refine xR [] [4] [705] [.arr 705] [some (tAI scores)] [] trivial ?_
    refine Zcf ?_
    refine Zbn scores (show (scores = scR p.Weights input) ∧ (True) from ⟨(by exact hsc), trivial⟩) (trivial) (.arr 705) (by kernel_rfl) (.inr ⟨(fun _ => rfl), rfl, rfl, fun i _ => .inl rfl⟩) (fun _ => rfl) (fun _ => (Zpg true _))
  obtain ⟨v, ⟨hh0, _⟩, hc⟩ := hh
  exact ⟨v, hh0, hc⟩
theorem Ycw (xl : List Int) (hl : 1 ≤ xl.length ∧ xl.length ≤ 1000) : ∃ (v : Int), (Zwp xl (xl.length : Int) v) ∧ Con Tryz.prog 45 [slI false xl] true (I v) := by
  have hh : ∃ r : Int, ((Zwp xl (xl.length : Int) r) ∧ (True)) ∧ Zaz Tryz.prog 45 [slI false xl] (Zaf []) true (I r) (Zaf []) := by
    refine Zde (Φ := fun r : Int => (Zwp xl (xl.length : Int) r) ∧ (True)) [] (fun r => []) (fn := Tryz.f45) (nt := 25) Tryz.func45 rfl rfl (args := [slI false xl]) rfl (Zbw (.inl ⟨rfl, Zpg false _⟩) Zdb) (res := fun r => I r) ?_
    refine xR [] [0] [] [slI false xl] [] [] trivial ?_
    refine Zap ?_
    refine xR [(2, .dec false)] [0, 7] [] [slI false xl, Bv false] [] [¬ ((xl.length : Int) < 1)] ⟨(by omega), trivial⟩ ?_
    refine Zbe rfl ?_
    refine Zca ?_
    refine Zab ?_
    refine xR [] [0, 3] [] [slI false xl, I (at_ xl 0)] [] [(0 : Int) ≤ 0 ∧ 0 < (xl.length : Int)] ⟨⟨(by omega), (by omega)⟩, trivial⟩ ?_
    refine Zap ?_
    refine xR [] [0, 3, 4] [] [slI false xl, I (at_ xl 0), I 1] [] [] trivial ?_
    refine Zbz ?_
    refine Zeh (X := Int × Int) (fun x => mkS [(0, slI false xl), (3, I x.1), (4, I x.2)] []) (fun x => (1 ≤ x.2 ∧ x.2 ≤ (xl.length : Int)) ∧ (Zwp xl x.2 x.1) ∧ True) (fun x => ((xl.length : Int) - x.2).toNat) ((at_ xl 0), 1) rfl (show (1 ≤ (1 : Int) ∧ (1 : Int) ≤ (xl.length : Int)) ∧ (Zwp xl (1 : Int) (at_ xl 0)) ∧ True from ⟨(by omega), (by exact isMx_1 xl), trivial⟩) (fun x hI => ?_)
    obtain ⟨m, i⟩ := x
    obtain ⟨hi0, hmx, _⟩ : (1 ≤ i ∧ i ≤ (xl.length : Int)) ∧ (Zwp xl i m) ∧ True := hI
    show XW _ _ _ _ (mkS [(0, slI false xl), (3, I m), (4, I i)] []) _ _
    refine Zap ?_
    refine Zap ?_
    by_cases h1 : i < (xl.length : Int)
    ·have hi : i.toNat < xl.length := by omega
     refine x_r [(3, .dec true)] [0, 3, 4, 15] [] [slI false xl, I m, I i, Bv true] [] [i < (xl.length : Int)] ⟨h1, trivial⟩ ?_
     refine Zab ?_
     refine Zbq rfl ?_
     refine Zca ?_
     refine Zab ?_
     refine Zap ?_
     refine Zbz ?_
     refine x_r [] [0, 3, 4] [] [slI false xl, I (max m (at_ xl i.toNat)), I i] [] [(0 : Int) ≤ i ∧ i < (xl.length : Int)] ⟨⟨(by omega), (by omega)⟩, trivial⟩ ?_
     refine Zbr 1 ?_
     refine Zab ?_
     refine x_r [] [0, 3, 4] [] [slI false xl, I (max m (at_ xl i.toNat)), I (i + 1)] [] [inR .i64 (i + 1)] ⟨(Zam (by omega) (by omega)), trivial⟩ ?_
     exact Zcj ((max m (at_ xl i.toNat)), (i + 1)) rfl (show (1 ≤ (i + 1) ∧ (i + 1) ≤ (xl.length : Int)) ∧ (Zwp xl (i + 1) (max m (at_ xl i.toNat))) ∧ True from ⟨(by omega), (by exact Ydk (by omega) hmx), trivial⟩) (by first | (show (((xl.length : Int) - (i + 1)).toNat : Nat) < ((xl.length : Int) - i).toNat; omega) | (dsimp only; omega))
    rw [show i = (xl.length : Int) from by omega] at hmx
    refine x_r [(3, .dec false)] [0, 3, 4, 15] [] [slI false xl, I m, I i, Bv false] [] [¬ (i < (xl.length : Int))] ⟨h1, trivial⟩ ?_
    refine Zab ?_
    refine Zbe rfl ?_
    refine Zeg ?_
    refine Zbs ?_
    refine Zbu ?_
    refine Zbt ?_
    refine Zab ?_
    refine xR [] [2] [] [I m] [] [] trivial ?_
    refine Zcf ?_
    refine Zbn m (show (Zwp xl (xl.length : Int) m) ∧ (True) from ⟨(by exact hmx), trivial⟩) (trivial) (I m) (by kernel_rfl) (.inl rfl) (fun _ => rfl) (fun _ => trivial)
  obtain ⟨v, ⟨hh0, _⟩, hc⟩ := hh
  exact ⟨v, hh0, hc⟩
theorem Ydl (s : List Int) (v : Int) : Con Tryz.prog 83 [slI false s, I v] true (I (Zcm s.length (fun j => decide (at_ s j = v)))) := by
  refine Zdc (fn := Tryz.f83) (nt := 19) Tryz.func83 rfl rfl rfl rfl (by simp [Zah, Zak, Zpg]) fun B hB => ?_
  refine Zcg (x := slI false s) 0 rfl (fun len_s => ?_)
  simp [Zdt, Zgj, cI, fI, slI] at len_s
  refine aR [] [0, 1] [] [slI false s, I v] [] [] hB trivial ?_
  refine Zal ?_
  refine aR [] [0, 1, 7, 8] [] [slI false s, I v, I (s.length : Int), I 0] [] [] hB trivial ?_
  refine Zbo ?_
  refine Zdm (fun gn gσ => ∃ (t8 : Int), gn = ((s.length : Int) - t8).toNat ∧ (0 ≤ t8 ∧ t8 ≤ (s.length : Int)) ∧ (∀ j : Nat, (j : Int) < t8 → ¬ at_ s j = v) ∧ gσ = mkS [(0, slI false s), (1, I v), (7, I (s.length : Int)), (8, I t8)] []) (((s.length : Int) - 0).toNat) ⟨0, rfl, (by omega), (by intro j hj; omega), rfl⟩ (fun gn gσ hI => ?_)
  obtain ⟨t8, rfl, hi0, hne, rfl⟩ := hI
  refine Zal ?_
  by_cases h1 : t8 < (s.length : Int)
  ·have hi : t8.toNat < s.length := by omega
   refine Zby [(0, .dec true)] [0, 1, 7, 8, 9] [] [slI false s, I v, I (s.length : Int), I t8, Bv true] [] [t8 < (s.length : Int)] hB ⟨h1, trivial⟩ ?_
   refine Zac ?_
   refine Zal ?_
   refine Zbc rfl ?_
   refine Zbf ?_
   refine Zac ?_
   refine Zal ?_
   refine Zbo ?_
   refine aR [] [0, 1, 5, 7, 8] [] [slI false s, I v, I t8, I (s.length : Int), I t8] [] [] hB trivial ?_
   refine Zal ?_
   by_cases h2 : v = (at_ s t8.toNat)
   ·have hfin : Zcm s.length (fun j => decide (at_ s j = v)) = t8.toNat := Zex hi (decide_eq_true (Eq.symm h2)) (fun j hj => decide_eq_false (hne j (by omega)))
    refine Zby [(5, .dec true)] [0, 1, 5, 7, 8, 16] [] [slI false s, I v, I t8, I (s.length : Int), I t8, Bv true] [] [(0 : Int) ≤ t8 ∧ t8 < (s.length : Int), v = (at_ s t8.toNat)] hB ⟨⟨(by omega), (by omega)⟩, h2, trivial⟩ ?_
    refine Zac ?_
    refine Zbc rfl ?_
    refine aR [] [4] [] [I t8] [] [] hB trivial ?_
    refine Zax ?_
    refine Zat (Zai (Zai (Zat (Zai ?_))))
    refine Zba hB (I t8) (by kernel_rfl) (.inl (by refine congrArg I ?_; first | (rw [hfin]; done) | (rw [hfin]; omega))) rfl (fun _ => trivial)
   have hno : ¬ at_ s t8.toNat = v := fun q => h2 q.symm
   refine Zby [(5, .dec false)] [0, 1, 5, 7, 8, 16] [] [slI false s, I v, I t8, I (s.length : Int), I t8, Bv false] [] [(0 : Int) ≤ t8 ∧ t8 < (s.length : Int), ¬ (v = (at_ s t8.toNat))] hB ⟨⟨(by omega), (by omega)⟩, h2, trivial⟩ ?_
   refine Zac ?_
   refine Zay rfl ?_
   refine Zbf ?_
   refine Zco 1 ?_
   refine Zac ?_
   refine Zby [] [0, 1, 7, 8] [] [slI false s, I v, I (s.length : Int), I (t8 + 1)] [] [inR .i64 (t8 + 1)] hB ⟨(Zam (by omega) (by omega)), trivial⟩ ?_
   exact Zcr _ (by omega) ⟨(t8 + 1), rfl, (by omega), (by intro j hj; by_cases ej : j = t8.toNat; (subst ej; exact hno); exact hne j (by omega)), rfl⟩
  have hfin : Zcm s.length (fun j => decide (at_ s j = v)) = -1 := Zen (fun j hj => decide_eq_false (hne j (by omega)))
  refine Zby [(0, .dec false)] [0, 1, 7, 8, 9] [] [slI false s, I v, I (s.length : Int), I t8, Bv false] [] [¬ (t8 < (s.length : Int))] hB ⟨h1, trivial⟩ ?_
  refine Zac ?_
  refine Zal ?_
  refine Zay rfl ?_
  refine Zdn ?_
  refine Zas ?_
  refine Zas ?_
  refine Zbx ?_
  refine Zac ?_
  refine aR [] [4] [] [I (-1)] [] [] hB trivial ?_
  refine Zax ?_
  refine Zba hB (I (-1)) (by kernel_rfl) (.inl (by refine congrArg I ?_; first | (rw [hfin]; done) | (rw [hfin]; omega))) rfl (fun _ => trivial)
theorem Zuj (scores : List Int) (hl : 1 ≤ scores.length ∧ scores.length ≤ 1000) : Con Tryz.prog 42 [slI false scores] true (I (Zbk scores)) := by
  refine Zdc (fn := Tryz.f42) (nt := 7) Tryz.func42 rfl rfl rfl rfl (by simp [Zah, Zak, Zpg]) fun B hB => ?_
  refine Zcg (x := slI false scores) 0 rfl (fun len_scores => ?_)
  simp [Zdt, Zgj, cI, fI, slI] at len_scores
  refine aR [] [0] [] [slI false scores] [] [] hB trivial ?_
  refine Zal ?_
  obtain ⟨v_1, hx1_0, hc1⟩ := Ycw scores hl
  refine Zby [(2, .call [(true, .any)] true (I v_1)), (3, .call [(true, .any), (true, .any)] true (I (Zcm scores.length (fun j => decide (at_ scores j = v_1)))))] [2] [] [I (Zcm scores.length (fun j => decide (at_ scores j = v_1)))] [] [Con Tryz.prog 45 [slI false scores] true (I v_1) ∧ True, Con Tryz.prog 83 [slI false scores, I v_1] true (I (Zcm scores.length (fun j => decide (at_ scores j = v_1)))) ∧ True] hB ⟨⟨hc1, trivial⟩, ⟨(Ydl scores v_1), trivial⟩, trivial⟩ ?_
  refine Zac ?_
  refine Zax ?_
  refine Zba hB (I (Zcm scores.length (fun j => decide (at_ scores j = v_1)))) (by kernel_rfl) (.inl (by exact congrArg I (bst_win hl.1 hx1_0))) rfl (fun _ => trivial)
theorem train_ok (p : Perceptron) (s : Sample) (hp : Zbb p = true) (hs : s.Label ∈ p.Labels) (hf : Zbp s.Feats 384 = true) : ∃ (ch : Bool) (p_Labels : List ByteArray) (p_Weights : List (List Int)), (p_Labels = p.Labels) ∧ ((p_Weights, ch) = trnR p s) ∧ Zaz Tryz.prog 93 [.agg [.arr 9241, .arr 9242], Zcy s] (Zaf [(9241, tAS p.Labels), (9203, Zbm p.Weights), (9242, Zbv 9203 p.Weights)]) true (Bv ch) (Zaf [(9241, tAS p_Labels), (9203, Zbm p_Weights), (9242, Zbv 9203 p_Weights)]) := by
  have hq := Zcd.1 hp
  have hpn := Zkk hp
  have hfi := Zso hs
  have hh : ∃ r : Bool × (List ByteArray) × (List (List Int)), ((r.2.1 = p.Labels) ∧ ((r.2.2, r.1) = trnR p s) ∧ (True)) ∧ Zaz Tryz.prog 93 [.agg [.arr 9241, .arr 9242], Zcy s] (Zaf [(9241, tAS p.Labels), (9203, Zbm p.Weights), (9242, Zbv 9203 p.Weights)]) true (Bv r.1) (Zaf [(9241, tAS r.2.1), (9203, Zbm r.2.2), (9242, Zbv 9203 r.2.2)]) := by
    refine Zde (Φ := fun r : Bool × (List ByteArray) × (List (List Int)) => (r.2.1 = p.Labels) ∧ ((r.2.2, r.1) = trnR p s) ∧ (True)) [(9241, tAS p.Labels), (9203, Zbm p.Weights), (9242, Zbv 9203 p.Weights)] (fun r => [(9241, tAS r.2.1), (9203, Zbm r.2.2), (9242, Zbv 9203 r.2.2)]) (fn := Tryz.f93) (nt := 55) Tryz.func93 rfl rfl (args := [.agg [.arr 9241, .arr 9242], Zcy s]) rfl (Zbw (.inr (by simp [Zak, Zah])) (Zbw (.inl ⟨rfl, by simp [Zak, Zah, Zef]⟩) Zdb)) (res := fun r => Bv r.1) ?_
    refine xR [(0, .new 2), (1, .new 3)] [2, 3] [2, 3, 9203, 9241, 9242] [.ref 2 0, .ref 3 0] [some (.box [.arr 9241, .arr 9242]), some (Zfq s), some (Zbm p.Weights), some (tAS p.Labels), some (Zbv 9203 p.Weights)] [] trivial ?_
    refine Zap ?_
    obtain ⟨v_1, hx1_0, hc1⟩ := Zqr s.Feats hf
    have hinp := Ycu hf hx1_0
    have hiv := hx1_0
    have hil := hinp.2
    refine x_r [(2, .call [(true, .any)] true (slI true v_1))] [2, 3, 5] [2, 3, 9203, 9241, 9242] [.ref 2 0, .ref 3 0, slI true v_1] [some (.box [.arr 9241, .arr 9242]), some (Zfq s), some (Zbm p.Weights), some (tAS p.Labels), some (Zbv 9203 p.Weights)] [Con Tryz.prog 82 [Zau false s.Feats] true (slI true v_1) ∧ True] ⟨⟨hc1, trivial⟩, trivial⟩ ?_
    refine Zab ?_
    refine Zap ?_
    obtain ⟨v_2, hx2_0, hc2⟩ := Zot p v_1 hp hinp
    have hsv := hx2_0
    have hsl : v_2.length = p.Weights.length := by rw [hsv, Zma]
    rw [hiv] at hsv
    have hbi := Zjj (l := v_2) (by omega)
    refine x_r [(4, .call [(false, slS false p.Labels), (true, .any)] true (I (Zaw p.Labels s.Label))), (7, .call [(false, Zae p), (false, slI false v_1)] true (slI true v_2)), (8, .call [(false, slI false v_2)] true (I (Zbk v_2)))] [2, 5, 6, 7] [2, 9203, 9241, 9242] [.ref 2 0, slI true v_1, I (Zaw p.Labels s.Label), I (Zbk v_2)] [some (.box [.arr 9241, .arr 9242]), some (Zbm p.Weights), some (tAS p.Labels), some (Zbv 9203 p.Weights)] [Con Tryz.prog 112 [slS false p.Labels, Sv s.Label] true (I (Zaw p.Labels s.Label)) ∧ ((false = true → true = true) ∧ 1 = 1 ∧ p.Labels.length = p.Labels.length ∧ ∀ i_, i_ < p.Labels.length → (fS p.Labels) i_ = (fS p.Labels) i_ ∨ (AV.idsL ((fS p.Labels) i_) = [] ∧ leL (fun _ => none) false ((fS p.Labels) i_) ((fS p.Labels) i_))) ∧ True, Con Tryz.prog 81 [Zae p, slI false v_1] true (slI true v_2) ∧ (((false = true → true = true) ∧ 1 = 1 ∧ p.Labels.length = p.Labels.length ∧ ∀ i_, i_ < p.Labels.length → (fS p.Labels) i_ = (fS p.Labels) i_ ∨ (AV.idsL ((fS p.Labels) i_) = [] ∧ leL (fun _ => none) false ((fS p.Labels) i_) ((fS p.Labels) i_))) ∧ ((false = true → true = true) ∧ 1 = 1 ∧ p.Weights.length = p.Weights.length ∧ ∀ i_, i_ < p.Weights.length → AV.idsL ((fLI false p.Weights) i_) = [] ∧ leL (Zaf [(9203, Zbm p.Weights)]) true ((oLI 9203 p.Weights) i_) ((fLI false p.Weights) i_)) ∧ ([] : List AV) = []) ∧ ((false = true → true = true) ∧ 1 = 1 ∧ v_1.length = v_1.length ∧ ∀ i_, i_ < v_1.length → (fI v_1) i_ = (fI v_1) i_ ∨ (AV.idsL ((fI v_1) i_) = [] ∧ leL (fun _ => none) false ((fI v_1) i_) ((fI v_1) i_))) ∧ True, Con Tryz.prog 42 [slI false v_2] true (I (Zbk v_2)) ∧ ((false = true → true = true) ∧ 1 = 1 ∧ v_2.length = v_2.length ∧ ∀ i_, i_ < v_2.length → (fI v_2) i_ = (fI v_2) i_ ∨ (AV.idsL ((fI v_2) i_) = [] ∧ leL (fun _ => none) false ((fI v_2) i_) ((fI v_2) i_))) ∧ True] ⟨⟨(Zum p.Labels s.Label), ⟨(fun h => by cases h), rfl, rfl, fun i _ => .inl rfl⟩, trivial⟩, ⟨hc2, ⟨⟨(fun h => by cases h), rfl, rfl, fun i _ => .inl rfl⟩, ⟨⟨(fun h => by cases h), rfl, rfl, Zfw _ _ rfl⟩, rfl⟩⟩, ⟨(fun h => by cases h), rfl, rfl, fun i _ => .inl rfl⟩, trivial⟩, ⟨(Zuj v_2 (by omega)), ⟨(fun h => by cases h), rfl, rfl, fun i _ => .inl rfl⟩, trivial⟩, trivial⟩ ?_
    refine Zab ?_
    refine Zap ?_
    refine Zap ?_
    by_cases h1 : (Zaw p.Labels s.Label) = (Zbk v_2)
    ·have heq : Zbk (scR p.Weights (Zed s.Feats)) = Zaw p.Labels s.Label := by rw [← hsv]; exact Eq.symm h1
     refine x_r [(2, .dec true)] [2, 5, 6, 7, 24] [2, 9203, 9241, 9242] [.ref 2 0, slI true v_1, I (Zaw p.Labels s.Label), I (Zbk v_2), Bv true] [some (.box [.arr 9241, .arr 9242]), some (Zbm p.Weights), some (tAS p.Labels), some (Zbv 9203 p.Weights)] [(Zaw p.Labels s.Label) = (Zbk v_2)] ⟨h1, trivial⟩ ?_
     refine Zab ?_
     refine Zbq rfl ?_
     refine xR [] [4] [9203, 9241, 9242] [Bv false] [some (Zbm p.Weights), some (tAS p.Labels), some (Zbv 9203 p.Weights)] [] trivial ?_
     refine Zcf ?_
     refine Zbd ?_
     refine Zbn (false, p.Labels, p.Weights) (show (p.Labels = p.Labels) ∧ ((p.Weights, false) = trnR p s) ∧ (True) from ⟨(by first | rfl | exact (Ydb heq).symm | (rw [Ydc heq, hws])), (by first | rfl | exact (Ydb heq).symm | (rw [Ydc heq, hws])), trivial⟩) (⟨.inl rfl, .inl rfl, .inl rfl, trivial⟩) (Bv false) (by kernel_rfl) (.inl rfl) (fun _ => rfl) (fun _ => trivial)
    have heq : ¬ (Zbk (scR p.Weights (Zed s.Feats)) = Zaw p.Labels s.Label) := by rw [← hsv]; exact fun q => h1 q.symm
    have hne : (Zaw p.Labels s.Label).toNat ≠ (Zbk v_2).toNat := by omega
    refine x_r [(2, .dec false)] [2, 5, 6, 7, 24] [2, 9203, 9241, 9242] [.ref 2 0, slI true v_1, I (Zaw p.Labels s.Label), I (Zbk v_2), Bv false] [some (.box [.arr 9241, .arr 9242]), some (Zbm p.Weights), some (tAS p.Labels), some (Zbv 9203 p.Weights)] [¬ ((Zaw p.Labels s.Label) = (Zbk v_2))] ⟨h1, trivial⟩ ?_
    refine Zab ?_
    refine Zbe rfl ?_
    refine Zca ?_
    refine Zab ?_
    refine Zap ?_
    refine xR [] [2, 6, 7, 25, 26, 27] [2, 9203, 9241, 9242] [.ref 2 0, I (Zaw p.Labels s.Label), I (Zbk v_2), slI true v_1, I (v_1.length : Int), I 0] [some (.box [.arr 9241, .arr 9242]), some (Zbm p.Weights), some (tAS p.Labels), some (Zbv 9203 p.Weights)] [] trivial ?_
    refine Zbz ?_
    refine Zeh (X := Int × (List (List Int))) (fun x => mkS [(2, .ref 2 0), (6, I (Zaw p.Labels s.Label)), (7, I (Zbk v_2)), (25, slI true v_1), (26, I (v_1.length : Int)), (27, I x.1)] [(2, .box [.arr 9241, .arr 9242]), (9203, Zbm x.2), (9241, tAS p.Labels), (9242, Zbv 9203 x.2)]) (fun x => (0 ≤ x.1 ∧ x.1 ≤ 25) ∧ (x.2 = Zgi p.Weights v_1 (Zaw p.Labels s.Label).toNat (Zbk v_2).toNat x.1.toNat) ∧ True) (fun x => ((25 : Int) - x.1).toNat) (0, p.Weights) rfl (show (0 ≤ (0 : Int) ∧ (0 : Int) ≤ 25) ∧ (p.Weights = Zgi p.Weights v_1 (Zaw p.Labels s.Label).toNat (Zbk v_2).toNat (0 : Int).toNat) ∧ True from ⟨(by omega), (by rfl), trivial⟩) (fun x hI => ?_)
    obtain ⟨t27, ws⟩ := x
    obtain ⟨hk0, hws, _⟩ : (0 ≤ t27 ∧ t27 ≤ 25) ∧ (ws = Zgi p.Weights v_1 (Zaw p.Labels s.Label).toNat (Zbk v_2).toNat t27.toNat) ∧ True := hI
    show XW _ _ _ _ (mkS [(2, .ref 2 0), (6, I (Zaw p.Labels s.Label)), (7, I (Zbk v_2)), (25, slI true v_1), (26, I (v_1.length : Int)), (27, I t27)] [(2, .box [.arr 9241, .arr 9242]), (9203, Zbm ws), (9241, tAS p.Labels), (9242, Zbv 9203 ws)]) _ _
    refine Zap ?_
    by_cases h2 : t27 < (v_1.length : Int)
    ·have hk : t27.toNat < 25 := by omega
     have hwl : ws.length = p.Weights.length := by rw [hws, Zlh]
     have hrW : (at_ ws (Zaw p.Labels s.Label).toNat).length = 25 := by rw [hws, Zig]; exact (Zcu hq.2.2 (by omega)).1
     have hrG : (at_ ws (Zbk v_2).toNat).length = 25 := by rw [hws, Zig]; exact (Zcu hq.2.2 (by omega)).1
     have hbW : -1000512 ≤ at_ (at_ ws (Zaw p.Labels s.Label).toNat) t27.toNat ∧ at_ (at_ ws (Zaw p.Labels s.Label).toNat) t27.toNat ≤ 1000512 := by rw [hws]; exact Zys hp hinp.1 (by omega) (by omega) hne (by omega) (by omega) hk
     have hbG : -1000512 ≤ at_ (at_ ws (Zbk v_2).toNat) t27.toNat ∧ at_ (at_ ws (Zbk v_2).toNat) t27.toNat ≤ 1000512 := by rw [hws]; exact Zys hp hinp.1 (by omega) (by omega) hne (by omega) (by omega) hk
     have hxk := hinp.1 t27.toNat
     refine x_r [(0, .dec true)] [2, 6, 7, 25, 26, 27, 28] [2, 9203, 9241, 9242] [.ref 2 0, I (Zaw p.Labels s.Label), I (Zbk v_2), slI true v_1, I (v_1.length : Int), I t27, Bv true] [some (.box [.arr 9241, .arr 9242]), some (Zbm ws), some (tAS p.Labels), some (Zbv 9203 ws)] [t27 < (v_1.length : Int)] ⟨h2, trivial⟩ ?_
     refine Zab ?_
     refine Zap ?_
     refine Zbq rfl ?_
     refine Zca ?_
     refine Zab ?_
     refine Zap ?_
     refine Zbz ?_
     refine xR [] [2, 6, 7, 8, 9, 25, 26, 27] [2, 9203, 9241, 9242] [.ref 2 0, I (Zaw p.Labels s.Label), I (Zbk v_2), I t27, I (at_ v_1 t27.toNat), slI true v_1, I (v_1.length : Int), I t27] [some (.box [.arr 9241, .arr 9242]), some (Zbm ws), some (tAS p.Labels), some (Zbv 9203 ws)] [(0 : Int) ≤ t27 ∧ t27 < (v_1.length : Int)] ⟨⟨(by omega), (by omega)⟩, trivial⟩ ?_
     refine xR [] [2, 6, 7, 8, 9, 25, 26, 27] [2, 9203, 9241, 9242] [.ref 2 0, I (Zaw p.Labels s.Label), I (Zbk v_2), I t27, I (at_ v_1 t27.toNat), slI true v_1, I (v_1.length : Int), I t27] [some (.box [.arr 9241, .arr 9242]), some (.fam ws.length 1 (mLI ws) (fun q => bif Nat.beq q ((Zaw p.Labels s.Label).toNat) then (fun q => bif Nat.beq q t27.toNat then [I ((at_ (at_ ws ((Zaw p.Labels s.Label).toNat)) t27.toNat) + (at_ v_1 t27.toNat))] else (gLI ws) ((Zaw p.Labels s.Label).toNat) q) else (gLI ws) q)), some (tAS p.Labels), some (Zbv 9203 ws)] [(0 : Int) ≤ (Zaw p.Labels s.Label) ∧ (Zaw p.Labels s.Label) < (ws.length : Int), (Zaw p.Labels s.Label).toNat < ws.length, ((Zaw p.Labels s.Label).toNat) < ws.length ∧ (0 : Int) ≤ t27 ∧ t27 < (((at_ ws ((Zaw p.Labels s.Label).toNat)).length) : Int), ((Zaw p.Labels s.Label).toNat) < ws.length ∧ t27.toNat < (at_ ws ((Zaw p.Labels s.Label).toNat)).length, inR .i64 ((at_ (at_ ws ((Zaw p.Labels s.Label).toNat)) t27.toNat) + (at_ v_1 t27.toNat)), ((Zaw p.Labels s.Label).toNat) < ws.length ∧ (0 : Int) ≤ t27 ∧ t27 < (((at_ ws ((Zaw p.Labels s.Label).toNat)).length) : Int), ((Zaw p.Labels s.Label).toNat) < ws.length ∧ t27.toNat < (at_ ws ((Zaw p.Labels s.Label).toNat)).length] ⟨⟨(by omega), (by omega)⟩, (by omega), ⟨(by omega), (by omega), (by omega)⟩, ⟨(by omega), (by omega)⟩, (Zam (by omega) (by omega)), ⟨(by omega), (by omega), (by omega)⟩, ⟨(by omega), (by omega)⟩, trivial⟩ ?_
     refine Zcz [] (T := [(2, .ref 2 0), (6, I (Zaw p.Labels s.Label)), (7, I (Zbk v_2)), (8, I t27), (9, I (at_ v_1 t27.toNat)), (25, slI true v_1), (26, I (v_1.length : Int)), (27, I t27)]) (O := [(2, .box [.arr 9241, .arr 9242]), (9203, Zbm (ws.set ((Zaw p.Labels s.Label).toNat) ((at_ ws ((Zaw p.Labels s.Label).toNat)).set t27.toNat ((at_ (at_ ws ((Zaw p.Labels s.Label).toNat)) t27.toNat) + (at_ v_1 t27.toNat))))), (9241, tAS p.Labels), (9242, Zbv 9203 (ws.set ((Zaw p.Labels s.Label).toNat) ((at_ ws ((Zaw p.Labels s.Label).toNat)).set t27.toNat ((at_ (at_ ws ((Zaw p.Labels s.Label).toNat)) t27.toNat) + (at_ v_1 t27.toNat)))))]) rfl (⟨.inl rfl, .inl rfl, .inl rfl, .inl rfl, .inl rfl, .inl rfl, .inl rfl, .inl rfl, trivial⟩) (⟨.inl rfl, .inr (Zup (P := (Zaw p.Labels s.Label).toNat) (k := t27.toNat) ((by omega)) ((by omega)) (by simp only [Nat.beq_refl, cond_true]; try rfl) (by intro i hi; simp only [Nat.beq_refl, cond_true, Zjm hi, cond_false]; try rfl) (by intro p hp; simp only [Zjm hp, cond_false])), .inl rfl, .inr ⟨rfl, rfl, (by first | rfl | (simp; done) | omega), fun i_ hi_ => .inl (Zuq 9203 ((Zaw p.Labels s.Label).toNat) ws ((at_ ws ((Zaw p.Labels s.Label).toNat)).set t27.toNat ((at_ (at_ ws ((Zaw p.Labels s.Label).toNat)) t27.toNat) + (at_ v_1 t27.toNat))) i_)⟩, trivial⟩) ?_
     refine x_r [] [2, 6, 7, 25, 26, 27] [2, 9203, 9241, 9242] [.ref 2 0, I (Zaw p.Labels s.Label), I (Zbk v_2), slI true v_1, I (v_1.length : Int), I t27] [some (.box [.arr 9241, .arr 9242]), some (.fam (ws.set ((Zaw p.Labels s.Label).toNat) ((at_ ws ((Zaw p.Labels s.Label).toNat)).set t27.toNat ((at_ (at_ ws ((Zaw p.Labels s.Label).toNat)) t27.toNat) + (at_ v_1 t27.toNat)))).length 1 (mLI (ws.set ((Zaw p.Labels s.Label).toNat) ((at_ ws ((Zaw p.Labels s.Label).toNat)).set t27.toNat ((at_ (at_ ws ((Zaw p.Labels s.Label).toNat)) t27.toNat) + (at_ v_1 t27.toNat))))) (fun q => bif Nat.beq q ((Zbk v_2).toNat) then (fun q => bif Nat.beq q t27.toNat then [I ((at_ (at_ (ws.set ((Zaw p.Labels s.Label).toNat) ((at_ ws ((Zaw p.Labels s.Label).toNat)).set t27.toNat ((at_ (at_ ws ((Zaw p.Labels s.Label).toNat)) t27.toNat) + (at_ v_1 t27.toNat)))) ((Zbk v_2).toNat)) t27.toNat) - (at_ v_1 t27.toNat))] else (gLI (ws.set ((Zaw p.Labels s.Label).toNat) ((at_ ws ((Zaw p.Labels s.Label).toNat)).set t27.toNat ((at_ (at_ ws ((Zaw p.Labels s.Label).toNat)) t27.toNat) + (at_ v_1 t27.toNat))))) ((Zbk v_2).toNat) q) else (gLI (ws.set ((Zaw p.Labels s.Label).toNat) ((at_ ws ((Zaw p.Labels s.Label).toNat)).set t27.toNat ((at_ (at_ ws ((Zaw p.Labels s.Label).toNat)) t27.toNat) + (at_ v_1 t27.toNat))))) q)), some (tAS p.Labels), some (Zbv 9203 (ws.set ((Zaw p.Labels s.Label).toNat) ((at_ ws ((Zaw p.Labels s.Label).toNat)).set t27.toNat ((at_ (at_ ws ((Zaw p.Labels s.Label).toNat)) t27.toNat) + (at_ v_1 t27.toNat)))))] [(0 : Int) ≤ (Zbk v_2) ∧ (Zbk v_2) < (((ws.set ((Zaw p.Labels s.Label).toNat) ((at_ ws ((Zaw p.Labels s.Label).toNat)).set t27.toNat ((at_ (at_ ws ((Zaw p.Labels s.Label).toNat)) t27.toNat) + (at_ v_1 t27.toNat)))).length : Nat) : Int), (Zbk v_2).toNat < (ws.set ((Zaw p.Labels s.Label).toNat) ((at_ ws ((Zaw p.Labels s.Label).toNat)).set t27.toNat ((at_ (at_ ws ((Zaw p.Labels s.Label).toNat)) t27.toNat) + (at_ v_1 t27.toNat)))).length, ((Zbk v_2).toNat) < (ws.set ((Zaw p.Labels s.Label).toNat) ((at_ ws ((Zaw p.Labels s.Label).toNat)).set t27.toNat ((at_ (at_ ws ((Zaw p.Labels s.Label).toNat)) t27.toNat) + (at_ v_1 t27.toNat)))).length ∧ (0 : Int) ≤ t27 ∧ t27 < (((at_ (ws.set ((Zaw p.Labels s.Label).toNat) ((at_ ws ((Zaw p.Labels s.Label).toNat)).set t27.toNat ((at_ (at_ ws ((Zaw p.Labels s.Label).toNat)) t27.toNat) + (at_ v_1 t27.toNat)))) ((Zbk v_2).toNat)).length) : Int), ((Zbk v_2).toNat) < (ws.set ((Zaw p.Labels s.Label).toNat) ((at_ ws ((Zaw p.Labels s.Label).toNat)).set t27.toNat ((at_ (at_ ws ((Zaw p.Labels s.Label).toNat)) t27.toNat) + (at_ v_1 t27.toNat)))).length ∧ t27.toNat < (at_ (ws.set ((Zaw p.Labels s.Label).toNat) ((at_ ws ((Zaw p.Labels s.Label).toNat)).set t27.toNat ((at_ (at_ ws ((Zaw p.Labels s.Label).toNat)) t27.toNat) + (at_ v_1 t27.toNat)))) ((Zbk v_2).toNat)).length, inR .i64 ((at_ (at_ (ws.set ((Zaw p.Labels s.Label).toNat) ((at_ ws ((Zaw p.Labels s.Label).toNat)).set t27.toNat ((at_ (at_ ws ((Zaw p.Labels s.Label).toNat)) t27.toNat) + (at_ v_1 t27.toNat)))) ((Zbk v_2).toNat)) t27.toNat) - (at_ v_1 t27.toNat)), ((Zbk v_2).toNat) < (ws.set ((Zaw p.Labels s.Label).toNat) ((at_ ws ((Zaw p.Labels s.Label).toNat)).set t27.toNat ((at_ (at_ ws ((Zaw p.Labels s.Label).toNat)) t27.toNat) + (at_ v_1 t27.toNat)))).length ∧ (0 : Int) ≤ t27 ∧ t27 < (((at_ (ws.set ((Zaw p.Labels s.Label).toNat) ((at_ ws ((Zaw p.Labels s.Label).toNat)).set t27.toNat ((at_ (at_ ws ((Zaw p.Labels s.Label).toNat)) t27.toNat) + (at_ v_1 t27.toNat)))) ((Zbk v_2).toNat)).length) : Int), ((Zbk v_2).toNat) < (ws.set ((Zaw p.Labels s.Label).toNat) ((at_ ws ((Zaw p.Labels s.Label).toNat)).set t27.toNat ((at_ (at_ ws ((Zaw p.Labels s.Label).toNat)) t27.toNat) + (at_ v_1 t27.toNat)))).length ∧ t27.toNat < (at_ (ws.set ((Zaw p.Labels s.Label).toNat) ((at_ ws ((Zaw p.Labels s.Label).toNat)).set t27.toNat ((at_ (at_ ws ((Zaw p.Labels s.Label).toNat)) t27.toNat) + (at_ v_1 t27.toNat)))) ((Zbk v_2).toNat)).length] ⟨⟨(by first | omega | (rw [Zav (by rw [List.length_set])]; omega) | (simp only [List.length_set]; omega) | ((try simp only [List.length_set]); rw [Zav (by rw [List.length_set])]; omega)), (by first | omega | (rw [Zav (by rw [List.length_set])]; omega) | (simp only [List.length_set]; omega) | ((try simp only [List.length_set]); rw [Zav (by rw [List.length_set])]; omega))⟩, (by first | omega | (rw [Zav (by rw [List.length_set])]; omega) | (simp only [List.length_set]; omega) | ((try simp only [List.length_set]); rw [Zav (by rw [List.length_set])]; omega)), ⟨(by first | omega | (rw [Zav (by rw [List.length_set])]; omega) | (simp only [List.length_set]; omega) | ((try simp only [List.length_set]); rw [Zav (by rw [List.length_set])]; omega)), (by omega), (by first | omega | (rw [Zav (by rw [List.length_set])]; omega) | (simp only [List.length_set]; omega) | ((try simp only [List.length_set]); rw [Zav (by rw [List.length_set])]; omega))⟩, ⟨(by first | omega | (rw [Zav (by rw [List.length_set])]; omega) | (simp only [List.length_set]; omega) | ((try simp only [List.length_set]); rw [Zav (by rw [List.length_set])]; omega)), (by first | omega | (rw [Zav (by rw [List.length_set])]; omega) | (simp only [List.length_set]; omega) | ((try simp only [List.length_set]); rw [Zav (by rw [List.length_set])]; omega))⟩, (by simp only [Zil]; (repeat split) <;> exact Zam (by omega) (by omega)), ⟨(by first | omega | (rw [Zav (by rw [List.length_set])]; omega) | (simp only [List.length_set]; omega) | ((try simp only [List.length_set]); rw [Zav (by rw [List.length_set])]; omega)), (by omega), (by first | omega | (rw [Zav (by rw [List.length_set])]; omega) | (simp only [List.length_set]; omega) | ((try simp only [List.length_set]); rw [Zav (by rw [List.length_set])]; omega))⟩, ⟨(by first | omega | (rw [Zav (by rw [List.length_set])]; omega) | (simp only [List.length_set]; omega) | ((try simp only [List.length_set]); rw [Zav (by rw [List.length_set])]; omega)), (by first | omega | (rw [Zav (by rw [List.length_set])]; omega) | (simp only [List.length_set]; omega) | ((try simp only [List.length_set]); rw [Zav (by rw [List.length_set])]; omega))⟩, trivial⟩ ?_
     refine Zbr 1 ?_
     refine Zab ?_
     refine Zcz [] (T := [(2, .ref 2 0), (6, I (Zaw p.Labels s.Label)), (7, I (Zbk v_2)), (25, slI true v_1), (26, I (v_1.length : Int)), (27, I t27)]) (O := [(2, .box [.arr 9241, .arr 9242]), (9203, Zbm ((ws.set ((Zaw p.Labels s.Label).toNat) ((at_ ws ((Zaw p.Labels s.Label).toNat)).set t27.toNat ((at_ (at_ ws ((Zaw p.Labels s.Label).toNat)) t27.toNat) + (at_ v_1 t27.toNat)))).set ((Zbk v_2).toNat) ((at_ (ws.set ((Zaw p.Labels s.Label).toNat) ((at_ ws ((Zaw p.Labels s.Label).toNat)).set t27.toNat ((at_ (at_ ws ((Zaw p.Labels s.Label).toNat)) t27.toNat) + (at_ v_1 t27.toNat)))) ((Zbk v_2).toNat)).set t27.toNat ((at_ (at_ (ws.set ((Zaw p.Labels s.Label).toNat) ((at_ ws ((Zaw p.Labels s.Label).toNat)).set t27.toNat ((at_ (at_ ws ((Zaw p.Labels s.Label).toNat)) t27.toNat) + (at_ v_1 t27.toNat)))) ((Zbk v_2).toNat)) t27.toNat) - (at_ v_1 t27.toNat))))), (9241, tAS p.Labels), (9242, Zbv 9203 ((ws.set ((Zaw p.Labels s.Label).toNat) ((at_ ws ((Zaw p.Labels s.Label).toNat)).set t27.toNat ((at_ (at_ ws ((Zaw p.Labels s.Label).toNat)) t27.toNat) + (at_ v_1 t27.toNat)))).set ((Zbk v_2).toNat) ((at_ (ws.set ((Zaw p.Labels s.Label).toNat) ((at_ ws ((Zaw p.Labels s.Label).toNat)).set t27.toNat ((at_ (at_ ws ((Zaw p.Labels s.Label).toNat)) t27.toNat) + (at_ v_1 t27.toNat)))) ((Zbk v_2).toNat)).set t27.toNat ((at_ (at_ (ws.set ((Zaw p.Labels s.Label).toNat) ((at_ ws ((Zaw p.Labels s.Label).toNat)).set t27.toNat ((at_ (at_ ws ((Zaw p.Labels s.Label).toNat)) t27.toNat) + (at_ v_1 t27.toNat)))) ((Zbk v_2).toNat)) t27.toNat) - (at_ v_1 t27.toNat)))))]) rfl (⟨.inl rfl, .inl rfl, .inl rfl, .inl rfl, .inl rfl, .inl rfl, trivial⟩) (⟨.inl rfl, .inr (Zup (P := (Zbk v_2).toNat) (k := t27.toNat) ((by first | omega | (rw [Zav (by rw [List.length_set])]; omega) | (simp only [List.length_set]; omega) | ((try simp only [List.length_set]); rw [Zav (by rw [List.length_set])]; omega))) ((by first | omega | (rw [Zav (by rw [List.length_set])]; omega) | (simp only [List.length_set]; omega) | ((try simp only [List.length_set]); rw [Zav (by rw [List.length_set])]; omega))) (by simp only [Nat.beq_refl, cond_true]; try rfl) (by intro i hi; simp only [Nat.beq_refl, cond_true, Zjm hi, cond_false]; try rfl) (by intro p hp; simp only [Zjm hp, cond_false])), .inl rfl, .inr ⟨rfl, rfl, (by first | rfl | (simp; done) | omega), fun i_ hi_ => .inl (Zuq 9203 ((Zbk v_2).toNat) (ws.set ((Zaw p.Labels s.Label).toNat) ((at_ ws ((Zaw p.Labels s.Label).toNat)).set t27.toNat ((at_ (at_ ws ((Zaw p.Labels s.Label).toNat)) t27.toNat) + (at_ v_1 t27.toNat)))) ((at_ (ws.set ((Zaw p.Labels s.Label).toNat) ((at_ ws ((Zaw p.Labels s.Label).toNat)).set t27.toNat ((at_ (at_ ws ((Zaw p.Labels s.Label).toNat)) t27.toNat) + (at_ v_1 t27.toNat)))) ((Zbk v_2).toNat)).set t27.toNat ((at_ (at_ (ws.set ((Zaw p.Labels s.Label).toNat) ((at_ ws ((Zaw p.Labels s.Label).toNat)).set t27.toNat ((at_ (at_ ws ((Zaw p.Labels s.Label).toNat)) t27.toNat) + (at_ v_1 t27.toNat)))) ((Zbk v_2).toNat)) t27.toNat) - (at_ v_1 t27.toNat))) i_)⟩, trivial⟩) ?_
     refine x_r [] [2, 6, 7, 25, 26, 27] [2, 9203, 9241, 9242] [.ref 2 0, I (Zaw p.Labels s.Label), I (Zbk v_2), slI true v_1, I (v_1.length : Int), I (t27 + 1)] [some (.box [.arr 9241, .arr 9242]), some (Zbm ((ws.set ((Zaw p.Labels s.Label).toNat) ((at_ ws ((Zaw p.Labels s.Label).toNat)).set t27.toNat ((at_ (at_ ws ((Zaw p.Labels s.Label).toNat)) t27.toNat) + (at_ v_1 t27.toNat)))).set ((Zbk v_2).toNat) ((at_ (ws.set ((Zaw p.Labels s.Label).toNat) ((at_ ws ((Zaw p.Labels s.Label).toNat)).set t27.toNat ((at_ (at_ ws ((Zaw p.Labels s.Label).toNat)) t27.toNat) + (at_ v_1 t27.toNat)))) ((Zbk v_2).toNat)).set t27.toNat ((at_ (at_ (ws.set ((Zaw p.Labels s.Label).toNat) ((at_ ws ((Zaw p.Labels s.Label).toNat)).set t27.toNat ((at_ (at_ ws ((Zaw p.Labels s.Label).toNat)) t27.toNat) + (at_ v_1 t27.toNat)))) ((Zbk v_2).toNat)) t27.toNat) - (at_ v_1 t27.toNat))))), some (tAS p.Labels), some (Zbv 9203 ((ws.set ((Zaw p.Labels s.Label).toNat) ((at_ ws ((Zaw p.Labels s.Label).toNat)).set t27.toNat ((at_ (at_ ws ((Zaw p.Labels s.Label).toNat)) t27.toNat) + (at_ v_1 t27.toNat)))).set ((Zbk v_2).toNat) ((at_ (ws.set ((Zaw p.Labels s.Label).toNat) ((at_ ws ((Zaw p.Labels s.Label).toNat)).set t27.toNat ((at_ (at_ ws ((Zaw p.Labels s.Label).toNat)) t27.toNat) + (at_ v_1 t27.toNat)))) ((Zbk v_2).toNat)).set t27.toNat ((at_ (at_ (ws.set ((Zaw p.Labels s.Label).toNat) ((at_ ws ((Zaw p.Labels s.Label).toNat)).set t27.toNat ((at_ (at_ ws ((Zaw p.Labels s.Label).toNat)) t27.toNat) + (at_ v_1 t27.toNat)))) ((Zbk v_2).toNat)) t27.toNat) - (at_ v_1 t27.toNat)))))] [inR .i64 (t27 + 1)] ⟨(Zam (by omega) (by omega)), trivial⟩ ?_
     exact Zcj ((t27 + 1), ((ws.set ((Zaw p.Labels s.Label).toNat) ((at_ ws ((Zaw p.Labels s.Label).toNat)).set t27.toNat ((at_ (at_ ws ((Zaw p.Labels s.Label).toNat)) t27.toNat) + (at_ v_1 t27.toNat)))).set ((Zbk v_2).toNat) ((at_ (ws.set ((Zaw p.Labels s.Label).toNat) ((at_ ws ((Zaw p.Labels s.Label).toNat)).set t27.toNat ((at_ (at_ ws ((Zaw p.Labels s.Label).toNat)) t27.toNat) + (at_ v_1 t27.toNat)))) ((Zbk v_2).toNat)).set t27.toNat ((at_ (at_ (ws.set ((Zaw p.Labels s.Label).toNat) ((at_ ws ((Zaw p.Labels s.Label).toNat)).set t27.toNat ((at_ (at_ ws ((Zaw p.Labels s.Label).toNat)) t27.toNat) + (at_ v_1 t27.toNat)))) ((Zbk v_2).toNat)) t27.toNat) - (at_ v_1 t27.toNat))))) rfl (show (0 ≤ (t27 + 1) ∧ (t27 + 1) ≤ 25) ∧ (((ws.set ((Zaw p.Labels s.Label).toNat) ((at_ ws ((Zaw p.Labels s.Label).toNat)).set t27.toNat ((at_ (at_ ws ((Zaw p.Labels s.Label).toNat)) t27.toNat) + (at_ v_1 t27.toNat)))).set ((Zbk v_2).toNat) ((at_ (ws.set ((Zaw p.Labels s.Label).toNat) ((at_ ws ((Zaw p.Labels s.Label).toNat)).set t27.toNat ((at_ (at_ ws ((Zaw p.Labels s.Label).toNat)) t27.toNat) + (at_ v_1 t27.toNat)))) ((Zbk v_2).toNat)).set t27.toNat ((at_ (at_ (ws.set ((Zaw p.Labels s.Label).toNat) ((at_ ws ((Zaw p.Labels s.Label).toNat)).set t27.toNat ((at_ (at_ ws ((Zaw p.Labels s.Label).toNat)) t27.toNat) + (at_ v_1 t27.toNat)))) ((Zbk v_2).toNat)) t27.toNat) - (at_ v_1 t27.toNat)))) = Zgi p.Weights v_1 (Zaw p.Labels s.Label).toNat (Zbk v_2).toNat (t27 + 1).toNat) ∧ True from ⟨(by omega), (by rw [updW_1 hk0.1, ← hws]), trivial⟩) (by first | (show (((25 : Int) - (t27 + 1)).toNat : Nat) < ((25 : Int) - t27).toNat; omega) | (dsimp only; omega))
    have hie : t27.toNat = 25 := by omega
    rw [hie] at hws
    rw [hiv, hsv] at hws
    refine x_r [(0, .dec false)] [2, 6, 7, 25, 26, 27, 28] [2, 9203, 9241, 9242] [.ref 2 0, I (Zaw p.Labels s.Label), I (Zbk v_2), slI true v_1, I (v_1.length : Int), I t27, Bv false] [some (.box [.arr 9241, .arr 9242]), some (Zbm ws), some (tAS p.Labels), some (Zbv 9203 ws)] [¬ (t27 < (v_1.length : Int))] ⟨h2, trivial⟩ ?_
    refine Zab ?_
    refine Zap ?_
    refine Zbe rfl ?_
    refine Zeg ?_
    refine Zbs ?_
    refine Zbu ?_
    refine Zbt ?_
    refine Zab ?_
    refine xR [] [4] [9203, 9241, 9242] [Bv true] [some (Zbm ws), some (tAS p.Labels), some (Zbv 9203 ws)] [] trivial ?_
    refine Zcf ?_
    refine Zbn (true, p.Labels, ws) (show (p.Labels = p.Labels) ∧ ((ws, true) = trnR p s) ∧ (True) from ⟨(by first | rfl | exact (Ydb heq).symm | (rw [Ydc heq, hws])), (by first | rfl | exact (Ydb heq).symm | (rw [Ydc heq, hws])), trivial⟩) (⟨.inl rfl, .inl rfl, .inl rfl, trivial⟩) (Bv true) (by kernel_rfl) (.inl rfl) (fun _ => rfl) (fun _ => trivial)
  obtain ⟨⟨ch, p_Labels, p_Weights⟩, ⟨hh0, hh1, _⟩, hc⟩ := hh
  exact ⟨ch, p_Labels, p_Weights, hh0, hh1, hc⟩
theorem Zwu (p : Perceptron) (list : List Sample) (hp : Zbb p = true) (hl : ∀ j, j < list.length → (at_ list j).Label ∈ p.Labels ∧ Zbp (at_ list j).Feats 384 = true) (hll : list.length ≤ 1000) : ∃ (n : Int) (c : Int) (p_Labels : List ByteArray) (p_Weights : List (List Int)), (p_Labels = p.Labels) ∧ ((epR p list list.length).2 = (n, c)) ∧ (c = 0 → p_Weights = (epR p list list.length).1.Weights) ∧ Zaz Tryz.prog 53 [.agg [.arr 9241, .arr 9242], Zaj false list] (Zaf [(9241, tAS p.Labels), (9203, Zbm p.Weights), (9242, Zbv 9203 p.Weights)]) true (.tup [I n, I c]) (Zaf [(9241, tAS p_Labels), (9203, Zbm p_Weights), (9242, Zbv 9203 p_Weights)]) := by
  have hh : ∃ r : Int × Int × (List ByteArray) × (List (List Int)), ((r.2.2.1 = p.Labels) ∧ ((epR p list list.length).2 = (r.1, r.2.1)) ∧ (r.2.1 = 0 → r.2.2.2 = (epR p list list.length).1.Weights) ∧ (True)) ∧ Zaz Tryz.prog 53 [.agg [.arr 9241, .arr 9242], Zaj false list] (Zaf [(9241, tAS p.Labels), (9203, Zbm p.Weights), (9242, Zbv 9203 p.Weights)]) true (.tup [I r.1, I r.2.1]) (Zaf [(9241, tAS r.2.2.1), (9203, Zbm r.2.2.2), (9242, Zbv 9203 r.2.2.2)]) := by
    refine Zde (Φ := fun r : Int × Int × (List ByteArray) × (List (List Int)) => (r.2.2.1 = p.Labels) ∧ ((epR p list list.length).2 = (r.1, r.2.1)) ∧ (r.2.1 = 0 → r.2.2.2 = (epR p list list.length).1.Weights) ∧ (True)) [(9241, tAS p.Labels), (9203, Zbm p.Weights), (9242, Zbv 9203 p.Weights)] (fun r => [(9241, tAS r.2.2.1), (9203, Zbm r.2.2.2), (9242, Zbv 9203 r.2.2.2)]) (fn := Tryz.f53) (nt := 25) Tryz.func53 rfl rfl (args := [.agg [.arr 9241, .arr 9242], Zaj false list]) rfl (Zbw (.inr (by simp [Zak, Zah])) (Zbw (.inl ⟨rfl, Zdq false _⟩) Zdb)) (res := fun r => .tup [I r.1, I r.2.1]) ?_
    refine xR [(0, .new 2)] [1, 2] [2, 9203, 9241, 9242] [Zaj false list, .ref 2 0] [some (.box [.arr 9241, .arr 9242]), some (Zbm p.Weights), some (tAS p.Labels), some (Zbv 9203 p.Weights)] [] trivial ?_
    refine xR [] [1, 2, 6] [2, 9203, 9241, 9242] [Zaj false list, .ref 2 0, I 0] [some (.box [.arr 9241, .arr 9242]), some (Zbm p.Weights), some (tAS p.Labels), some (Zbv 9203 p.Weights)] [] trivial ?_
    refine Zap ?_
    refine xR [] [2, 6, 9, 10, 11] [2, 9203, 9241, 9242] [.ref 2 0, I 0, Zaj false list, I (list.length : Int), I 0] [some (.box [.arr 9241, .arr 9242]), some (Zbm p.Weights), some (tAS p.Labels), some (Zbv 9203 p.Weights)] [] trivial ?_
    refine Zbz ?_
    refine Zeh (X := Int × Int × (List (List Int)) × (List ByteArray)) (fun x => mkS [(2, .ref 2 0), (6, I x.1), (9, Zaj false list), (10, I (list.length : Int)), (11, I x.2.1)] [(2, .box [.arr 9241, .arr 9242]), (9203, Zbm x.2.2.1), (9241, tAS x.2.2.2), (9242, Zbv 9203 x.2.2.1)]) (fun x => (0 ≤ x.2.1 ∧ x.2.1 ≤ (list.length : Int)) ∧ (epR p list x.2.1.toNat = (Perceptron.mk x.2.2.2 x.2.2.1, x.1, 0)) ∧ (Zbb (Perceptron.mk x.2.2.2 x.2.2.1) = true) ∧ (x.2.2.2 = p.Labels) ∧ (0 ≤ x.1 ∧ x.1 ≤ x.2.1) ∧ True) (fun x => ((list.length : Int) - x.2.1).toNat) (0, 0, p.Weights, p.Labels) rfl (show (0 ≤ (0 : Int) ∧ (0 : Int) ≤ (list.length : Int)) ∧ (epR p list (0 : Int).toNat = (Perceptron.mk p.Labels p.Weights, (0 : Int), 0)) ∧ (Zbb (Perceptron.mk p.Labels p.Weights) = true) ∧ (p.Labels = p.Labels) ∧ (0 ≤ (0 : Int) ∧ (0 : Int) ≤ (0 : Int)) ∧ True from ⟨(by omega), (by rfl), (by exact hp), (by rfl), (by omega), trivial⟩) (fun x hI => ?_)
    obtain ⟨changes, t11, ws, ls⟩ := x
    obtain ⟨hi0, hep, hok, hlb, hnb, _⟩ : (0 ≤ t11 ∧ t11 ≤ (list.length : Int)) ∧ (epR p list t11.toNat = (Perceptron.mk ls ws, changes, 0)) ∧ (Zbb (Perceptron.mk ls ws) = true) ∧ (ls = p.Labels) ∧ (0 ≤ changes ∧ changes ≤ t11) ∧ True := hI
    show XW _ _ _ _ (mkS [(2, .ref 2 0), (6, I changes), (9, Zaj false list), (10, I (list.length : Int)), (11, I t11)] [(2, .box [.arr 9241, .arr 9242]), (9203, Zbm ws), (9241, tAS ls), (9242, Zbv 9203 ws)]) _ _
    refine Zap ?_
    by_cases h1 : t11 < (list.length : Int)
    ·have hi : t11.toNat < list.length := by omega
     have hsm := hl t11.toNat hi
     refine x_r [(0, .dec true)] [2, 6, 9, 10, 11, 12] [2, 9203, 9241, 9242] [.ref 2 0, I changes, Zaj false list, I (list.length : Int), I t11, Bv true] [some (.box [.arr 9241, .arr 9242]), some (Zbm ws), some (tAS ls), some (Zbv 9203 ws)] [t11 < (list.length : Int)] ⟨h1, trivial⟩ ?_
     refine Zab ?_
     refine Zap ?_
     refine Zbq rfl ?_
     refine Zca ?_
     refine Zab ?_
     refine Zap ?_
     refine Zbz ?_
     refine xR [(2, .new 8)] [2, 6, 8, 9, 10, 11] [2, 8, 9203, 9241, 9242] [.ref 2 0, I changes, .ref 8 0, Zaj false list, I (list.length : Int), I t11] [some (.box [.arr 9241, .arr 9242]), some (Zfq (at_ list t11.toNat)), some (Zbm ws), some (tAS ls), some (Zbv 9203 ws)] [(0 : Int) ≤ t11 ∧ t11 < (list.length : Int)] ⟨⟨(by omega), (by omega)⟩, trivial⟩ ?_
     refine Zap ?_
     refine Zap ?_
     obtain ⟨ch_1, pLabels_1, pWeights_1, hx1_0, hx1_1, hc1⟩ := train_ok (Perceptron.mk ls ws) (at_ list t11.toNat) hok (by show _ ∈ ls; rw [hlb]; exact hsm.1) hsm.2
     have htl : pLabels_1 = ls := hx1_0
     have htn := trn_step hok hx1_1
     simp only at htn
     rcases Bool.eq_false_or_eq_true ch_1 with h2 | h2
     ·subst h2
      refine x_r [(2, .lend [(9241, tAS ls, tAS pLabels_1), (9203, Zbm ws, Zbm pWeights_1), (9242, Zbv 9203 ws, Zbv 9203 pWeights_1)] [] [(true, .any), (true, .any)] true (Bv true))] [2, 6, 9, 10, 11, 17] [2, 9203, 9241, 9242] [.ref 2 0, I changes, Zaj false list, I (list.length : Int), I t11, Bv true] [some (.box [.arr 9241, .arr 9242]), some (Zbm pWeights_1), some (tAS pLabels_1), some (Zbv 9203 pWeights_1)] [Zaz Tryz.prog 93 [.agg [.arr 9241, .arr 9242], Zcy (at_ list t11.toNat)] (Zaf [(9241, tAS ls), (9203, Zbm ws), (9242, Zbv 9203 ws)]) true (Bv true) (Zaf [(9241, tAS pLabels_1), (9203, Zbm pWeights_1), (9242, Zbv 9203 pWeights_1)]) ∧ (((tAS ls : Ob) = tAS ls ∨ Zeu Zel true (tAS ls) (tAS ls)) ∧ Zar false (tAS ls)) ∧ (((Zbm ws : Ob) = Zbm ws ∨ Zeu Zel true (Zbm ws) (Zbm ws)) ∧ Zar false (Zbm ws)) ∧ (((Zbv 9203 ws : Ob) = Zbv 9203 ws ∨ Zeu Zel true (Zbv 9203 ws) (Zbv 9203 ws)) ∧ Zar false (Zbv 9203 ws)) ∧ True] ⟨⟨hc1, ⟨.inl rfl, fun _ _ => tagcS false _⟩, ⟨.inl rfl, (fun _ _ _ _ => tagcI false _)⟩, ⟨.inl rfl, (by intro i_ _; simp [oLI, oLIc, Zah, Zak])⟩, trivial⟩, trivial⟩ ?_
      refine Zab ?_
      refine Zbq rfl ?_
      refine x_r [] [2, 6, 9, 10, 11] [2, 9203, 9241, 9242] [.ref 2 0, I (changes + 1), Zaj false list, I (list.length : Int), I t11] [some (.box [.arr 9241, .arr 9242]), some (Zbm pWeights_1), some (tAS pLabels_1), some (Zbv 9203 pWeights_1)] [inR .i64 (changes + 1)] ⟨(Zam (by omega) (by omega)), trivial⟩ ?_
      refine Zab ?_
      refine Zap ?_
      rcases Bool.eq_false_or_eq_true (Zbb (Perceptron.mk pLabels_1 pWeights_1)) with h3 | h3
      ·have hpk : Zbb (Perceptron.mk ls pWeights_1) = true := by rw [← htl]; exact h3
       have hst := htn.1 hpk
       have hgo := Ydm hi0.1 hep (by rw [hst])
       rw [hst] at hgo
       refine x_r [(1, .call [(false, .agg [slS false pLabels_1, Zbg false pWeights_1])] true (Bv true))] [2, 6, 9, 10, 11, 22] [2, 9203, 9241, 9242] [.ref 2 0, I (changes + 1), Zaj false list, I (list.length : Int), I t11, Bv false] [some (.box [.arr 9241, .arr 9242]), some (Zbm pWeights_1), some (tAS pLabels_1), some (Zbv 9203 pWeights_1)] [Con Tryz.prog 14 [.agg [slS false pLabels_1, Zbg false pWeights_1]] true (Bv true) ∧ (((false = true → true = true) ∧ 1 = 1 ∧ pLabels_1.length = pLabels_1.length ∧ ∀ i_, i_ < pLabels_1.length → (fS pLabels_1) i_ = (fS pLabels_1) i_ ∨ (AV.idsL ((fS pLabels_1) i_) = [] ∧ leL (fun _ => none) false ((fS pLabels_1) i_) ((fS pLabels_1) i_))) ∧ ((false = true → true = true) ∧ 1 = 1 ∧ pWeights_1.length = pWeights_1.length ∧ ∀ i_, i_ < pWeights_1.length → AV.idsL ((fLI false pWeights_1) i_) = [] ∧ leL (Zaf [(9203, Zbm pWeights_1)]) true ((oLI 9203 pWeights_1) i_) ((fLI false pWeights_1) i_)) ∧ ([] : List AV) = []) ∧ True] ⟨⟨(Zaq h3 (Zbl (Perceptron.mk pLabels_1 pWeights_1) (fun y hy => Zno hok y (by rw [htl] at hy; exact hy)))), ⟨⟨(fun h => by cases h), rfl, rfl, fun i _ => .inl rfl⟩, ⟨⟨(fun h => by cases h), rfl, rfl, Zfw _ _ rfl⟩, rfl⟩⟩, trivial⟩, trivial⟩ ?_
       refine Zab ?_
       refine Zbe rfl ?_
       refine Zca ?_
       refine Zbr 1 ?_
       refine Zab ?_
       refine x_r [] [2, 6, 9, 10, 11] [2, 9203, 9241, 9242] [.ref 2 0, I (changes + 1), Zaj false list, I (list.length : Int), I (t11 + 1)] [some (.box [.arr 9241, .arr 9242]), some (Zbm pWeights_1), some (tAS pLabels_1), some (Zbv 9203 pWeights_1)] [inR .i64 (t11 + 1)] ⟨(Zam (by omega) (by omega)), trivial⟩ ?_
       exact Zcj ((changes + 1), (t11 + 1), pWeights_1, pLabels_1) rfl (show (0 ≤ (t11 + 1) ∧ (t11 + 1) ≤ (list.length : Int)) ∧ (epR p list (t11 + 1).toNat = (Perceptron.mk pLabels_1 pWeights_1, (changes + 1), 0)) ∧ (Zbb (Perceptron.mk pLabels_1 pWeights_1) = true) ∧ (pLabels_1 = p.Labels) ∧ (0 ≤ (changes + 1) ∧ (changes + 1) ≤ (t11 + 1)) ∧ True from ⟨(by omega), (by (rw [htl]; first | (rw [hgo]; rfl) | (rw [hgo]; simp [*]; done))), (by (rw [htl]; exact hpk)), (by exact htl.trans hlb), (by omega), trivial⟩) (by first | (show (((list.length : Int) - (t11 + 1)).toNat : Nat) < ((list.length : Int) - t11).toNat; omega) | (dsimp only; omega))
      have hpk : Zbb (Perceptron.mk ls pWeights_1) = false := by rw [← htl]; exact h3
      have hst := htn.2 hpk
      have hend := Zsr (m := list.length) hep (by rw [hst]; decide) hi
      rw [hst] at hend
      refine x_r [(1, .call [(false, .agg [slS false pLabels_1, Zbg false pWeights_1])] true (Bv false))] [2, 6, 9, 10, 11, 22] [2, 9203, 9241, 9242] [.ref 2 0, I (changes + 1), Zaj false list, I (list.length : Int), I t11, Bv true] [some (.box [.arr 9241, .arr 9242]), some (Zbm pWeights_1), some (tAS pLabels_1), some (Zbv 9203 pWeights_1)] [Con Tryz.prog 14 [.agg [slS false pLabels_1, Zbg false pWeights_1]] true (Bv false) ∧ (((false = true → true = true) ∧ 1 = 1 ∧ pLabels_1.length = pLabels_1.length ∧ ∀ i_, i_ < pLabels_1.length → (fS pLabels_1) i_ = (fS pLabels_1) i_ ∨ (AV.idsL ((fS pLabels_1) i_) = [] ∧ leL (fun _ => none) false ((fS pLabels_1) i_) ((fS pLabels_1) i_))) ∧ ((false = true → true = true) ∧ 1 = 1 ∧ pWeights_1.length = pWeights_1.length ∧ ∀ i_, i_ < pWeights_1.length → AV.idsL ((fLI false pWeights_1) i_) = [] ∧ leL (Zaf [(9203, Zbm pWeights_1)]) true ((oLI 9203 pWeights_1) i_) ((fLI false pWeights_1) i_)) ∧ ([] : List AV) = []) ∧ True] ⟨⟨(Zaq h3 (Zbl (Perceptron.mk pLabels_1 pWeights_1) (fun y hy => Zno hok y (by rw [htl] at hy; exact hy)))), ⟨⟨(fun h => by cases h), rfl, rfl, fun i _ => .inl rfl⟩, ⟨⟨(fun h => by cases h), rfl, rfl, Zfw _ _ rfl⟩, rfl⟩⟩, trivial⟩, trivial⟩ ?_
      refine Zab ?_
      refine Zbq rfl ?_
      refine xR [] [4, 5] [9203, 9241, 9242] [I 0, I 5] [some (Zbm pWeights_1), some (tAS pLabels_1), some (Zbv 9203 pWeights_1)] [] trivial ?_
      refine Zcf ?_
      refine Zdh (Zbd (Zfu (Zdh (Zbd ?_))))
      refine Zbn (0, 5, pLabels_1, pWeights_1) (show (pLabels_1 = p.Labels) ∧ ((epR p list list.length).2 = (0, 5)) ∧ (5 = 0 → pWeights_1 = (epR p list list.length).1.Weights) ∧ (True) from ⟨(by first | exact hlb | exact htl.trans hlb | (rw [hep]; done) | (rw [hend]; done) | (intro _; rw [hep]) | (intro q; exact absurd q (by decide))), (by first | exact hlb | exact htl.trans hlb | (rw [hep]; done) | (rw [hend]; done) | (intro _; rw [hep]) | (intro q; exact absurd q (by decide))), (by first | exact hlb | exact htl.trans hlb | (rw [hep]; done) | (rw [hend]; done) | (intro _; rw [hep]) | (intro q; exact absurd q (by decide))), trivial⟩) (⟨.inl rfl, .inl rfl, .inl rfl, trivial⟩) (.tup [I 0, I 5]) (by kernel_rfl) (.inl rfl) (fun _ => rfl) (fun _ => (by simp [Zak, Zah]))
     subst h2
     refine x_r [(2, .lend [(9241, tAS ls, tAS pLabels_1), (9203, Zbm ws, Zbm pWeights_1), (9242, Zbv 9203 ws, Zbv 9203 pWeights_1)] [] [(true, .any), (true, .any)] true (Bv false))] [2, 6, 9, 10, 11, 17] [2, 9203, 9241, 9242] [.ref 2 0, I changes, Zaj false list, I (list.length : Int), I t11, Bv false] [some (.box [.arr 9241, .arr 9242]), some (Zbm pWeights_1), some (tAS pLabels_1), some (Zbv 9203 pWeights_1)] [Zaz Tryz.prog 93 [.agg [.arr 9241, .arr 9242], Zcy (at_ list t11.toNat)] (Zaf [(9241, tAS ls), (9203, Zbm ws), (9242, Zbv 9203 ws)]) true (Bv false) (Zaf [(9241, tAS pLabels_1), (9203, Zbm pWeights_1), (9242, Zbv 9203 pWeights_1)]) ∧ (((tAS ls : Ob) = tAS ls ∨ Zeu Zel true (tAS ls) (tAS ls)) ∧ Zar false (tAS ls)) ∧ (((Zbm ws : Ob) = Zbm ws ∨ Zeu Zel true (Zbm ws) (Zbm ws)) ∧ Zar false (Zbm ws)) ∧ (((Zbv 9203 ws : Ob) = Zbv 9203 ws ∨ Zeu Zel true (Zbv 9203 ws) (Zbv 9203 ws)) ∧ Zar false (Zbv 9203 ws)) ∧ True] ⟨⟨hc1, ⟨.inl rfl, fun _ _ => tagcS false _⟩, ⟨.inl rfl, (fun _ _ _ _ => tagcI false _)⟩, ⟨.inl rfl, (by intro i_ _; simp [oLI, oLIc, Zah, Zak])⟩, trivial⟩, trivial⟩ ?_
     refine Zab ?_
     refine Zbe rfl ?_
     refine Zca ?_
     refine Zab ?_
     refine Zap ?_
     rcases Bool.eq_false_or_eq_true (Zbb (Perceptron.mk pLabels_1 pWeights_1)) with h4 | h4
     ·have hpk : Zbb (Perceptron.mk ls pWeights_1) = true := by rw [← htl]; exact h4
      have hst := htn.1 hpk
      have hgo := Ydm hi0.1 hep (by rw [hst])
      rw [hst] at hgo
      refine x_r [(1, .call [(false, .agg [slS false pLabels_1, Zbg false pWeights_1])] true (Bv true))] [2, 6, 9, 10, 11, 22] [2, 9203, 9241, 9242] [.ref 2 0, I changes, Zaj false list, I (list.length : Int), I t11, Bv false] [some (.box [.arr 9241, .arr 9242]), some (Zbm pWeights_1), some (tAS pLabels_1), some (Zbv 9203 pWeights_1)] [Con Tryz.prog 14 [.agg [slS false pLabels_1, Zbg false pWeights_1]] true (Bv true) ∧ (((false = true → true = true) ∧ 1 = 1 ∧ pLabels_1.length = pLabels_1.length ∧ ∀ i_, i_ < pLabels_1.length → (fS pLabels_1) i_ = (fS pLabels_1) i_ ∨ (AV.idsL ((fS pLabels_1) i_) = [] ∧ leL (fun _ => none) false ((fS pLabels_1) i_) ((fS pLabels_1) i_))) ∧ ((false = true → true = true) ∧ 1 = 1 ∧ pWeights_1.length = pWeights_1.length ∧ ∀ i_, i_ < pWeights_1.length → AV.idsL ((fLI false pWeights_1) i_) = [] ∧ leL (Zaf [(9203, Zbm pWeights_1)]) true ((oLI 9203 pWeights_1) i_) ((fLI false pWeights_1) i_)) ∧ ([] : List AV) = []) ∧ True] ⟨⟨(Zaq h4 (Zbl (Perceptron.mk pLabels_1 pWeights_1) (fun y hy => Zno hok y (by rw [htl] at hy; exact hy)))), ⟨⟨(fun h => by cases h), rfl, rfl, fun i _ => .inl rfl⟩, ⟨⟨(fun h => by cases h), rfl, rfl, Zfw _ _ rfl⟩, rfl⟩⟩, trivial⟩, trivial⟩ ?_
      refine Zab ?_
      refine Zbe rfl ?_
      refine Zca ?_
      refine Zbr 1 ?_
      refine Zab ?_
      refine x_r [] [2, 6, 9, 10, 11] [2, 9203, 9241, 9242] [.ref 2 0, I changes, Zaj false list, I (list.length : Int), I (t11 + 1)] [some (.box [.arr 9241, .arr 9242]), some (Zbm pWeights_1), some (tAS pLabels_1), some (Zbv 9203 pWeights_1)] [inR .i64 (t11 + 1)] ⟨(Zam (by omega) (by omega)), trivial⟩ ?_
      exact Zcj (changes, (t11 + 1), pWeights_1, pLabels_1) rfl (show (0 ≤ (t11 + 1) ∧ (t11 + 1) ≤ (list.length : Int)) ∧ (epR p list (t11 + 1).toNat = (Perceptron.mk pLabels_1 pWeights_1, changes, 0)) ∧ (Zbb (Perceptron.mk pLabels_1 pWeights_1) = true) ∧ (pLabels_1 = p.Labels) ∧ (0 ≤ changes ∧ changes ≤ (t11 + 1)) ∧ True from ⟨(by omega), (by (rw [htl]; first | (rw [hgo]; rfl) | (rw [hgo]; simp [*]; done))), (by (rw [htl]; exact hpk)), (by exact htl.trans hlb), (by omega), trivial⟩) (by first | (show (((list.length : Int) - (t11 + 1)).toNat : Nat) < ((list.length : Int) - t11).toNat; omega) | (dsimp only; omega))
     have hpk : Zbb (Perceptron.mk ls pWeights_1) = false := by rw [← htl]; exact h4
     have hst := htn.2 hpk
     have hend := Zsr (m := list.length) hep (by rw [hst]; decide) hi
     rw [hst] at hend
     refine x_r [(1, .call [(false, .agg [slS false pLabels_1, Zbg false pWeights_1])] true (Bv false))] [2, 6, 9, 10, 11, 22] [2, 9203, 9241, 9242] [.ref 2 0, I changes, Zaj false list, I (list.length : Int), I t11, Bv true] [some (.box [.arr 9241, .arr 9242]), some (Zbm pWeights_1), some (tAS pLabels_1), some (Zbv 9203 pWeights_1)] [Con Tryz.prog 14 [.agg [slS false pLabels_1, Zbg false pWeights_1]] true (Bv false) ∧ (((false = true → true = true) ∧ 1 = 1 ∧ pLabels_1.length = pLabels_1.length ∧ ∀ i_, i_ < pLabels_1.length → (fS pLabels_1) i_ = (fS pLabels_1) i_ ∨ (AV.idsL ((fS pLabels_1) i_) = [] ∧ leL (fun _ => none) false ((fS pLabels_1) i_) ((fS pLabels_1) i_))) ∧ ((false = true → true = true) ∧ 1 = 1 ∧ pWeights_1.length = pWeights_1.length ∧ ∀ i_, i_ < pWeights_1.length → AV.idsL ((fLI false pWeights_1) i_) = [] ∧ leL (Zaf [(9203, Zbm pWeights_1)]) true ((oLI 9203 pWeights_1) i_) ((fLI false pWeights_1) i_)) ∧ ([] : List AV) = []) ∧ True] ⟨⟨(Zaq h4 (Zbl (Perceptron.mk pLabels_1 pWeights_1) (fun y hy => Zno hok y (by rw [htl] at hy; exact hy)))), ⟨⟨(fun h => by cases h), rfl, rfl, fun i _ => .inl rfl⟩, ⟨⟨(fun h => by cases h), rfl, rfl, Zfw _ _ rfl⟩, rfl⟩⟩, trivial⟩, trivial⟩ ?_
     refine Zab ?_
     refine Zbq rfl ?_
     refine xR [] [4, 5] [9203, 9241, 9242] [I 0, I 5] [some (Zbm pWeights_1), some (tAS pLabels_1), some (Zbv 9203 pWeights_1)] [] trivial ?_
     refine Zcf ?_
     refine Zdh (Zbd (Zfu (Zdh (Zbd ?_))))
     refine Zbn (0, 5, pLabels_1, pWeights_1) (show (pLabels_1 = p.Labels) ∧ ((epR p list list.length).2 = (0, 5)) ∧ (5 = 0 → pWeights_1 = (epR p list list.length).1.Weights) ∧ (True) from ⟨(by first | exact hlb | exact htl.trans hlb | (rw [hep]; done) | (rw [hend]; done) | (intro _; rw [hep]) | (intro q; exact absurd q (by decide))), (by first | exact hlb | exact htl.trans hlb | (rw [hep]; done) | (rw [hend]; done) | (intro _; rw [hep]) | (intro q; exact absurd q (by decide))), (by first | exact hlb | exact htl.trans hlb | (rw [hep]; done) | (rw [hend]; done) | (intro _; rw [hep]) | (intro q; exact absurd q (by decide))), trivial⟩) (⟨.inl rfl, .inl rfl, .inl rfl, trivial⟩) (.tup [I 0, I 5]) (by kernel_rfl) (.inl rfl) (fun _ => rfl) (fun _ => (by simp [Zak, Zah]))
    have hie : t11.toNat = list.length := by omega
    rw [hie] at hep
    refine x_r [(0, .dec false)] [2, 6, 9, 10, 11, 12] [2, 9203, 9241, 9242] [.ref 2 0, I changes, Zaj false list, I (list.length : Int), I t11, Bv false] [some (.box [.arr 9241, .arr 9242]), some (Zbm ws), some (tAS ls), some (Zbv 9203 ws)] [¬ (t11 < (list.length : Int))] ⟨h1, trivial⟩ ?_
    refine Zab ?_
    refine Zap ?_
    refine Zbe rfl ?_
    refine Zeg ?_
    refine Zbs ?_
    refine Zbu ?_
    refine Zbt ?_
    refine Zab ?_
    refine xR [] [4, 5] [9203, 9241, 9242] [I changes, I 0] [some (Zbm ws), some (tAS ls), some (Zbv 9203 ws)] [] trivial ?_
    refine Zcf ?_
    refine Zbn (changes, 0, ls, ws) (show (ls = p.Labels) ∧ ((epR p list list.length).2 = (changes, 0)) ∧ (0 = 0 → ws = (epR p list list.length).1.Weights) ∧ (True) from ⟨(by first | exact hlb | exact htl.trans hlb | (rw [hep]; done) | (rw [hend]; done) | (intro _; rw [hep]) | (intro q; exact absurd q (by decide))), (by first | exact hlb | exact htl.trans hlb | (rw [hep]; done) | (rw [hend]; done) | (intro _; rw [hep]) | (intro q; exact absurd q (by decide))), (by first | exact hlb | exact htl.trans hlb | (rw [hep]; done) | (rw [hend]; done) | (intro _; rw [hep]) | (intro q; exact absurd q (by decide))), trivial⟩) (⟨.inl rfl, .inl rfl, .inl rfl, trivial⟩) (.tup [I changes, I 0]) (by kernel_rfl) (.inl rfl) (fun _ => rfl) (fun _ => (by simp [Zak, Zah]))
  obtain ⟨⟨n, c, p_Labels, p_Weights⟩, ⟨hh0, hh1, hh2, _⟩, hc⟩ := hh
  exact ⟨n, c, p_Labels, p_Weights, hh0, hh1, hh2, hc⟩
theorem Zme (p : Perceptron) (list : List Sample) (ok : ∀ y ∈ p.Labels, y.size ≤ 9223372036854775807) (ok2 : ∀ y ∈ list, y.Label.size ≤ 9223372036854775807) : ∃ (v : Perceptron) (n : Int) (c : Int), ((v, n, c) = Zow p list) ∧ Con Tryz.prog 20 [Zae p, Zaj false list] true (.tup [Zan v, I n, I c]) := by
  have hh : ∃ r : Perceptron × Int × Int, (((r.1, r.2.1, r.2.2) = Zow p list) ∧ (True)) ∧ Zaz Tryz.prog 20 [Zae p, Zaj false list] (Zaf []) true (.tup [Zan r.1, I r.2.1, I r.2.2]) (Zaf []) := by
    refine Zde (Φ := fun r : Perceptron × Int × Int => ((r.1, r.2.1, r.2.2) = Zow p list) ∧ (True)) [] (fun r => []) (fn := Tryz.f20) (nt := 32) Tryz.func20 rfl rfl (args := [Zae p, Zaj false list]) rfl (Zbw (.inl ⟨rfl, by simp [Zak, Zah, Zdd, Zer]⟩) (Zbw (.inl ⟨rfl, Zdq false _⟩) Zdb)) (res := fun r => .tup [Zan r.1, I r.2.1, I r.2.2]) ?_
    refine xR [(0, .new 2), (1, .new 4)] [1, 2, 4] [2, 4] [Zaj false list, .ref 2 0, .ref 4 0] [some (Zag p), some (.box [Zao, Zao])] [] trivial ?_
    refine Zap ?_
    refine xR [(2, .call [(true, .any), (true, .any)] true (I (cdR p list)))] [1, 2, 4, 7] [2, 4] [Zaj false list, .ref 2 0, .ref 4 0, I (cdR p list)] [some (Zag p), some (.box [Zao, Zao])] [Con Tryz.prog 51 [Zae p, Zaj false list] true (I (cdR p list)) ∧ True] ⟨⟨(Zun p list ok ok2), trivial⟩, trivial⟩ ?_
    refine Zap ?_
    by_cases h1 : (cdR p list) = 0
    ·have hc0 := h1
     have hcd := cd_ok hc0
     have hll := hcd.2.2
     refine x_r [(1, .dec false)] [1, 2, 4, 7, 15] [2, 4] [Zaj false list, .ref 2 0, .ref 4 0, I (cdR p list), Bv false] [some (Zag p), some (.box [Zao, Zao])] [¬ ((cdR p list) ≠ 0)] ⟨(fun hq => hq h1), trivial⟩ ?_
     refine Zab ?_
     refine Zbe rfl ?_
     refine Zca ?_
     refine Zab ?_
     refine Zap ?_
     obtain ⟨ls_1, ws_1, hx1_0, hx1_1, hc1⟩ := Zmd p (Ydn hcd.1)
     have hls : ls_1 = p.Labels := hx1_0
     have how : ws_1 = p.Weights := hx1_1
     have hpp : Perceptron.mk ls_1 ws_1 = p := by rw [hls, how]
     refine x_r [(1, .lend [] [(9251, tAS ls_1), (9203, Zbm ws_1), (9252, Zbv 9203 ws_1)] [(true, .any)] false (.agg [.arr 9251, .arr 9252])), (2, .new 8)] [1, 4, 8] [4, 8, 9203, 9251, 9252] [Zaj false list, .ref 4 0, .ref 8 0] [some (.box [Zao, Zao]), some (.box [.arr 9251, .arr 9252]), some (Zbm ws_1), some (tAS ls_1), some (Zbv 9203 ws_1)] [Zaz Tryz.prog 52 [Zae p] (Zaf []) false (.agg [.arr 9251, .arr 9252]) (Zaf [(9251, tAS ls_1), (9203, Zbm ws_1), (9252, Zbv 9203 ws_1)]) ∧ True] ⟨⟨hc1, trivial⟩, trivial⟩ ?_
     refine Zab ?_
     refine Zap ?_
     refine Zcz [(9241, 9251), (9242, 9252)] (T := [(1, Zaj false list), (4, .ref 4 0), (8, .ref 8 0)]) (O := [(4, .box [Zao, Zao]), (8, .box [.arr 9241, .arr 9242]), (9203, Zbm ws_1), (9241, tAS ls_1), (9242, Zbv 9203 ws_1)]) rfl (⟨.inl rfl, .inl rfl, .inl rfl, trivial⟩) (⟨.inl rfl, .inl rfl, .inl rfl, .inl rfl, .inl rfl, trivial⟩) ?_
     obtain ⟨n_2, c_2, pLabels_2, pWeights_2, hx2_0, hx2_1, hx2_2, hc2⟩ := Zwu (Perceptron.mk ls_1 ws_1) list (by rw [hpp]; exact hcd.1) (fun j hj => by rw [hpp]; exact (hcd.2.1 j hj).2) (by omega)
     have ht1 := hx2_0
     have ht2 := hx2_1
     have ht3 := hx2_2
     rw [hpp] at ht2 ht3
     simp only at ht1
     have hye := Ydd hc0
     refine x_r [(2, .lend [(9241, tAS ls_1, tAS pLabels_2), (9203, Zbm ws_1, Zbm pWeights_2), (9242, Zbv 9203 ws_1, Zbv 9203 pWeights_2)] [] [(true, .any), (true, .any)] true (.tup [I n_2, I c_2]))] [4, 8, 9, 10] [4, 8, 9203, 9241, 9242] [.ref 4 0, .ref 8 0, I n_2, I c_2] [some (.box [Zao, Zao]), some (.box [.arr 9241, .arr 9242]), some (Zbm pWeights_2), some (tAS pLabels_2), some (Zbv 9203 pWeights_2)] [Zaz Tryz.prog 53 [.agg [.arr 9241, .arr 9242], Zaj false list] (Zaf [(9241, tAS ls_1), (9203, Zbm ws_1), (9242, Zbv 9203 ws_1)]) true (.tup [I n_2, I c_2]) (Zaf [(9241, tAS pLabels_2), (9203, Zbm pWeights_2), (9242, Zbv 9203 pWeights_2)]) ∧ (((tAS ls_1 : Ob) = tAS ls_1 ∨ Zeu Zel true (tAS ls_1) (tAS ls_1)) ∧ Zar false (tAS ls_1)) ∧ (((Zbm ws_1 : Ob) = Zbm ws_1 ∨ Zeu Zel true (Zbm ws_1) (Zbm ws_1)) ∧ Zar false (Zbm ws_1)) ∧ (((Zbv 9203 ws_1 : Ob) = Zbv 9203 ws_1 ∨ Zeu Zel true (Zbv 9203 ws_1) (Zbv 9203 ws_1)) ∧ Zar false (Zbv 9203 ws_1)) ∧ True] ⟨⟨hc2, ⟨.inl rfl, fun _ _ => tagcS false _⟩, ⟨.inl rfl, (fun _ _ _ _ => tagcI false _)⟩, ⟨.inl rfl, (by intro i_ _; simp [oLI, oLIc, Zah, Zak])⟩, trivial⟩, trivial⟩ ?_
     refine Zab ?_
     refine Zap ?_
     refine Zap ?_
     by_cases h2 : c_2 = 0
     ·have hz := h2
      refine x_r [(1, .dec false)] [4, 8, 9, 10, 27] [4, 8, 9203, 9241, 9242] [.ref 4 0, .ref 8 0, I n_2, I c_2, Bv false] [some (.box [Zao, Zao]), some (.box [.arr 9241, .arr 9242]), some (Zbm pWeights_2), some (tAS pLabels_2), some (Zbv 9203 pWeights_2)] [¬ (c_2 ≠ 0)] ⟨(fun hq => hq h2), trivial⟩ ?_
      refine Zab ?_
      refine Zbe rfl ?_
      refine Zca ?_
      refine Zab ?_
      refine xR [] [4, 5, 6] [4, 9203, 9241, 9242] [.ref 4 0, I n_2, I 0] [some (.box [.arr 9241, .arr 9242]), some (Zbm pWeights_2), some (tAS pLabels_2), some (Zbv 9203 pWeights_2)] [] trivial ?_
      refine Zcf ?_
      refine Zbn ((Perceptron.mk pLabels_2 pWeights_2), n_2, 0) (show (((Perceptron.mk pLabels_2 pWeights_2), n_2, 0) = Zow p list) ∧ (True) from ⟨(by first | exact hno.symm | (rw [hye]; exact Zwr ht2 hz) | (rw [hye]; exact Ydg hcd.1 (ht1.trans hls) ht2 ht3 hz)), trivial⟩) (trivial) (.tup [.agg [.arr 9241, .arr 9242], I n_2, I 0]) (by kernel_rfl) (.inr ⟨⟨⟨(fun _ => rfl), rfl, rfl, fun i _ => .inl rfl⟩, ⟨⟨(fun _ => rfl), rfl, rfl, Zfw _ _ rfl⟩, rfl⟩⟩, ⟨rfl, ⟨rfl, rfl⟩⟩⟩) (fun _ => rfl) (fun _ => (by simp [Zak, Zah, Zdd, Zer]))
     have hz := h2
     refine x_r [(1, .dec true)] [4, 8, 9, 10, 27] [4, 8, 9203, 9241, 9242] [.ref 4 0, .ref 8 0, I n_2, I c_2, Bv true] [some (.box [Zao, Zao]), some (.box [.arr 9241, .arr 9242]), some (Zbm pWeights_2), some (tAS pLabels_2), some (Zbv 9203 pWeights_2)] [c_2 ≠ 0] ⟨h2, trivial⟩ ?_
     refine Zab ?_
     refine Zbq rfl ?_
     refine xR [] [4, 5, 6] [4] [.ref 4 0, I 0, I c_2] [some (.box [Zao, Zao])] [] trivial ?_
     refine Zcf ?_
     refine Zbd ?_
     refine Zbn ((Perceptron.mk ([] : List ByteArray) ([] : List (List Int))), 0, c_2) (show (((Perceptron.mk ([] : List ByteArray) ([] : List (List Int))), 0, c_2) = Zow p list) ∧ (True) from ⟨(by first | exact hno.symm | (rw [hye]; exact Zwr ht2 hz) | (rw [hye]; exact Ydg hcd.1 (ht1.trans hls) ht2 ht3 hz)), trivial⟩) (trivial) (.tup [.agg [Zao, Zao], I 0, I c_2]) (by kernel_rfl) (.inr ⟨⟨⟨rfl, rfl⟩, ⟨⟨rfl, rfl⟩, rfl⟩⟩, ⟨rfl, ⟨rfl, rfl⟩⟩⟩) (fun _ => rfl) (fun _ => (by simp [Zak, Zah, Zdd, Zer]))
    have hno := tep_no h1
    refine x_r [(1, .dec true)] [1, 2, 4, 7, 15] [2, 4] [Zaj false list, .ref 2 0, .ref 4 0, I (cdR p list), Bv true] [some (Zag p), some (.box [Zao, Zao])] [(cdR p list) ≠ 0] ⟨h1, trivial⟩ ?_
    refine Zab ?_
    refine Zbq rfl ?_
    refine xR [] [4, 5, 6] [4] [.ref 4 0, I 0, I (cdR p list)] [some (.box [Zao, Zao])] [] trivial ?_
    refine Zcf ?_
    refine Zbd ?_
    refine Zbn ((Perceptron.mk ([] : List ByteArray) ([] : List (List Int))), 0, (cdR p list)) (show (((Perceptron.mk ([] : List ByteArray) ([] : List (List Int))), 0, (cdR p list)) = Zow p list) ∧ (True) from ⟨(by first | exact hno.symm | (rw [hye]; exact Zwr ht2 hz) | (rw [hye]; exact Ydg hcd.1 (ht1.trans hls) ht2 ht3 hz)), trivial⟩) (trivial) (.tup [.agg [Zao, Zao], I 0, I (cdR p list)]) (by kernel_rfl) (.inr ⟨⟨⟨rfl, rfl⟩, ⟨⟨rfl, rfl⟩, rfl⟩⟩, ⟨rfl, ⟨rfl, rfl⟩⟩⟩) (fun _ => rfl) (fun _ => (by simp [Zak, Zah, Zdd, Zer]))
  obtain ⟨⟨v, n, c⟩, ⟨hh0, _⟩, hc⟩ := hh
  exact ⟨v, n, c, hh0, hc⟩
theorem Znl (p : Perceptron) (s : Sample) (ok : ∀ y ∈ p.Labels, y.size ≤ 9223372036854775807) (hz : s.Label.size ≤ 9223372036854775807) : ∃ (v : Perceptron) (ch : Bool) (c : Int), (v = (Zow p [s]).1 ∧ ch = decide (0 < (Zow p [s]).2.1) ∧ c = (Zow p [s]).2.2) ∧ Con Tryz.prog 6 [Zae p, Zcy s] true (.tup [Zan v, Bv ch, I c]) := by
  have hh : ∃ r : Perceptron × Bool × Int, ((r.1 = (Zow p [s]).1 ∧ r.2.1 = decide (0 < (Zow p [s]).2.1) ∧ r.2.2 = (Zow p [s]).2.2) ∧ (True)) ∧ Zaz Tryz.prog 6 [Zae p, Zcy s] (Zaf []) true (.tup [Zan r.1, Bv r.2.1, I r.2.2]) (Zaf []) := by
    refine Zde (Φ := fun r : Perceptron × Bool × Int => (r.1 = (Zow p [s]).1 ∧ r.2.1 = decide (0 < (Zow p [s]).2.1) ∧ r.2.2 = (Zow p [s]).2.2) ∧ (True)) [] (fun r => []) (fn := Tryz.f6) (nt := 22) Tryz.func6 rfl rfl (args := [Zae p, Zcy s]) rfl (Zbw (.inl ⟨rfl, by simp [Zak, Zah, Zdd, Zer]⟩) (Zbw (.inl ⟨rfl, by simp [Zak, Zah, Zef]⟩) Zdb)) (res := fun r => .tup [Zan r.1, Bv r.2.1, I r.2.2]) ?_
    refine xR [(0, .new 2), (1, .new 3), (2, .new 4)] [2, 3, 4] [2, 3, 4] [.ref 2 0, .ref 3 0, .ref 4 0] [some (Zag p), some (Zfq s), some (.box [Zao, Zao])] [] trivial ?_
    refine Zap ?_
    obtain ⟨v_1, n_1, c_1, hx1_0, hc1⟩ := Zme p ([s]) ok (fun y hy => by simp only [List.mem_singleton] at hy; rw [hy]; exact hz)
    have hte := hx1_0
    refine x_r [(2, .new 13), (3, .call [(true, .any), (false, Zaj false ([s]))] true (.tup [Zan v_1, I n_1, I c_1])), (8, .new 7)] [4, 7, 8, 9] [4, 7] [.ref 4 0, .ref 7 0, I n_1, I c_1] [some (.box [Zao, Zao]), some (Zad v_1)] [Con Tryz.prog 20 [Zae p, Zaj false ([s])] true (.tup [Zan v_1, I n_1, I c_1]) ∧ ((false = true → true = true) ∧ 2 = 2 ∧ 1 = (([s]).length) ∧ ∀ i_, i_ < (([s]).length) → (Zcw [Sv s.Label, Zau false s.Feats] 2) i_ = (Zcq false ([s])) i_ ∨ (AV.idsL ((Zcq false ([s])) i_) = [] ∧ leL (fun _ => none) false ((Zcw [Sv s.Label, Zau false s.Feats] 2) i_) ((Zcq false ([s])) i_))) ∧ True] ⟨⟨hc1, ⟨(fun h => by cases h), rfl, (by first | rfl | (simp; done) | (simp; omega) | omega), fun i_ hi_ => .inl (match i_, hi_ with | 0, _ => rfl | (i + 1), h => absurd h (by simp))⟩, trivial⟩, trivial⟩ ?_
    refine Zab ?_
    refine xR [] [4, 5, 6] [4] [.ref 4 0, Bv (decide (0 < n_1)), I c_1] [some (Zad v_1)] [] trivial ?_
    refine Zcf ?_
    refine Zbn (v_1, decide (0 < n_1), c_1) (show (v_1 = (Zow p [s]).1 ∧ (decide (0 < n_1)) = decide (0 < (Zow p [s]).2.1) ∧ c_1 = (Zow p [s]).2.2) ∧ (True) from ⟨(by rw [← hte]; exact ⟨rfl, rfl, rfl⟩), trivial⟩) (trivial) (.tup [Zan v_1, Bv (decide (0 < n_1)), I c_1]) (by kernel_rfl) (.inl rfl) (fun _ => rfl) (fun _ => (by simp [Zak, Zah, Zdd, Zer]))
  obtain ⟨⟨v, ch, c⟩, ⟨hh0, _⟩, hc⟩ := hh
  exact ⟨v, ch, c, hh0, hc⟩
theorem Zqt (f : Feat) : Con Tryz.prog 114 [Zmo f] true (Bv (okF f)) := by
  refine Zdc (fn := Tryz.f114) (nt := 16) Tryz.func114 rfl rfl rfl rfl (by simp [Zah, Zak]) fun B hB => ?_
  refine aR [(0, .new 1)] [1] [1] [.ref 1 0] [some (Zlg f)] [] hB trivial ?_
  refine Zal ?_
  rcases Bool.eq_false_or_eq_true (inB f.X 0 255) with h1 | h1
  ·rcases Bool.eq_false_or_eq_true (inB f.Y 0 255) with h2 | h2
   ·refine Zby [(2, .call [(true, .any), (true, .any), (true, .any)] true (Bv true)), (6, .call [(true, .any), (true, .any), (true, .any)] true (Bv true)), (11, .call [(true, .any), (true, .any), (true, .any)] true (Bv (inB f.D 0 7)))] [2] [] [Bv (inB f.D 0 7)] [] [Con Tryz.prog 74 [I f.X, I 0, I 255] true (Bv true) ∧ True, Con Tryz.prog 74 [I f.Y, I 0, I 255] true (Bv true) ∧ True, Con Tryz.prog 74 [I f.D, I 0, I 7] true (Bv (inB f.D 0 7)) ∧ True] hB ⟨⟨(Zaq h1 (Zfy f.X 0 255)), trivial⟩, ⟨(Zaq h2 (Zfy f.Y 0 255)), trivial⟩, ⟨(Zfy f.D 0 7), trivial⟩, trivial⟩ ?_
    refine Zac ?_
    refine Zax ?_
    refine Zba hB (Bv (inB f.D 0 7)) (by kernel_rfl) (.inl (by first | rfl | (refine congrArg Bv ?_; simp [okF, *]; done) | (refine congrArg Bv ?_; simp [okF, *]; omega) | (refine congrArg Bv ?_; simp_all [okF]; done) | (refine congrArg Bv ?_; simp_all [okF]; omega))) rfl (fun _ => trivial)
   refine Zby [(2, .call [(true, .any), (true, .any), (true, .any)] true (Bv true)), (6, .call [(true, .any), (true, .any), (true, .any)] true (Bv false))] [2] [] [Bv false] [] [Con Tryz.prog 74 [I f.X, I 0, I 255] true (Bv true) ∧ True, Con Tryz.prog 74 [I f.Y, I 0, I 255] true (Bv false) ∧ True] hB ⟨⟨(Zaq h1 (Zfy f.X 0 255)), trivial⟩, ⟨(Zaq h2 (Zfy f.Y 0 255)), trivial⟩, trivial⟩ ?_
   refine Zac ?_
   refine Zax ?_
   refine Zba hB (Bv false) (by kernel_rfl) (.inl (by first | rfl | (refine congrArg Bv ?_; simp [okF, *]; done) | (refine congrArg Bv ?_; simp [okF, *]; omega) | (refine congrArg Bv ?_; simp_all [okF]; done) | (refine congrArg Bv ?_; simp_all [okF]; omega))) rfl (fun _ => trivial)
  refine Zby [(2, .call [(true, .any), (true, .any), (true, .any)] true (Bv false))] [2] [] [Bv false] [] [Con Tryz.prog 74 [I f.X, I 0, I 255] true (Bv false) ∧ True] hB ⟨⟨(Zaq h1 (Zfy f.X 0 255)), trivial⟩, trivial⟩ ?_
  refine Zac ?_
  refine Zax ?_
  refine Zba hB (Bv false) (by kernel_rfl) (.inl (by first | rfl | (refine congrArg Bv ?_; simp [okF, *]; done) | (refine congrArg Bv ?_; simp [okF, *]; omega) | (refine congrArg Bv ?_; simp_all [okF]; done) | (refine congrArg Bv ?_; simp_all [okF]; omega))) rfl (fun _ => trivial)
theorem l08Ok_ok (list : List Feat) : Con Tryz.prog 95 [Zau false list] true (Bv (Zbp list 384)) := by
  refine Zdc (fn := Tryz.f95) (nt := 19) Tryz.func95 rfl rfl rfl rfl (by simp [Zah, Zak, Zef]) fun B hB => ?_
  refine Zcg (x := Zau false list) 0 rfl (fun len_list => ?_)
  simp [Zdt, Zgj, Zhc, Zdr, Zau] at len_list
  refine aR [] [0] [] [Zau false list] [] [] hB trivial ?_
  refine Zal ?_
  refine aR [] [0, 3] [] [Zau false list, I 0] [] [] hB trivial ?_
  refine Zbo ?_
  refine Zdm (fun gn gσ => ∃ (i : Int), gn = ((list.length : Int) - i).toNat ∧ (0 ≤ i ∧ i ≤ (list.length : Int)) ∧ (∀ j : Nat, (j : Int) < i → okF (at_ list j) = true) ∧ gσ = mkS [(0, Zau false list), (3, I i)] []) (((list.length : Int) - 0).toNat) ⟨0, rfl, (by omega), (by intro j hj; omega), rfl⟩ (fun gn gσ hI => ?_)
  obtain ⟨i, rfl, hi0, hall0, rfl⟩ := hI
  refine Zal ?_
  refine Zal ?_
  by_cases h1 : i < (list.length : Int)
  ·have hi : i.toNat < list.length := by omega
   refine Zby [(3, .dec true)] [0, 3, 7] [] [Zau false list, I i, Bv true] [] [i < (list.length : Int)] hB ⟨h1, trivial⟩ ?_
   refine Zac ?_
   refine Zbc rfl ?_
   refine Zbf ?_
   refine Zac ?_
   refine Zal ?_
   refine Zbo ?_
   refine Zal ?_
   rcases Bool.eq_false_or_eq_true (okF (at_ list i.toNat)) with h2 | h2
   ·refine Zby [(4, .call [(true, .any)] true (Bv true))] [0, 3, 15] [] [Zau false list, I i, Bv false] [] [(0 : Int) ≤ i ∧ i < (list.length : Int), Con Tryz.prog 114 [Zmo (at_ list i.toNat)] true (Bv true) ∧ True] hB ⟨⟨(by omega), (by omega)⟩, ⟨(Zaq h2 (Zqt (at_ list i.toNat))), trivial⟩, trivial⟩ ?_
    refine Zac ?_
    refine Zay rfl ?_
    refine Zbf ?_
    refine Zco 1 ?_
    refine Zac ?_
    refine Zby [] [0, 3] [] [Zau false list, I (i + 1)] [] [inR .i64 (i + 1)] hB ⟨(Zam (by omega) (by omega)), trivial⟩ ?_
    exact Zcr _ (by omega) ⟨(i + 1), rfl, (by omega), (by intro j hj; by_cases ej : j = i.toNat; (subst ej; first | assumption | exact hok); exact hall0 j (by omega)), rfl⟩
   have hall : Zim list.length (fun j => okF (at_ list j)) = false := Zfx hi h2
   refine Zby [(4, .call [(true, .any)] true (Bv false))] [0, 3, 15] [] [Zau false list, I i, Bv true] [] [(0 : Int) ≤ i ∧ i < (list.length : Int), Con Tryz.prog 114 [Zmo (at_ list i.toNat)] true (Bv false) ∧ True] hB ⟨⟨(by omega), (by omega)⟩, ⟨(Zaq h2 (Zqt (at_ list i.toNat))), trivial⟩, trivial⟩ ?_
   refine Zac ?_
   refine Zbc rfl ?_
   refine aR [] [2] [] [Bv false] [] [] hB trivial ?_
   refine Zax ?_
   refine Zat (Zai (Zai (Zat (Zai ?_))))
   refine Zba hB (Bv false) (by kernel_rfl) (.inl (by first | rfl | (refine congrArg Bv ?_; simp [Zbp, inB, *]; done) | (refine congrArg Bv ?_; simp [Zbp, inB, *]; omega) | (refine congrArg Bv ?_; simp_all [Zbp, inB]; done) | (refine congrArg Bv ?_; simp_all [Zbp, inB]; omega))) rfl (fun _ => trivial)
  have hall : Zim list.length (fun j => okF (at_ list j)) = true := Zff (fun j hj => hall0 j (by omega))
  refine Zby [(3, .dec false)] [0, 3, 7] [] [Zau false list, I i, Bv false] [] [¬ (i < (list.length : Int))] hB ⟨h1, trivial⟩ ?_
  refine Zac ?_
  refine Zay rfl ?_
  refine Zdn ?_
  refine Zas ?_
  refine Zas ?_
  refine Zbx ?_
  refine Zac ?_
  refine aR [(2, .call [(true, .any), (true, .any), (true, .any)] true (Bv (inB (list.length : Int) 1 384)))] [2] [] [Bv (inB (list.length : Int) 1 384)] [] [Con Tryz.prog 74 [I (list.length : Int), I 1, I 384] true (Bv (inB (list.length : Int) 1 384)) ∧ True] hB ⟨⟨(Zfy (list.length : Int) 1 384), trivial⟩, trivial⟩ ?_
  refine Zax ?_
  refine Zba hB (Bv (inB (list.length : Int) 1 384)) (by kernel_rfl) (.inl (by first | rfl | (refine congrArg Bv ?_; simp [Zbp, inB, *]; done) | (refine congrArg Bv ?_; simp [Zbp, inB, *]; omega) | (refine congrArg Bv ?_; simp_all [Zbp, inB]; done) | (refine congrArg Bv ?_; simp_all [Zbp, inB]; omega))) rfl (fun _ => trivial)
theorem Zmp (s : Sample) (hz : s.Label.size ≤ 9223372036854775807) : Con Tryz.prog 54 [.ptr false [Sv s.Label, Zau false s.Feats]] true (Bv (okS s)) := by
  refine Zdc (fn := Tryz.f54) (nt := 15) Tryz.func54 rfl rfl rfl rfl (by simp [Zah, Zak, Zef]) fun B hB => ?_
  refine Zcg (x := .ptr false [Sv s.Label, Zau false s.Feats]) 0 rfl (fun len_s => ?_)
  simp [Zdt, Zgj, Zhc, Zdr, Zau] at len_s
  refine aR [] [0] [] [.ptr false [Sv s.Label, Zau false s.Feats]] [] [] hB trivial ?_
  refine Zal ?_
  rcases Bool.eq_false_or_eq_true (Zci s.Label) with h1 | h1
  ·refine Zby [(4, .call [(true, .any)] true (Bv true)), (10, .call [(true, .any)] true (Bv (Zbp s.Feats 384)))] [2] [] [Bv (Zbp s.Feats 384)] [] [Con Tryz.prog 94 [Sv s.Label] true (Bv true) ∧ True, Con Tryz.prog 95 [Zau false s.Feats] true (Bv (Zbp s.Feats 384)) ∧ True] hB ⟨⟨(Zaq h1 (Zep s.Label hz)), trivial⟩, ⟨(l08Ok_ok s.Feats), trivial⟩, trivial⟩ ?_
   refine Zac ?_
   refine Zax ?_
   refine Zba hB (Bv (Zbp s.Feats 384)) (by kernel_rfl) (.inl (by refine congrArg Bv ?_; unfold okS; first | (rw [show Zci s.Label = false from by assumption]; rfl) | (rw [show Zci s.Label = true from by assumption]; rfl))) rfl (fun _ => trivial)
  refine Zby [(4, .call [(true, .any)] true (Bv false))] [2] [] [Bv false] [] [Con Tryz.prog 94 [Sv s.Label] true (Bv false) ∧ True] hB ⟨⟨(Zaq h1 (Zep s.Label hz)), trivial⟩, trivial⟩ ?_
  refine Zac ?_
  refine Zax ?_
  refine Zba hB (Bv false) (by kernel_rfl) (.inl (by refine congrArg Bv ?_; unfold okS; first | (rw [show Zci s.Label = false from by assumption]; rfl) | (rw [show Zci s.Label = true from by assumption]; rfl))) rfl (fun _ => trivial)
theorem Zzu (p : Perceptron) (list : List Sample) (ok : ∀ y ∈ p.Labels, y.size ≤ 9223372036854775807) (ok2 : ∀ y ∈ list, y.Label.size ≤ 9223372036854775807) : Con Tryz.prog 21 [.ptr false [slS false p.Labels, Zbg false p.Weights], Zaj false list] true (I (cdR p list)) := by
  refine Zdc (fn := Tryz.f21) (nt := 38) Tryz.func21 rfl rfl rfl rfl (by simp [Zah, Zak, Zdd, Zer, Zdq]) fun B hB => ?_
  refine Zcg (x := .ptr false [slS false p.Labels, Zbg false p.Weights]) 0 rfl (fun len_p => ?_)
  simp [Zdt, Zgj, cI, cLI, cS, fI, fLI, fS, slI, Zbg, slS] at len_p
  refine Zcg (x := Zaj false list) 1 rfl (fun len_list => ?_)
  simp [Zdt, Zgj, Zhc, Zec, Zdr, Zcq, Zau, Zaj] at len_list
  refine aR [] [0, 1] [] [.ptr false [slS false p.Labels, Zbg false p.Weights], Zaj false list] [] [] hB trivial ?_
  refine Zal ?_
  refine Zal ?_
  rcases Bool.eq_false_or_eq_true (Zbb p) with h1 | h1
  ·have hpk := h1
   refine Zby [(1, .call [(true, .any)] true (Bv true))] [0, 1, 9] [] [.ptr false [slS false p.Labels, Zbg false p.Weights], Zaj false list, Bv false] [] [Con Tryz.prog 35 [.ptr false [slS false p.Labels, Zbg false p.Weights]] true (Bv true) ∧ True] hB ⟨⟨(Zaq h1 (Zew p ok)), trivial⟩, trivial⟩ ?_
   refine Zac ?_
   refine Zay rfl ?_
   refine Zbf ?_
   refine Zac ?_
   refine Zal ?_
   refine aR [] [0, 1, 5] [] [.ptr false [slS false p.Labels, Zbg false p.Weights], Zaj false list, I 0] [] [] hB trivial ?_
   refine Zbo ?_
   refine Zdm (fun gn gσ => ∃ (i : Int), gn = ((list.length : Int) - i).toNat ∧ (0 ≤ i ∧ i ≤ (list.length : Int)) ∧ (∀ j : Nat, (j : Int) < i → okS (at_ list j) = true) ∧ gσ = mkS [(0, .ptr false [slS false p.Labels, Zbg false p.Weights]), (1, Zaj false list), (5, I i)] []) (((list.length : Int) - 0).toNat) ⟨0, rfl, (by omega), (by intro j hj; omega), rfl⟩ (fun gn gσ hI => ?_)
   obtain ⟨i, rfl, hi0, hall0, rfl⟩ := hI
   refine Zal ?_
   refine Zal ?_
   by_cases h2 : i < (list.length : Int)
   ·have hi : i.toNat < list.length := by omega
    refine Zby [(3, .dec true)] [0, 1, 5, 13] [] [.ptr false [slS false p.Labels, Zbg false p.Weights], Zaj false list, I i, Bv true] [] [i < (list.length : Int)] hB ⟨h2, trivial⟩ ?_
    refine Zac ?_
    refine Zbc rfl ?_
    refine Zbf ?_
    refine Zac ?_
    refine Zal ?_
    refine Zbo ?_
    refine Zal ?_
    rcases Bool.eq_false_or_eq_true (okS (at_ list i.toNat)) with h3 | h3
    ·have hok := h3
     refine Zby [(3, .call [(true, .any)] true (Bv true))] [0, 1, 5, 20] [] [.ptr false [slS false p.Labels, Zbg false p.Weights], Zaj false list, I i, Bv false] [] [(0 : Int) ≤ i ∧ i < (list.length : Int), Con Tryz.prog 54 [.ptr false [Sv ((at_ list i.toNat).Label), Zau false ((at_ list i.toNat).Feats)]] true (Bv true) ∧ True] hB ⟨⟨(by omega), (by omega)⟩, ⟨(Zaq h3 (Zmp (at_ list i.toNat) (ok2 _ (Zct hi)))), trivial⟩, trivial⟩ ?_
     refine Zac ?_
     refine Zay rfl ?_
     refine Zbf ?_
     refine Zco 1 ?_
     refine Zac ?_
     refine Zby [] [0, 1, 5] [] [.ptr false [slS false p.Labels, Zbg false p.Weights], Zaj false list, I (i + 1)] [] [inR .i64 (i + 1)] hB ⟨(Zam (by omega) (by omega)), trivial⟩ ?_
     exact Zcr _ (by omega) ⟨(i + 1), rfl, (by omega), (by intro j hj; by_cases ej : j = i.toNat; (subst ej; exact hok); exact hall0 j (by omega)), rfl⟩
    have hst := cd_b hpk (Zfx hi h3)
    refine Zby [(3, .call [(true, .any)] true (Bv false))] [0, 1, 5, 20] [] [.ptr false [slS false p.Labels, Zbg false p.Weights], Zaj false list, I i, Bv true] [] [(0 : Int) ≤ i ∧ i < (list.length : Int), Con Tryz.prog 54 [.ptr false [Sv ((at_ list i.toNat).Label), Zau false ((at_ list i.toNat).Feats)]] true (Bv false) ∧ True] hB ⟨⟨(by omega), (by omega)⟩, ⟨(Zaq h3 (Zmp (at_ list i.toNat) (ok2 _ (Zct hi)))), trivial⟩, trivial⟩ ?_
    refine Zac ?_
    refine Zbc rfl ?_
    refine aR [] [4] [] [I 1] [] [] hB trivial ?_
    refine Zax ?_
    refine Zat (Zai (Zai (Zat (Zai ?_))))
    refine Zba hB (I 1) (by kernel_rfl) (.inl (by exact congrArg I hst.symm)) rfl (fun _ => trivial)
   have hal : Zim list.length (fun j => okS (at_ list j)) = true := Zff (fun j hj => hall0 j (by omega))
   refine Zby [(3, .dec false)] [0, 1, 5, 13] [] [.ptr false [slS false p.Labels, Zbg false p.Weights], Zaj false list, I i, Bv false] [] [¬ (i < (list.length : Int))] hB ⟨h2, trivial⟩ ?_
   refine Zac ?_
   refine Zay rfl ?_
   refine Zdn ?_
   refine Zas ?_
   refine Zas ?_
   refine Zbx ?_
   refine Zac ?_
   refine Zal ?_
   refine aR [] [0, 1, 6] [] [.ptr false [slS false p.Labels, Zbg false p.Weights], Zaj false list, I 0] [] [] hB trivial ?_
   refine Zbo ?_
   refine Zdm (fun gn gσ => ∃ (i' : Int), gn = ((list.length : Int) - i').toNat ∧ (0 ≤ i' ∧ i' ≤ (list.length : Int)) ∧ (∀ j : Nat, (j : Int) < i' → decide (0 ≤ Zaw p.Labels (at_ list j).Label) = true) ∧ gσ = mkS [(0, .ptr false [slS false p.Labels, Zbg false p.Weights]), (1, Zaj false list), (6, I i')] []) (((list.length : Int) - 0).toNat) ⟨0, rfl, (by omega), (by intro j hj; omega), rfl⟩ (fun gn gσ hI => ?_)
   obtain ⟨i', rfl, hj0, hall1, rfl⟩ := hI
   refine Zal ?_
   refine Zal ?_
   by_cases h4 : i' < (list.length : Int)
   ·have hi2 : i'.toNat < list.length := by omega
    refine Zby [(3, .dec true)] [0, 1, 6, 24] [] [.ptr false [slS false p.Labels, Zbg false p.Weights], Zaj false list, I i', Bv true] [] [i' < (list.length : Int)] hB ⟨h4, trivial⟩ ?_
    refine Zac ?_
    refine Zbc rfl ?_
    refine Zbf ?_
    refine Zac ?_
    refine Zal ?_
    refine Zbo ?_
    refine Zal ?_
    by_cases h5 : (Zaw p.Labels ((at_ list i'.toNat).Label)) < 0
    ·have hst := cd_c hpk hal (Zfx hi2 (decide_eq_false (by omega)))
     refine Zby [(6, .call [(true, .any), (true, .any)] true (I (Zaw p.Labels ((at_ list i'.toNat).Label)))), (7, .dec true)] [0, 1, 6, 34] [] [.ptr false [slS false p.Labels, Zbg false p.Weights], Zaj false list, I i', Bv true] [] [(0 : Int) ≤ i' ∧ i' < (list.length : Int), Con Tryz.prog 55 [.ptr false [slS false p.Labels, Zbg false p.Weights], Sv ((at_ list i'.toNat).Label)] true (I (Zaw p.Labels ((at_ list i'.toNat).Label))) ∧ True, (Zaw p.Labels ((at_ list i'.toNat).Label)) < 0] hB ⟨⟨(by omega), (by omega)⟩, ⟨(Zmf p ((at_ list i'.toNat).Label)), trivial⟩, h5, trivial⟩ ?_
     refine Zac ?_
     refine Zbc rfl ?_
     refine aR [] [4] [] [I 3] [] [] hB trivial ?_
     refine Zax ?_
     refine Zat (Zai (Zai (Zat (Zai ?_))))
     refine Zba hB (I 3) (by kernel_rfl) (.inl (by exact congrArg I hst.symm)) rfl (fun _ => trivial)
    have hok2 : decide (0 ≤ Zaw p.Labels (at_ list i'.toNat).Label) = true := decide_eq_true (by omega)
    refine Zby [(6, .call [(true, .any), (true, .any)] true (I (Zaw p.Labels ((at_ list i'.toNat).Label)))), (7, .dec false)] [0, 1, 6, 34] [] [.ptr false [slS false p.Labels, Zbg false p.Weights], Zaj false list, I i', Bv false] [] [(0 : Int) ≤ i' ∧ i' < (list.length : Int), Con Tryz.prog 55 [.ptr false [slS false p.Labels, Zbg false p.Weights], Sv ((at_ list i'.toNat).Label)] true (I (Zaw p.Labels ((at_ list i'.toNat).Label))) ∧ True, ¬ ((Zaw p.Labels ((at_ list i'.toNat).Label)) < 0)] hB ⟨⟨(by omega), (by omega)⟩, ⟨(Zmf p ((at_ list i'.toNat).Label)), trivial⟩, h5, trivial⟩ ?_
    refine Zac ?_
    refine Zay rfl ?_
    refine Zbf ?_
    refine Zco 3 ?_
    refine Zac ?_
    refine Zby [] [0, 1, 6] [] [.ptr false [slS false p.Labels, Zbg false p.Weights], Zaj false list, I (i' + 1)] [] [inR .i64 (i' + 1)] hB ⟨(Zam (by omega) (by omega)), trivial⟩ ?_
    exact Zcr _ (by omega) ⟨(i' + 1), rfl, (by omega), (by intro j hj; by_cases ej : j = i'.toNat; (subst ej; exact hok2); exact hall1 j (by omega)), rfl⟩
   have hal2 : Zim list.length (fun j => decide (0 ≤ Zaw p.Labels (at_ list j).Label)) = true := Zff (fun j hj => hall1 j (by omega))
   refine Zby [(3, .dec false)] [0, 1, 6, 24] [] [.ptr false [slS false p.Labels, Zbg false p.Weights], Zaj false list, I i', Bv false] [] [¬ (i' < (list.length : Int))] hB ⟨h4, trivial⟩ ?_
   refine Zac ?_
   refine Zay rfl ?_
   refine Zdn ?_
   refine Zas ?_
   refine Zas ?_
   refine Zbx ?_
   refine Zac ?_
   refine Zal ?_
   refine Zal ?_
   by_cases h6 : 40 < (list.length : Int)
   ·have hst := cd_d hpk hal hal2 h6
    refine Zby [(2, .dec true)] [37] [] [Bv true] [] [40 < (list.length : Int)] hB ⟨h6, trivial⟩ ?_
    refine Zac ?_
    refine Zbc rfl ?_
    refine aR [] [4] [] [I 2] [] [] hB trivial ?_
    refine Zax ?_
    refine Zai ?_
    refine Zba hB (I 2) (by kernel_rfl) (.inl (by exact congrArg I hst.symm)) rfl (fun _ => trivial)
   have hst := cd_e hpk hal hal2 h6
   refine Zby [(2, .dec false)] [37] [] [Bv false] [] [¬ (40 < (list.length : Int))] hB ⟨h6, trivial⟩ ?_
   refine Zac ?_
   refine Zay rfl ?_
   refine Zbf ?_
   refine Zac ?_
   refine aR [] [4] [] [I 0] [] [] hB trivial ?_
   refine Zax ?_
   refine Zba hB (I 0) (by kernel_rfl) (.inl (by exact congrArg I hst.symm)) rfl (fun _ => trivial)
  have hst := cd_a (list := list) h1
  refine Zby [(1, .call [(true, .any)] true (Bv false))] [0, 1, 9] [] [.ptr false [slS false p.Labels, Zbg false p.Weights], Zaj false list, Bv true] [] [Con Tryz.prog 35 [.ptr false [slS false p.Labels, Zbg false p.Weights]] true (Bv false) ∧ True] hB ⟨⟨(Zaq h1 (Zew p ok)), trivial⟩, trivial⟩ ?_
  refine Zac ?_
  refine Zbc rfl ?_
  refine aR [] [4] [] [I 1] [] [] hB trivial ?_
  refine Zax ?_
  refine Zai ?_
  refine Zba hB (I 1) (by kernel_rfl) (.inl (by exact congrArg I hst.symm)) rfl (fun _ => trivial)
theorem Zhx {a b : Perceptron} (h : a = b) : Zla a b = true := by subst h; exact Zzv _
def toR (p : Perceptron) (s : Sample) : Perceptron × Bool × Int := if cdR p [s] = 0 then Zdv p s else (⟨[], []⟩, false, cdR p [s])
theorem to_no {p : Perceptron} {s : Sample} (h : ¬ cdR p [s] = 0) : toR p s = (⟨[], []⟩, false, cdR p [s]) := if_neg h
theorem Ydo {p : Perceptron} {s : Sample} (h : cdR p [s] = 0) : toR p s = Zdv p s := if_pos h
theorem Zzw (p : Perceptron) (s : Sample) : (Zdv p s).2.2 = 0 ∨ Zdv p s = (⟨[], []⟩, false, 5) := by
  by_cases h1 : Zbk (scR p.Weights (Zed s.Feats)) = Zaw p.Labels s.Label
  · rw [Zjz h1]; exact .inl rfl
  · by_cases h2 : Zbb ⟨p.Labels, Zgi p.Weights (Zed s.Feats) (Zaw p.Labels s.Label).toNat (Zbk (scR p.Weights (Zed s.Feats))).toNat 25⟩ = true
    · rw [Zlb h1 h2]; exact .inl rfl
    · rw [Zmn h1 h2]; exact .inr rfl
theorem tep1 (p : Perceptron) (s : Sample) : (Zow p [s]).1 = (toR p s).1 ∧ decide (0 < (Zow p [s]).2.1) = (toR p s).2.1 ∧ (Zow p [s]).2.2 = (toR p s).2.2 := by
  by_cases h : cdR p [s] = 0
  · rw [Ydd h, Ydo h]
    have e : epR p [s] [s].length = if (Zdv p s).2.2 = 0 then ((Zdv p s).1, 0 + (if (Zdv p s).2.1 = true then 1 else 0), 0) else (⟨[], []⟩, 0, (Zdv p s).2.2) := rfl
    rw [e]
    rcases Zzw p s with h2 | h2
    · rw [if_pos h2]
      refine ⟨rfl, ?_, h2.symm⟩
      show decide (0 < (0 : Int) + (if (Zdv p s).2.1 = true then 1 else 0)) = (Zdv p s).2.1
      cases (Zdv p s).2.1 <;> decide
    · rw [h2]; exact ⟨rfl, rfl, rfl⟩
  · rw [tep_no h, to_no h]; exact ⟨rfl, rfl, rfl⟩
def Zvd (X W : List (List Int)) (k : Nat) : Nat → Int
  | 0 => 0
  | n + 1 => Zvd X W k n + at_ (at_ X n) k - at_ (at_ W n) k
theorem sumD_1 {X W : List (List Int)} {k : Nat} {i : Int} (h : 0 ≤ i) : Zvd X W k (i + 1).toNat = Zvd X W k i.toNat + at_ (at_ X i.toNat) k - at_ (at_ W i.toNat) k := by
  rw [show (i + 1).toNat = i.toNat + 1 from by omega]; rfl
theorem Zur (W : List (List Int)) (k : Nat) : ∀ n, Zvd W W k n = 0
  | 0 => rfl
  | n + 1 => by have := Zur W k n; unfold Zvd; omega
theorem Yaj {X W : List (List Int)} (hx : Zjn X = true) (hw : Zjn W = true) (hl : X.length = W.length) {k : Nat} (hk : k < 25) : ∀ n, n ≤ W.length → -2000000 * (n : Int) ≤ Zvd X W k n ∧ Zvd X W k n ≤ 2000000 * (n : Int)
  | 0, _ => ⟨by show -2000000 * ((0 : Nat) : Int) ≤ 0; decide, by show (0 : Int) ≤ 2000000 * ((0 : Nat) : Int); decide⟩
  | n + 1, h => by
    have q1 := Yaj hx hw hl hk n (by omega)
    have q2 := (Zcu hx (j := n) (by omega)).2 k hk
    have q3 := (Zcu hw (j := n) (by omega)).2 k hk
    unfold Zvd; omega
theorem Zyt {W : List (List Int)} {x : List Int} {w g k : Nat} (hw : w < W.length) (hg : g < W.length) (hne : w ≠ g) (hl : ∀ j, j < W.length → (at_ W j).length = 25) (hk : k < 25) : ∀ n, Zvd (Zgi W x w g 25) W k n = (if w < n then at_ x k else 0) - (if g < n then at_ x k else 0)
  | 0 => rfl
  | n + 1 => by
    have ih := Zyt (x := x) hw hg hne hl hk n
    have h2 := Zss (x := x) hw hg hne hl 25 (Nat.le_refl _) n k
    rw [if_pos hk] at h2
    unfold Zvd
    rw [ih, h2]
    by_cases e1 : n = w
    · subst e1
      rw [if_pos rfl, if_neg (Nat.lt_irrefl _), if_pos (Nat.lt_succ_self _)]
      by_cases e2 : g < n
      · rw [if_pos e2, if_pos (by omega)]; omega
      · rw [if_neg e2, if_neg (by omega)]; omega
    · rw [if_neg e1]
      by_cases e2 : n = g
      · subst e2
        rw [if_pos rfl, if_neg (Nat.lt_irrefl n), if_pos (Nat.lt_succ_self n)]
        by_cases e3 : w < n
        · rw [if_pos e3, if_pos (by omega)]; omega
        · rw [if_neg e3, if_neg (by omega)]; omega
      · rw [if_neg e2]
        have a1 : (w < n + 1) ↔ (w < n) := by omega
        have a2 : (g < n + 1) ↔ (g < n) := by omega
        simp only [a1, a2]; omega
theorem step_sum {p : Perceptron} {s : Sample} (hp : Zbb p = true) (hs : s.Label ∈ p.Labels) (h1 : ¬ Zbk (scR p.Weights (Zed s.Feats)) = Zaw p.Labels s.Label) {k : Nat} (hk : k < 25) : Zvd (Zgi p.Weights (Zed s.Feats) (Zaw p.Labels s.Label).toNat (Zbk (scR p.Weights (Zed s.Feats))).toNat 25) p.Weights k p.Weights.length = 0 := by
  have hin := Zqy hp hs
  have hr : ∀ j, j < p.Weights.length → (at_ p.Weights j).length = 25 := fun j hj => (Zcu (Zcd.1 hp).2.2 hj).1
  generalize Zbk (scR p.Weights (Zed s.Feats)) = b at *
  generalize Zaw p.Labels s.Label = a at *
  generalize Zed s.Feats = x at *
  generalize p.Weights = W at *
  have ha : a.toNat < W.length := by omega
  have hb : b.toNat < W.length := by omega
  have hab : a.toNat ≠ b.toNat := by omega
  rw [Zyt ha hb hab hr hk, if_pos ha, if_pos hb]
  exact Int.sub_self _
section
attribute [local irreducible] Zgi
theorem to_facts {p : Perceptron} {s : Sample} (h : (toR p s).2.2 = 0) : cdR p [s] = 0 ∧ Zbb p = true ∧ s.Label ∈ p.Labels ∧ Zbp s.Feats 384 = true ∧ Zbb (toR p s).1 = true ∧ (toR p s).1.Weights.length = p.Weights.length ∧ ((toR p s).2.1 = false → (toR p s).1 = p) ∧
    ((toR p s).2.1 = false ↔ Zbk (scR p.Weights (Zed s.Feats)) = Zaw p.Labels s.Label) ∧ ∀ k, k < 25 → Zvd (toR p s).1.Weights p.Weights k p.Weights.length = 0 := by
  by_cases hc : cdR p [s] = 0
  · have hcd := cd_ok hc
    have hs := hcd.2.1 0 Nat.zero_lt_one
    have e0 : at_ [s] 0 = s := rfl
    rw [e0] at hs
    rw [Ydo hc] at h ⊢
    have hok := Ydp hcd.1 h
    have hin := Zqy hcd.1 hs.2.1
    have hq := Zcd.1 hcd.1
    have hiff := step_n h
    refine ⟨hc, hcd.1, hs.2.1, hs.2.2, hok.1, ?_, ?_, hiff, ?_⟩
    · have := (Zcd.1 hok.1).2.1; rw [this, hok.2]; exact hq.2.1.symm
    · intro h2; rw [Zjz (hiff.1 h2)]
    · intro k hk
      by_cases h1 : Zbk (scR p.Weights (Zed s.Feats)) = Zaw p.Labels s.Label
      · exact Eq.trans (congrArg (fun q : Perceptron × Bool × Int => Zvd q.1.Weights p.Weights k p.Weights.length) (Zjz h1)) (Zur _ _ _)
      · by_cases h2 : Zbb ⟨p.Labels, Zgi p.Weights (Zed s.Feats) (Zaw p.Labels s.Label).toNat (Zbk (scR p.Weights (Zed s.Feats))).toNat 25⟩ = true
        · refine Eq.trans (congrArg (fun q : Perceptron × Bool × Int => Zvd q.1.Weights p.Weights k p.Weights.length) (Zlb h1 h2)) ?_
          exact step_sum hcd.1 hs.2.1 h1 hk
        · rw [Zmn h1 h2] at h; cases h
  · rw [to_no hc] at h; exact absurd h hc
end
theorem Znm (p : Perceptron) (s : Sample) (ok : ∀ y ∈ p.Labels, y.size ≤ 9223372036854775807) (hz : s.Label.size ≤ 9223372036854775807) : ∃ (v : Perceptron) (ch : Bool) (c : Int), ((v, ch, c) = toR p s) ∧ Con Tryz.prog 7 [Zae p, Zcy s] true (.tup [Zan v, Bv ch, I c]) := by
  have hh : ∃ r : Perceptron × Bool × Int, (((r.1, r.2.1, r.2.2) = toR p s) ∧ (True)) ∧ Zaz Tryz.prog 7 [Zae p, Zcy s] (Zaf []) true (.tup [Zan r.1, Bv r.2.1, I r.2.2]) (Zaf []) := by
    refine Zde (Φ := fun r : Perceptron × Bool × Int => ((r.1, r.2.1, r.2.2) = toR p s) ∧ (True)) [] (fun r => []) (fn := Tryz.f7) (nt := 20) Tryz.func7 rfl rfl (args := [Zae p, Zcy s]) rfl (Zbw (.inl ⟨rfl, by simp [Zak, Zah, Zdd, Zer]⟩) (Zbw (.inl ⟨rfl, by simp [Zak, Zah, Zef]⟩) Zdb)) (res := fun r => .tup [Zan r.1, Bv r.2.1, I r.2.2]) ?_
    refine xR [(0, .new 2), (1, .new 3), (2, .new 4)] [2, 3, 4] [2, 3, 4] [.ref 2 0, .ref 3 0, .ref 4 0] [some (Zag p), some (Zfq s), some (.box [Zao, Zao])] [] trivial ?_
    refine xR [(1, .new 9), (2, .call [(false, .ptr false [slS false p.Labels, Zbg false p.Weights]), (false, Zaj false ([s]))] true (I (cdR p ([s]))))] [2, 3, 4, 7] [2, 3, 4] [.ref 2 0, .ref 3 0, .ref 4 0, I (cdR p ([s]))] [some (Zag p), some (Zfq s), some (.box [Zao, Zao])] [Con Tryz.prog 21 [.ptr false [slS false p.Labels, Zbg false p.Weights], Zaj false ([s])] true (I (cdR p ([s]))) ∧ ((false = true → true = true) ∧ AV.idsL [slS false p.Labels, Zbg false p.Weights] = [] ∧ ((false = true → false = true) ∧ 1 = 1 ∧ p.Labels.length = p.Labels.length ∧ ∀ i_, i_ < p.Labels.length → (fS p.Labels) i_ = (fS p.Labels) i_ ∨ (AV.idsL ((fS p.Labels) i_) = [] ∧ leL (fun _ => none) false ((fS p.Labels) i_) ((fS p.Labels) i_))) ∧ ((false = true → false = true) ∧ 1 = 1 ∧ p.Weights.length = p.Weights.length ∧ ∀ i_, i_ < p.Weights.length → (fLI false p.Weights) i_ = (fLI false p.Weights) i_ ∨ (AV.idsL ((fLI false p.Weights) i_) = [] ∧ leL (fun _ => none) false ((fLI false p.Weights) i_) ((fLI false p.Weights) i_))) ∧ ([] : List AV) = []) ∧ ((false = true → true = true) ∧ 2 = 2 ∧ 1 = (([s]).length) ∧ ∀ i_, i_ < (([s]).length) → (Zcw [Sv s.Label, Zau false s.Feats] 2) i_ = (Zcq false ([s])) i_ ∨ (AV.idsL ((Zcq false ([s])) i_) = [] ∧ leL (fun _ => none) false ((Zcw [Sv s.Label, Zau false s.Feats] 2) i_) ((Zcq false ([s])) i_))) ∧ True] ⟨⟨(Zzu p ([s]) ok (fun y hy => by simp only [List.mem_singleton] at hy; rw [hy]; exact hz)), ⟨(fun h => by cases h), rfl, ⟨⟨(fun h => by cases h), rfl, rfl, fun i _ => .inl rfl⟩, ⟨⟨(fun h => by cases h), rfl, rfl, fun i _ => .inl rfl⟩, rfl⟩⟩⟩, ⟨(fun h => by cases h), rfl, (by first | rfl | (simp; done) | (simp; omega) | omega), fun i_ hi_ => .inl (match i_, hi_ with | 0, _ => rfl | (i + 1), h => absurd h (by simp))⟩, trivial⟩, trivial⟩ ?_
    refine Zap ?_
    refine Zap ?_
    by_cases h1 : (cdR p ([s])) = 0
    ·have hc0 := h1
     have hcd := cd_ok hc0
     have hst := Ydo hc0
     have hs0 := hcd.2.1 0 Nat.zero_lt_one
     have e0 : at_ [s] 0 = s := rfl
     rw [e0] at hs0
     refine x_r [(1, .dec false)] [2, 3, 4, 7, 12] [2, 3, 4] [.ref 2 0, .ref 3 0, .ref 4 0, I (cdR p ([s])), Bv false] [some (Zag p), some (Zfq s), some (.box [Zao, Zao])] [¬ ((cdR p ([s])) ≠ 0)] ⟨(fun hq => hq h1), trivial⟩ ?_
     refine Zab ?_
     refine Zbe rfl ?_
     refine Zca ?_
     refine Zab ?_
     refine Zap ?_
     refine Zcz [] (T := [(2, .ref 2 0), (3, .ptr true [Sv s.Label, Zau false s.Feats]), (4, .ref 4 0), (7, I (cdR p ([s]))), (12, Bv false)]) (O := [(2, Zag p), (4, .box [Zao, Zao])]) rfl (⟨.inl rfl, .inr ⟨(fun _ => rfl), rfl, ⟨rfl, ⟨⟨(fun h => by cases h), rfl, rfl, fun i _ => .inl rfl⟩, rfl⟩⟩⟩, .inl rfl, .inl rfl, .inl rfl, trivial⟩) (⟨.inl rfl, .inl rfl, trivial⟩) ?_
     obtain ⟨ch_1, c_1, ls_1, ws_1, hx1_0, hc1⟩ := Zqu p s hcd.1 hs0.2.1 hs0.2.2
     refine x_r [(1, .lend [] [(9211, tAS ls_1), (9203, Zbm ws_1), (9212, Zbv 9203 ws_1)] [(true, .any), (false, .ptr false [Sv s.Label, Zau false s.Feats])] false (.tup [.agg [.arr 9211, .arr 9212], Bv ch_1, I c_1]))] [4, 5, 6] [4, 9203, 9211, 9212] [.ref 4 0, Bv ch_1, I c_1] [some (.box [.arr 9211, .arr 9212]), some (Zbm ws_1), some (tAS ls_1), some (Zbv 9203 ws_1)] [Zaz Tryz.prog 22 [Zae p, .ptr false [Sv s.Label, Zau false s.Feats]] (Zaf []) false (.tup [.agg [.arr 9211, .arr 9212], Bv ch_1, I c_1]) (Zaf [(9211, tAS ls_1), (9203, Zbm ws_1), (9212, Zbv 9203 ws_1)]) ∧ ((false = true → true = true) ∧ AV.idsL [Sv s.Label, Zau false s.Feats] = [] ∧ (Zyz (Sv s.Label) = Zyz (Sv s.Label)) ∧ ((false = true → false = true) ∧ 3 = 3 ∧ s.Feats.length = s.Feats.length ∧ ∀ i_, i_ < s.Feats.length → (Zdr s.Feats) i_ = (Zdr s.Feats) i_ ∨ (AV.idsL ((Zdr s.Feats) i_) = [] ∧ leL (fun _ => none) false ((Zdr s.Feats) i_) ((Zdr s.Feats) i_))) ∧ ([] : List AV) = []) ∧ True] ⟨⟨hc1, ⟨(fun h => by cases h), rfl, ⟨rfl, ⟨⟨(fun h => by cases h), rfl, rfl, fun i _ => .inl rfl⟩, rfl⟩⟩⟩, trivial⟩, trivial⟩ ?_
     refine Zab ?_
     refine Zcf ?_
     refine Zbn ((Perceptron.mk ls_1 ws_1), ch_1, c_1) (show (((Perceptron.mk ls_1 ws_1), ch_1, c_1) = toR p s) ∧ (True) from ⟨(by first | exact hst.symm | (rw [hst]; assumption)), trivial⟩) (trivial) (.tup [.agg [.arr 9211, .arr 9212], Bv ch_1, I c_1]) (by kernel_rfl) (.inr ⟨⟨⟨(fun _ => rfl), rfl, rfl, fun i _ => .inl rfl⟩, ⟨⟨(fun _ => rfl), rfl, rfl, Zfw _ _ rfl⟩, rfl⟩⟩, ⟨rfl, ⟨rfl, rfl⟩⟩⟩) (fun _ => rfl) (fun _ => (by simp [Zak, Zah, Zdd, Zer]))
    have hst := to_no h1
    refine x_r [(1, .dec true)] [2, 3, 4, 7, 12] [2, 3, 4] [.ref 2 0, .ref 3 0, .ref 4 0, I (cdR p ([s])), Bv true] [some (Zag p), some (Zfq s), some (.box [Zao, Zao])] [(cdR p ([s])) ≠ 0] ⟨h1, trivial⟩ ?_
    refine Zab ?_
    refine Zbq rfl ?_
    refine xR [] [4, 5, 6] [4] [.ref 4 0, Bv false, I (cdR p ([s]))] [some (.box [Zao, Zao])] [] trivial ?_
    refine Zcf ?_
    refine Zbd ?_
    refine Zbn ((Perceptron.mk ([] : List ByteArray) ([] : List (List Int))), false, (cdR p ([s]))) (show (((Perceptron.mk ([] : List ByteArray) ([] : List (List Int))), false, (cdR p ([s]))) = toR p s) ∧ (True) from ⟨(by first | exact hst.symm | (rw [hst]; assumption)), trivial⟩) (trivial) (.tup [.agg [Zao, Zao], Bv false, I (cdR p ([s]))]) (by kernel_rfl) (.inr ⟨⟨⟨rfl, rfl⟩, ⟨⟨rfl, rfl⟩, rfl⟩⟩, ⟨rfl, ⟨rfl, rfl⟩⟩⟩) (fun _ => rfl) (fun _ => (by simp [Zak, Zah, Zdd, Zer]))
  obtain ⟨⟨v, ch, c⟩, ⟨hh0, _⟩, hc⟩ := hh
  exact ⟨v, ch, c, hh0, hc⟩
def Zeb (n : Int) : ByteArray := ⟨(Lib.itoa n).toArray⟩
def Zhm (u : Nat) : List Int := if h : u = 0 then [] else Zhm (u / 10) ++ [48 + ((u % 10 : Nat) : Int)]
termination_by u
decreasing_by omega
theorem Zht : Zhm 0 = [] := by rw [Zhm]; simp
theorem Zky {u : Nat} (h : u ≠ 0) : Zhm u = Zhm (u / 10) ++ [48 + ((u % 10 : Nat) : Int)] := by rw [Zhm]; simp [h]
theorem Zyk : ∀ (k u : Nat), u < 10 ^ k → (Zhm u).length ≤ k := by
  intro k
  induction k with
  | zero => intro u h; have : u = 0 := by simpa using h
            subst this; simp [Zht]
  | succ k ih =>
    intro u h
    by_cases e : u = 0
    · subst e; simp [Zht]
    · rw [Zky e]
      have := ih (u / 10) (by rw [Nat.pow_succ] at h; omega)
      simp; omega
theorem Ycr : ∀ (u : Nat) (x : Int), x ∈ Zhm u → 0 ≤ x ∧ x ≤ 255 := by
  intro u
  induction u using Nat.strongRecOn with
  | _ u ih =>
    intro x hx
    by_cases e : u = 0
    · subst e; simp [Zht] at hx
    · rw [Zky e] at hx
      rcases List.mem_append.1 hx with h | h
      · exact ih (u / 10) (by omega) x h
      · simp at h; omega
theorem Zyu : ∀ u : Nat, u ≠ 0 → (Zhm u).map (fun n => UInt8.ofNat n.toNat) = Lib.decDigits u := by
  intro u
  induction u using Nat.strongRecOn with
  | _ u ih =>
    intro e
    rw [Zky e, Lib.decDigits, List.map_append]
    by_cases h : u < 10
    · rw [dif_pos h, show u / 10 = 0 by omega, Zht]
      simp only [List.map_nil, List.nil_append, List.map_cons]
      congr 2
      omega
    · rw [dif_neg h, ih (u / 10) (by omega) (by omega)]
      simp only [List.map_cons, List.map_nil]
      congr 3
theorem Zng {n : Int} (h : 0 < n) : Zeb n = Zgn (Zhm n.natAbs) := by
  unfold Zeb Zgn Lib.itoa
  rw [if_neg (by omega), Zyu _ (by omega), show n.toNat = n.natAbs by omega]
theorem Znf {n : Int} (h : n < 0) : Zeb n = (⟨#[45]⟩ : ByteArray) ++ Zgn (Zhm n.natAbs) := by
  unfold Zeb Zgn Lib.itoa
  rw [if_pos h, Zyu _ (by omega)]
  apply ByteArray.ext
  rw [ByteArray.data_append]
  simp
theorem Zkx : Zeb 0 = (⟨#[48]⟩ : ByteArray) := by
  unfold Zeb Lib.itoa
  rw [if_neg (by decide)]
  simp [Lib.decDigits]
theorem Zqv (xs : List Int) : (Zgn xs).size = xs.length := by simp [Zgn, ByteArray.size]
theorem Zop {n : Int} (h : -9223372036854775808 ≤ n ∧ n ≤ 9223372036854775807) : (Zeb n).size ≤ 20 := by
  have hl := Zyk 19 n.natAbs (by omega)
  rcases Int.lt_trichotomy n 0 with h1 | h1 | h1
  · rw [Znf h1, ByteArray.size_append, Zqv]
    have : (⟨#[45]⟩ : ByteArray).size = 1 := rfl
    omega
  · subst h1; rw [Zkx]; decide
  · rw [Zng h1, Zqv]; omega
theorem Zyl (k : Int) : (Int.tdiv k 10).natAbs = k.natAbs / 10 := Int.natAbs_tdiv k 10
theorem tmod_abs (k : Int) : (Int.tmod k 10).natAbs = k.natAbs % 10 := Int.natAbs_tmod k 10
theorem digs_nil {u : Nat} (h : (Zhm u).length = 0) : u = 0 := by
  apply Classical.byContradiction
  intro e
  rw [Zky e] at h
  simp at h
theorem Zus (n base : Int) (h : -9223372036854775808 ≤ n ∧ n ≤ 9223372036854775807) (hb : base = 10) : Con Tryz.prog 61 [I n, I base] true (Sv (Zeb n)) := by
  subst hb
  refine Zga (vals := [.int .i64 n, .int .i64 10]) fun w hw => ?_
  refine (Tryz.strconv_FormatInt_10 n h.1 h.2 w (WX_tab hw)).mono ?_
  rintro e w' ⟨rfl, k, os, rfl⟩
  exact ⟨rfl, Lib.below_grow _ _ (Nat.le_refl _) k os⟩
theorem Zpw (n : Int) (hn : -9223372036854775808 ≤ n ∧ n ≤ 9223372036854775807) : Con Tryz.prog 24 [I n] true (Sv (Zeb n)) := by
  refine Zdc (fn := Tryz.f24) (nt := 5) Tryz.func24 rfl rfl rfl rfl (by simp [Zah, Zak]) fun B hB => ?_
  refine aR [] [0] [] [I n] [] [] hB trivial ?_
  refine aR [(1, .call [(true, .any), (true, .any)] true (Sv (Zeb n)))] [2] [] [Sv (Zeb n)] [] [Con Tryz.prog 61 [I n, I 10] true (Sv (Zeb n)) ∧ True] hB ⟨⟨(Zus n 10 (by omega) rfl), trivial⟩, trivial⟩ ?_
  refine Zax ?_
  refine Zba hB (Sv (Zeb n)) (by kernel_rfl) (.inl rfl) rfl (fun _ => trivial)
def Zje (sep : ByteArray) : List ByteArray → ByteArray
  | [] => ⟨#[]⟩
  | y :: l => (sep ++ y) ++ Zje sep l
def jnB (sep : ByteArray) : List ByteArray → ByteArray
  | [] => ⟨#[]⟩
  | x :: l => x ++ Zje sep l
theorem Zjf (x : ByteArray) : x ++ (⟨#[]⟩ : ByteArray) = x := by apply ByteArray.ext; simp
theorem nil_ba (x : ByteArray) : (⟨#[]⟩ : ByteArray) ++ x = x := by apply ByteArray.ext; simp
theorem Zqw (sep y : ByteArray) : ∀ l, Zje sep (l ++ [y]) = (Zje sep l ++ sep) ++ y
  | [] => by simp only [List.nil_append, Zje, Zjf, nil_ba]
  | x :: l => by simp only [List.cons_append, Zje, Zqw sep y l, ByteArray.append_assoc]
theorem Zsh {sep y : ByteArray} {l : List ByteArray} (h : l ≠ []) : jnB sep (l ++ [y]) = (jnB sep l ++ sep) ++ y := by
  cases l with
  | nil => exact absurd rfl h
  | cons x l => simp only [List.cons_append, jnB, Zqw, ByteArray.append_assoc]
def jnZ (xs : List ByteArray) : Nat → Nat
  | 0 => 0
  | k + 1 => jnZ xs k + (at_ xs k).size
theorem Zst (x : ByteArray) (xs : List ByteArray) : ∀ k, jnZ (x :: xs) (k + 1) = x.size + jnZ xs k
  | 0 => by simp [jnZ, at_]
  | k + 1 => by rw [jnZ, Zst x xs k, jnZ]; simp [at_]; omega
theorem Zqx (sep : ByteArray) : ∀ xs, (Zje sep xs).size = jnZ xs xs.length + sep.size * xs.length
  | [] => rfl
  | x :: l => by rw [Zje, ByteArray.size_append, ByteArray.size_append, Zqx sep l, List.length_cons, Zst, Nat.mul_succ]; omega
theorem jnB_size (sep : ByteArray) {xs : List ByteArray} (h : xs ≠ []) : (jnB sep xs).size = jnZ xs xs.length + sep.size * (xs.length - 1) := by
  cases xs with
  | nil => exact absurd rfl h
  | cons x l => rw [jnB, ByteArray.size_append, Zqx, List.length_cons, Zst, Nat.add_sub_cancel]; omega
def noB (c : UInt8) (s : ByteArray) : Prop := c ∉ s.data.toList
def Zkf (c : UInt8) (s : ByteArray) : List ByteArray := Lib.splitB ⟨#[c]⟩ 0 (Lib.countB s ⟨#[c]⟩) s
theorem Zka (c : UInt8) : ∀ l : List UInt8, c ∉ l → Lib.indexByte l c = -1
  | [], _ => rfl
  | b :: l, h => by
    have h1 : ¬ b = c := fun e => h (by simp [e])
    have h2 := Zka c l (fun e => h (by simp [e]))
    simp [Lib.indexByte, h1, h2]
theorem Zli (c : UInt8) (r : List UInt8) : ∀ l : List UInt8, c ∉ l → Lib.indexByte (l ++ c :: r) c = (l.length : Int)
  | [], _ => by simp [Lib.indexByte]
  | b :: l, h => by
    have h1 : ¬ b = c := fun e => h (by simp [e])
    have h2 := Zli c r l (fun e => h (by simp [e]))
    have h3 : ¬ (l.length : Int) = -1 := by omega
    simp [Lib.indexByte, h1, h2, h3]
theorem Zjs {c : UInt8} {s : ByteArray} (h : noB c s) : Zkf c s = [s] := by
  have hi : Lib.indexB s ⟨#[c]⟩ = -1 := by
    show Lib.index s.data.toList [c] = -1
    rw [Lib.index_one, Zka c _ h]
  unfold Zkf
  rw [Lib.countB_miss _ _ hi, Lib.splitB_zero]
theorem ext_left (x y : ByteArray) : (x ++ y).extract 0 x.size = x := by
  exact ByteArray.extract_append_eq_left rfl
theorem Ydq (x y : ByteArray) : (x ++ y).extract x.size (x ++ y).size = y := by
  exact ByteArray.extract_append_eq_right rfl ByteArray.size_append
theorem Znb {c : UInt8} {x r : ByteArray} (h : noB c x) : Zkf c ((x ++ ⟨#[c]⟩) ++ r) = x :: Zkf c r := by
  have hi : Lib.indexB ((x ++ ⟨#[c]⟩) ++ r) ⟨#[c]⟩ = ((x.size : Nat) : Int) := by
    show Lib.index ((x ++ ⟨#[c]⟩) ++ r).data.toList [c] = _
    rw [Lib.index_one]
    have : ((x ++ ⟨#[c]⟩) ++ r).data.toList = x.data.toList ++ c :: r.data.toList := by simp
    rw [this, Zli c _ _ h]
    rfl
  have hz : (x ++ (⟨#[c]⟩ : ByteArray)).size = x.size + (⟨#[c]⟩ : ByteArray).size := by rw [ByteArray.size_append]
  have he : ((x ++ ⟨#[c]⟩) ++ r).extract (x.size + (⟨#[c]⟩ : ByteArray).size) ((x ++ ⟨#[c]⟩) ++ r).size = r := by
    rw [← hz]; exact Ydq _ _
  have hl : ((x ++ ⟨#[c]⟩) ++ r).extract 0 (x.size + 0) = x := by
    rw [Nat.add_zero, ByteArray.append_assoc]; exact ext_left _ _
  unfold Zkf
  rw [Lib.countB_hit _ _ _ (show 1 ≤ (⟨#[c]⟩ : ByteArray).size from Nat.le_refl 1) hi, he, Nat.add_comm 1, Lib.splitB_hit _ _ _ _ _ hi, he, hl]
theorem Znd {c : UInt8} : ∀ {xs : List ByteArray}, xs ≠ [] → (∀ x ∈ xs, noB c x) → Zkf c (jnB ⟨#[c]⟩ xs) = xs
  | [], h, _ => absurd rfl h
  | [x], _, h => by
    rw [jnB, Zje, Zjf]; exact Zjs (h x (by simp))
  | x :: y :: l, _, h => by
    have e : jnB ⟨#[c]⟩ (x :: y :: l) = (x ++ ⟨#[c]⟩) ++ jnB ⟨#[c]⟩ (y :: l) := by simp only [jnB, Zje, ByteArray.append_assoc]
    rw [e, Znb (h x (by simp)), Znd (by simp) fun z hz => h z (by simp [hz])]
theorem Zwv {c : UInt8} {x y : ByteArray} (h1 : noB c x) (h2 : noB c y) : noB c (x ++ y) := by
  unfold noB at *; simp [h1, h2]
theorem Zol {c : UInt8} : noB c ⟨#[]⟩ := by simp [noB]
theorem Zut {c : UInt8} {sep : ByteArray} (hs : noB c sep) : ∀ {xs : List ByteArray}, (∀ x ∈ xs, noB c x) → noB c (Zje sep xs)
  | [], _ => Zol
  | x :: l, h => Zwv (Zwv hs (h x (by simp))) (Zut hs fun z hz => h z (by simp [hz]))
theorem noB_join {c : UInt8} {sep : ByteArray} (hs : noB c sep) : ∀ {xs : List ByteArray}, (∀ x ∈ xs, noB c x) → noB c (jnB sep xs)
  | [], _ => Zol
  | x :: l, h => Zwv (h x (by simp)) (Zut hs fun z hz => h z (by simp [hz]))
theorem Zdx : ∀ (k u : Nat), u < k → ∀ b ∈ Lib.decDigits u, 48 ≤ b.toNat ∧ b.toNat ≤ 57
  | 0, u, h, _, _ => absurd h (Nat.not_lt_zero _)
  | k + 1, u, h, b, hb => by
    rw [Lib.decDigits] at hb
    split at hb
    · have hb := List.mem_singleton.1 hb; subst hb; rw [UInt8.toNat_ofNat']; omega
    · rcases List.mem_append.1 hb with hb | hb
      · exact Zdx k (u / 10) (by omega) b hb
      · have hb := List.mem_singleton.1 hb; subst hb; rw [UInt8.toNat_ofNat']; omega
theorem Zzx (n : Int) : ∀ b ∈ (Zeb n).data.toList, b.toNat = 45 ∨ (48 ≤ b.toNat ∧ b.toNat ≤ 57) := fun b hb => by
  have hb : b ∈ Lib.itoa n := by simpa [Zeb] using hb
  unfold Lib.itoa at hb
  split at hb
  · rcases List.mem_cons.1 hb with e | hb
    · subst e; exact .inl rfl
    · exact .inr (Zdx _ _ (Nat.lt_succ_self _) b hb)
  · exact .inr (Zdx _ _ (Nat.lt_succ_self _) b hb)
theorem Zyo {c : UInt8} (hc : c.toNat < 45 ∨ 57 < c.toNat) (n : Int) : noB c (Zeb n) := fun h => by
  have := Zzx n c h
  omega
theorem Zgg (u : Nat) : Lib.decDigits u ≠ [] := by rw [Lib.decDigits]; split <;> simp
theorem Ydr (M : Nat) : ∀ (l r : List UInt8) (acc : Nat), Lib.parseUintM M acc (l ++ r) = match Lib.parseUintM M acc l with | .ok v => Lib.parseUintM M v r | .«syntax» => .«syntax» | .range => .range
  | [], r, acc => rfl
  | c :: l, r, acc => by
    simp only [List.cons_append, Lib.parseUintM]
    split
    · split
      · rfl
      · split
        · rfl
        · exact Ydr M l r _
    · rfl
theorem Zww {M : Nat} (hM : 1000000000000000000 ≤ M) : ∀ (k u : Nat), u < k → u < 1000000000000000000 → Lib.parseUintM M 0 (Lib.decDigits u) = .ok u
  | 0, u, h, _ => absurd h (Nat.not_lt_zero _)
  | k + 1, u, h, h2 => by
    rw [Lib.decDigits]
    split
    · rename_i h3
      have e : (UInt8.ofNat (48 + u)).toNat = 48 + u := by rw [UInt8.toNat_ofNat']; omega
      simp only [Lib.parseUintM, e]
      rw [if_pos (by omega), if_neg (by omega), if_neg (by omega)]
      simp
    · rename_i h3
      rw [Ydr, Zww hM k (u / 10) (by omega) (by omega)]
      have e : (UInt8.ofNat (48 + u % 10)).toNat = 48 + u % 10 := by rw [UInt8.toNat_ofNat']; omega
      simp only [Lib.parseUintM, e]
      rw [if_pos (by omega), if_neg (by omega), if_neg (by omega)]
      congr 1
      omega
theorem Zuc {n : Int} (h : -1000000000000000000 < n ∧ n < 1000000000000000000) : Lib.parseIntB 64 (Zeb n).data.toList = .ok n := by
  have e : (Zeb n).data.toList = Lib.itoa n := by simp [Zeb]
  rw [e]
  unfold Lib.itoa
  split
  · rename_i h0
    rw [Lib.parseIntB_minus]
    unfold Lib.parseUintB
    rw [if_neg (Zgg _), Zww (by decide) _ _ (Nat.lt_succ_self _) (by omega)]
    simp only [Lib.signedC]
    rw [if_neg (by omega)]
    congr 1
    omega
  · rename_i h0
    obtain ⟨c, r, hc⟩ : ∃ c r, Lib.decDigits n.toNat = c :: r := by
      cases h : Lib.decDigits n.toNat with
      | nil => exact absurd h (Zgg _)
      | cons c r => exact ⟨c, r, rfl⟩
    have hb := Zdx _ n.toNat (Nat.lt_succ_self _) c (by rw [hc]; simp)
    rw [hc, Lib.parseIntB_plain 64 c r (by omega) (by omega), ← hc]
    unfold Lib.parseUintB
    rw [if_neg (Zgg _), Zww (by decide) _ _ (Nat.lt_succ_self _) (by omega)]
    simp only [Lib.signlessC]
    rw [if_neg (by omega)]
    congr 1
    omega
theorem Zoh {P : Program} {f : FuncId} {vals : List Value} {n : Nat} {T : TypeId} {cs : Array Value} {g : Nat → Value} (hn : n ≤ maxLen) (hc : ∀ i, i < n → cs[i]? = some (g i) ∧ (g i).oneCell' = true)
    (h : ∀ w, WX w → Calls P f vals.toArray w fun e w' => e = .returned (.slice (some ⟨w.heap.size, 0, none⟩) n n) ∧ w' = w.alloc (.cells cs T)) : Con P f (vals.map .val) true (.sl true 1 n fun i => [.val (g i)]) := by
  intro B vals' hbo hm hr
  have : vals' = vals := by
    have hl := hr.1
    simp at hl
    apply List.ext_getElem hl.symm
    intro i h1 h2
    have := hr.2 i (.val vals[i]) vals'[i] (by simp [List.getElem?_map, List.getElem?_eq_getElem h2]) (List.getElem?_eq_getElem h1)
    generalize vals[i] = x at *
    generalize vals'[i] = y at *
    cases this with | tree _ _ h => cases h; rfl
  subst this
  refine (h B.w0 (hm.glob _ (Kept.refl _ _))).mono ?_
  rintro e w' ⟨rfl, rfl⟩
  have hk : Kept B.w0 (fun _ => False) (B.w0.alloc (.cells cs T)) := ⟨rfl, rfl, rfl, by simp, fun k hk _ => Go.heap_alloc_old _ _ hk⟩
  have hnew := heap_alloc_new B.w0 (.cells cs T)
  refine ⟨_, B.κ0, rfl, hm.world hk, .tree _ _ (.sl true 1 n _ B.w0.heap.size 0 n (fun i _ => g i) ⟨(Array.getElem?_eq_some_iff.1 hnew).1, ⟨fun _ => Nat.le_refl _, fun h => absurd h (Nat.lt_irrefl _)⟩, fun i hi => absurd rfl hi⟩ (Nat.le_refl _) hn (fun _ _ => rfl) (fun i j hi hj => ?_) fun i j u hi hu => ?_)⟩
  · have : j = 0 := by omega
    subst this
    refine ⟨?_, (hc i hi).2⟩
    have := (hc i hi).1
    rw [Lib.cell_of_heap hnew]
    simpa using this
  · cases j with
    | zero => simp at hu; subst hu; exact .val _
    | succ j => simp at hu
theorem Zke {sep s : ByteArray} (h1 : sep.size = 1) : (Lib.splitB sep 0 (Lib.countB s sep) s).length = Lib.countB s sep + 1 := Lib.splitB_all sep (by omega) 0 _ s rfl
def Zcs (sep s : ByteArray) : List ByteArray := Lib.splitB sep 0 (Lib.countB s sep) s
def sufB (s p : ByteArray) : Bool := Lib.hasSuffix s.data.toList p.data.toList
def Zua (s p : ByteArray) : ByteArray := ⟨(Lib.trimSuffix s.data.toList p.data.toList).toArray⟩
theorem Zsi (x y : ByteArray) : sufB (x ++ y) y = true := by simp [sufB, Lib.hasSuffix]
theorem Zsj (x y : ByteArray) : Zua (x ++ y) y = x := by
  unfold Zua Lib.trimSuffix
  have h := Zsi x y
  unfold sufB at h
  rw [if_pos h]
  apply ByteArray.ext
  simp
theorem jnB_one (sep : ByteArray) {xs : List ByteArray} (h : xs.length = 1) : jnB sep xs = at_ xs 0 := by
  match xs, h with
  | [x], _ => simp [jnB, Zje, Zjf, at_]
theorem Zkw {α : Type} [Inhabited α] (xs : List α) (k : Nat) : at_ (xs.drop 1) k = at_ xs (k + 1) := by
  simp [at_, Nat.add_comm]
theorem jnB_take {sep : ByteArray} {xs : List ByteArray} {k : Nat} (h : k + 1 < xs.length) : jnB sep (xs.take (k + 2)) = (jnB sep (xs.take (k + 1)) ++ sep) ++ at_ xs (k + 1) := by
  rw [show xs.take (k + 2) = xs.take (k + 1) ++ [at_ xs (k + 1)] from by rw [List.take_succ_eq_append_getElem h, Zez h], Zsh]
  intro e
  have h2 : (xs.take (k + 1)).length = k + 1 := by rw [List.length_take]; omega
  rw [e] at h2
  simp at h2
theorem Yds {sep : ByteArray} {xs : List ByteArray} (h : 1 ≤ xs.length) : jnB sep (xs.take 1) = at_ xs 0 := by
  have e : (xs.take 1).length = 1 := by simp; omega
  rw [jnB_one sep e]
  simp [at_]
def dcV (s : ByteArray) : Int := match Lib.parseIntB 64 s.data.toList with | .ok v => v | _ => 0
theorem ddLen : ∀ (k u : Nat), 1 ≤ k → u < 10 ^ k → (Lib.decDigits u).length ≤ k
  | 0, _, h, _ => absurd h (by decide)
  | k + 1, u, _, h => by
    rw [Lib.decDigits]
    split
    · simp
    · rename_i h3
      rw [List.length_append]
      by_cases hk : k = 0
      · subst hk; omega
      · have := ddLen k (u / 10) (by omega) (by rw [Nat.pow_succ] at h; omega)
        simp only [List.length_cons, List.length_nil]; omega
theorem Ycl {n : Int} (h : -1000000000000000000 < n ∧ n < 1000000000000000000) : 1 ≤ (Lib.trimPrefix (Zeb n).data.toList [45]).length ∧ (Lib.trimPrefix (Zeb n).data.toList [45]).length ≤ 18 := by
  have e : (Zeb n).data.toList = Lib.itoa n := by simp [Zeb]
  have hne : ∀ u, 1 ≤ (Lib.decDigits u).length := fun u => List.length_pos_iff.2 (Zgg u)
  rw [e]
  unfold Lib.itoa
  split
  · have : Lib.trimPrefix (45 :: Lib.decDigits n.natAbs) [45] = Lib.decDigits n.natAbs := by simp [Lib.trimPrefix, Lib.hasPrefix]
    rw [this]
    exact ⟨hne _, ddLen 18 _ (by decide) (by omega)⟩
  · have hl := ddLen 18 n.toNat (by decide) (by omega)
    have h1 := hne n.toNat
    obtain ⟨c, r, hc⟩ : ∃ c r, Lib.decDigits n.toNat = c :: r := by
      cases h : Lib.decDigits n.toNat with
      | nil => exact absurd h (Zgg _)
      | cons c r => exact ⟨c, r, rfl⟩
    have hb := Zdx _ n.toNat (Nat.lt_succ_self _) c (by rw [hc]; simp)
    have : Lib.trimPrefix (Lib.decDigits n.toNat) [45] = Lib.decDigits n.toNat := by
      have h2 : ¬ (45 : UInt8) = c := fun e => by subst e; have : (45 : UInt8).toNat = 45 := rfl; omega
      rw [hc]
      simp [Lib.trimPrefix, Lib.hasPrefix, h2]
    rw [this]
    exact ⟨h1, hl⟩
theorem Zsk {P : Program} {f : FuncId} {vals : List Value} {v u : Value} {fr : Bool} (h : ∀ w, WX w → Calls P f vals.toArray w fun e w' => e = .returned (.tuple #[v, u]) ∧ Below w.heap.size w w') : Con P f (vals.map .val) fr (.tup [.val v, .val u]) := by
  intro B vals' hbo hm hr
  have h1 := Zga (fr := fr) h B vals' hbo hm hr
  refine h1.mono ?_
  rintro e w' ⟨v', κ', rfl, h2, h3⟩
  refine ⟨v', κ', rfl, h2, ?_⟩
  have e : v' = .tuple #[v, u] := h3.val_of
  subst e
  exact .tup _ _ rfl fun q a x ha hx => by
    match q, ha, hx with
    | 0, ha, hx => simp at ha hx; subst ha; subst hx; exact .tree _ _ (.val _)
    | 1, ha, hx => simp at ha hx; subst ha; subst hx; exact .tree _ _ (.val _)
    | q + 2, ha, _ => simp at ha
theorem Zov {α β : Type} [Inhabited α] [Inhabited β] {xs : List α} {f : α → β} {k : Nat} (h : k < xs.length) : at_ (xs.map f) k = f (at_ xs k) := by simp [at_, h]
theorem Zfh {α β : Type} [Inhabited α] {xs : List α} {f : α → β} {i : Int} {y : β} (h0 : 0 ≤ i) (h : i.toNat < xs.length) (hy : y = f (at_ xs i.toNat)) : (xs.take (i + 1).toNat).map f = (xs.take i.toNat).map f ++ [y] := by
  have e : (i + 1).toNat = i.toNat + 1 := by omega
  rw [e, List.take_succ_eq_append_getElem h, hy, Zez h]
  simp only [List.map_append, List.map_cons, List.map_nil]
theorem Ycq {α β : Type} {xs : List α} {f : α → β} {i : Int} (h : (xs.length : Int) ≤ i) : (xs.take i.toNat).map f = xs.map f := by
  rw [List.take_of_length_le (by omega)]
theorem jnZ_le {B : Nat} {xs : List ByteArray} (h : ∀ x ∈ xs, x.size ≤ B) : ∀ k, k ≤ xs.length → jnZ xs k ≤ B * k
  | 0, _ => Nat.zero_le _
  | k + 1, hk => by
    have h1 := jnZ_le h k (by omega)
    have h2 := h _ (Zct (show k < xs.length from hk))
    rw [jnZ, Nat.mul_succ]; omega
theorem Ydt {xs : List Int} (h : ∀ x ∈ xs, -1000000000000000000 < x ∧ x < 1000000000000000000) : ∀ y ∈ xs.map Zeb, y.size ≤ 20 := fun y hy => by
  obtain ⟨x, hx, rfl⟩ := List.mem_map.1 hy
  have := h x hx
  exact Zop (by omega)
theorem jnB_le {sep : ByteArray} {B : Nat} {xs : List ByteArray} (hs : sep.size = 1) (h : ∀ x ∈ xs, x.size ≤ B) : (jnB sep xs).size ≤ (B + 1) * xs.length := by
  by_cases e : xs = []
  · subst e; exact Nat.le_refl _
  · have h1 := jnZ_le h xs.length (Nat.le_refl _)
    rw [jnB_size sep e, hs, Nat.add_mul]; omega
theorem Znc (c : UInt8) (s : ByteArray) : (Zcs ⟨#[c]⟩ s).length ≤ s.size + 1 := by
  have h1 := Lib.countB_le ⟨#[c]⟩ (Nat.le_refl 1) s.size s (Nat.le_refl _)
  have h2 := Zke (sep := ⟨#[c]⟩) (s := s) rfl
  show (Lib.splitB ⟨#[c]⟩ 0 (Lib.countB s ⟨#[c]⟩) s).length ≤ _
  omega
theorem Zud (s p : ByteArray) : (Zua s p).size ≤ s.size := by
  show (Lib.trimSuffix s.data.toList p.data.toList).toArray.size ≤ s.data.size
  unfold Lib.trimSuffix
  split
  · simp
  · simp
def Zek : List ByteArray → Nat → ByteArray
  | _, 0 => ⟨#[]⟩
  | ls, k + 1 => Zek ls k ++ (at_ ls k ++ ⟨#[10]⟩)
theorem Zoy {ls : List ByteArray} : ∀ {k}, k < ls.length → Zek ls (k + 1) = jnB ⟨#[10]⟩ (ls.take (k + 1)) ++ ⟨#[10]⟩
  | 0, h => by rw [Zek, Zek, nil_ba, Yds h]
  | k + 1, h => by
    rw [Zek, Zoy (by omega), jnB_take (by omega)]
    simp only [ByteArray.append_assoc]
theorem Zul {ls : List ByteArray} {k : Nat} : Zek ls (k + 1) ≠ ⟨#[]⟩ := fun e => by
  have := congrArg ByteArray.size e
  simp only [Zek, ByteArray.size_append] at this
  have h1 : (⟨#[10]⟩ : ByteArray).size = 1 := rfl
  have h2 : (⟨#[]⟩ : ByteArray).size = 0 := rfl
  omega
theorem Zlz {ls : List ByteArray} (h : ls ≠ []) : ∃ k, ls.length = k + 1 ∧ Zek ls ls.length = jnB ⟨#[10]⟩ ls ++ ⟨#[10]⟩ := by
  obtain ⟨k, hk⟩ : ∃ k, ls.length = k + 1 := ⟨ls.length - 1, by have := List.length_pos_iff.2 h; omega⟩
  refine ⟨k, hk, ?_⟩
  rw [hk, Zoy (by omega), ← hk, List.take_length]
theorem Ycy {ls : List ByteArray} (h : ls ≠ []) : sufB (Zek ls ls.length) ⟨#[10]⟩ = true := by
  obtain ⟨k, hk, e⟩ := Zlz h
  rw [e]; exact Zsi _ _
theorem Zoz {ls : List ByteArray} {B : Nat} (h : ∀ l ∈ ls, l.size ≤ B) : ∀ k, k ≤ ls.length → (Zek ls k).size ≤ (B + 1) * k
  | 0, _ => Nat.zero_le _
  | k + 1, hk => by
    have h1 := Zoz h k (by omega)
    have h2 := h _ (Zct (show k < ls.length from hk))
    have h3 : (⟨#[10]⟩ : ByteArray).size = 1 := rfl
    rw [Zek, ByteArray.size_append, ByteArray.size_append, Nat.mul_succ]; omega
def Yah (l : ByteArray) (ws : List Int) : ByteArray := jnB ⟨#[32]⟩ (l :: ws.map Zeb)
def Zfr (p : Perceptron) : List ByteArray := (List.range p.Labels.length).map fun k => Yah (at_ p.Labels k) (at_ p.Weights k)
def Zeq (p : Perceptron) : ByteArray := if Zbb p = true then Zek (Zfr p) p.Labels.length else ⟨#[]⟩
theorem Zdy (p : Perceptron) : (Zfr p).length = p.Labels.length := by simp [Zfr]
theorem Zkz {p : Perceptron} {k : Nat} (h : k < p.Labels.length) : at_ (Zfr p) k = Yah (at_ p.Labels k) (at_ p.Weights k) := by
  have h2 : k < (Zfr p).length := by rw [Zdy]; exact h
  rw [Zez h2]; simp [Zfr]
theorem pcLn_0 (l : ByteArray) (ws : List Int) : jnB ⟨#[32]⟩ (l :: (ws.take 0).map Zeb) = l := by simp [jnB, Zje, Zjf]
theorem pcLn_1 (l : ByteArray) {ws : List Int} {k : Nat} (h : k < ws.length) : jnB ⟨#[32]⟩ (l :: (ws.take (k + 1)).map Zeb) = jnB ⟨#[32]⟩ (l :: (ws.take k).map Zeb) ++ ((⟨#[32]⟩ : ByteArray) ++ Zeb (at_ ws k)) := by
  rw [List.take_succ_eq_append_getElem h, List.map_append, ← List.cons_append, Zez h]
  show jnB ⟨#[32]⟩ (l :: (ws.take k).map Zeb ++ [Zeb ws[k]]) = _
  rw [Zsh (by simp), ByteArray.append_assoc]
theorem Zsl (l : ByteArray) {ws : List Int} {k : Nat} (h : ws.length ≤ k) : jnB ⟨#[32]⟩ (l :: (ws.take k).map Zeb) = Yah l ws := by
  rw [List.take_of_length_le h]; rfl
theorem Zon {l : ByteArray} {ws : List Int} {k : Nat} (hl : l.size ≤ 1) (hw : ∀ x ∈ ws, -1000000000000000000 < x ∧ x < 1000000000000000000) (hn : ws.length ≤ 25) : (jnB ⟨#[32]⟩ (l :: (ws.take k).map Zeb)).size ≤ 600 := by
  have h := jnB_le (sep := ⟨#[32]⟩) (B := 20) rfl (xs := l :: (ws.take k).map Zeb) fun y hy => by
    rcases List.mem_cons.1 hy with rfl | hy
    · omega
    · exact Ydt (fun x hx => hw x (List.mem_of_mem_take hx)) y hy
  have h2 : (l :: (ws.take k).map Zeb).length ≤ 26 := by simp only [List.length_cons, List.length_map, List.length_take]; omega
  have h3 : (20 + 1) * (l :: (ws.take k).map Zeb).length ≤ (20 + 1) * 26 := Nat.mul_le_mul_left _ h2
  omega
theorem Zqn {ws : List Int} (h : ws.length = 25 ∧ ∀ k, k < 25 → -1000000 ≤ at_ ws k ∧ at_ ws k ≤ 1000000) : ∀ x ∈ ws, -1000000000000000000 < x ∧ x < 1000000000000000000 := fun x hx => by
  obtain ⟨j, hj, e⟩ := List.getElem_of_mem hx
  have := h.2 j (by omega)
  rw [Zez hj, e] at this
  omega
theorem lab1 {s : ByteArray} (h : Zci s = true) : s.size = 1 := by simp only [Zci, Bool.and_eq_true, decide_eq_true_eq] at h; exact h.1
theorem Zzy {p : Perceptron} (h : Zbb p = true) : ∀ y ∈ Zfr p, y.size ≤ 600 := fun y hy => by
  obtain ⟨k, hk, rfl⟩ := List.mem_map.1 hy
  rw [List.mem_range] at hk
  have hq := Zcd.1 h
  have hr := Zcu hq.2.2 (j := k) (by omega)
  have := Zon (k := 25) (l := at_ p.Labels k) (by rw [lab1 (Zem hq.1 hk)]; decide) (Zqn hr) (by omega)
  rwa [Zsl _ (by omega)] at this
theorem Zie {p : Perceptron} (h : Zbb p = true) {k : Nat} (hk : k ≤ p.Labels.length) : (Zek (Zfr p) k).size ≤ 8000 := by
  have h1 := Zoz (Zzy h) k (by rw [Zdy]; exact hk)
  have := Zkk h
  omega
theorem Zfm {p : Perceptron} : (Zeq p).size ≤ 8000 := by
  unfold Zeq
  split
  · rename_i h; exact Zie h (Nat.le_refl _)
  · exact Nat.zero_le _
theorem Znh (xs ys : List Int) : Zgn (xs ++ ys) = Zgn xs ++ Zgn ys := by
  apply ByteArray.ext; apply Array.ext'; simp [Zgn]
theorem Zoo (s : ByteArray) : Zgn (Zgy s) = s := by
  apply ByteArray.ext; apply Array.ext'
  simp only [Zgn, Zgy, List.map_map, List.toList_toArray]
  have : ((fun n : Int => UInt8.ofNat n.toNat) ∘ fun b : UInt8 => (b.toNat : Int)) = id := funext fun b => by simp
  rw [this, List.map_id]
theorem Zuh (s : ByteArray) : ∀ x ∈ Zgy s, 0 ≤ x ∧ x ≤ 255 := fun x hx => by
  obtain ⟨b, _, rfl⟩ := List.mem_map.1 hx
  have := b.toNat_lt; omega
theorem Zym {xs ys : List Int} (h1 : ∀ x ∈ xs, 0 ≤ x ∧ x ≤ 255) (h2 : ∀ x ∈ ys, 0 ≤ x ∧ x ≤ 255) : ∀ x ∈ xs ++ ys, 0 ≤ x ∧ x ≤ 255 := fun x hx => (List.mem_append.1 hx).elim (h1 x) (h2 x)
theorem Zes (p : Perceptron) (ok_ : ∀ y ∈ p.Labels, y.size ≤ 9223372036854775807) : Con Tryz.prog 8 [Zae p] true (Sv (Zeq p)) := by
  refine Zdc (fn := Tryz.f8) (nt := 39) Tryz.func8 rfl rfl rfl rfl (by simp [Zah, Zak, Zdd, Zer]) fun B hB => ?_
  refine Zcg (x := Zae p) 0 rfl (fun len_p => ?_)
  simp [Zdt, Zgj, cI, cLI, cS, fI, fLI, fS, slI, Zbg, slS] at len_p
  refine aR [(0, .new 1)] [1] [1] [.ref 1 0] [some (Zag p)] [] hB trivial ?_
  refine Zal ?_
  refine Zal ?_
  rcases Bool.eq_false_or_eq_true (Zbb p) with h1 | h1
  ·have hok := h1
   have hq := Zcd.1 hok
   have hpn := Zkk hok
   refine Zby [(1, .call [(true, .any)] true (Bv true))] [1, 10] [1] [.ref 1 0, Bv false] [some (Zag p)] [Con Tryz.prog 14 [Zae p] true (Bv true) ∧ True] hB ⟨⟨(Zaq h1 (Zbl p ok_)), trivial⟩, trivial⟩ ?_
   refine Zac ?_
   refine Zay rfl ?_
   refine Zbf ?_
   refine Zac ?_
   refine aR [(0, .newb 3 60006 5)] [1, 3] [1, 3, 60006] [.ref 1 0, .ref 3 0] [some (Zag p), some (.bld 58 60006), some (.buf 5 false (⟨#[]⟩ : ByteArray))] [] hB trivial ?_
   refine Zal ?_
   refine aR [] [1, 3, 12, 13, 14] [1, 3, 60006] [.ref 1 0, .ref 3 0, slS false p.Labels, I (p.Labels.length : Int), I 0] [some (Zag p), some (.bld 58 60006), some (.buf 5 false (⟨#[]⟩ : ByteArray))] [] hB trivial ?_
   refine Zbo ?_
   refine Zdm (fun gn gσ => ∃ (k : Int) (tx : ByteArray), gn = ((p.Labels.length : Int) - k).toNat ∧ (0 ≤ k ∧ k ≤ (p.Labels.length : Int)) ∧ (tx = Zek (Zfr p) k.toNat) ∧ gσ = mkS [(1, .ref 1 0), (3, .ref 3 0), (12, slS false p.Labels), (13, I (p.Labels.length : Int)), (14, I k)] [(1, Zag p), (3, .bld 58 60006), (60006, .buf 5 false tx)]) (((p.Labels.length : Int) - 0).toNat) ⟨0, (⟨#[]⟩ : ByteArray), rfl, (by omega), (by rfl), rfl⟩ (fun gn gσ hI => ?_)
   obtain ⟨k, tx, rfl, hi0, htx, rfl⟩ := hI
   refine Zal ?_
   by_cases h2 : k < (p.Labels.length : Int)
   ·have hi : k.toNat < p.Labels.length := by omega
    have hks : (k + 1).toNat = k.toNat + 1 := by omega
    have hrow := Zcu hq.2.2 (j := k.toNat) (by omega)
    have hl1 := lab1 (Zem hq.1 hi)
    have hzl := Zie hok (k := k.toNat) (by omega)
    have hsz := fun j_ : Nat => Zon (k := j_) (l := at_ p.Labels k.toNat) (by omega) (Zqn hrow) (by omega)
    rw [← htx] at hzl
    refine Zby [(0, .dec true)] [1, 3, 12, 13, 14, 15] [1, 3, 60006] [.ref 1 0, .ref 3 0, slS false p.Labels, I (p.Labels.length : Int), I k, Bv true] [some (Zag p), some (.bld 58 60006), some (.buf 5 false tx)] [k < (p.Labels.length : Int)] hB ⟨h2, trivial⟩ ?_
    refine Zac ?_
    refine Zal ?_
    refine Zbc rfl ?_
    refine Zbf ?_
    refine Zac ?_
    refine Zal ?_
    refine Zbo ?_
    refine aR [] [1, 3, 4, 5, 12, 13, 14] [1, 3, 60006] [.ref 1 0, .ref 3 0, I k, Sv (at_ p.Labels k.toNat), slS false p.Labels, I (p.Labels.length : Int), I k] [some (Zag p), some (.bld 58 60006), some (.buf 5 false tx)] [(0 : Int) ≤ k ∧ k < (p.Labels.length : Int)] hB ⟨⟨(by omega), (by omega)⟩, trivial⟩ ?_
    refine aR [(1, .bw 3 60006 60007 (.string (at_ p.Labels k.toNat)) false (at_ p.Labels k.toNat))] [1, 3, 4, 12, 13, 14] [1, 3, 60007] [.ref 1 0, .ref 3 0, I k, slS false p.Labels, I (p.Labels.length : Int), I k] [some (Zag p), some (.bld 58 60007), some (.buf 5 false (tx ++ (at_ p.Labels k.toNat)))] [([.ref 3 0, Sv (at_ p.Labels k.toNat)] : List AV) = [.ref 3 0, Sv (at_ p.Labels k.toNat)] ∧ BwOK Tryz.prog 23 58 5 (.string (at_ p.Labels k.toNat)) false tx false (at_ p.Labels k.toNat)] hB ⟨⟨rfl, bw_ok (by have h3 : (⟨#[10]⟩ : ByteArray).size = 1 := rfl; have h4 : (⟨#[32]⟩ : ByteArray).size = 1 := rfl; (try simp only [ByteArray.size_append]); omega)⟩, trivial⟩ ?_
    refine Zal ?_
    refine aR [] [1, 3, 12, 13, 14, 25, 26, 27] [1, 3, 60007] [.ref 1 0, .ref 3 0, slS false p.Labels, I (p.Labels.length : Int), I k, slI false (at_ p.Weights k.toNat), I (((at_ p.Weights k.toNat).length) : Int), I 0] [some (Zag p), some (.bld 58 60007), some (.buf 5 false (tx ++ (at_ p.Labels k.toNat)))] [(0 : Int) ≤ k ∧ k < (p.Weights.length : Int)] hB ⟨⟨(by omega), (by omega)⟩, trivial⟩ ?_
    refine Zbo ?_
    refine Zdm (fun gn gσ => ∃ (j : Int) (ty : ByteArray), gn = (((at_ p.Weights k.toNat).length : Int) - j).toNat ∧ (0 ≤ j ∧ j ≤ ((at_ p.Weights k.toNat).length : Int)) ∧ (ty = Zek (Zfr p) k.toNat ++ jnB ⟨#[32]⟩ (at_ p.Labels k.toNat :: ((at_ p.Weights k.toNat).take j.toNat).map Zeb)) ∧ gσ = mkS [(1, .ref 1 0), (3, .ref 3 0), (12, slS false p.Labels), (13, I (p.Labels.length : Int)), (14, I k), (25, slI false (at_ p.Weights k.toNat)), (26, I (((at_ p.Weights k.toNat).length) : Int)), (27, I j)] [(1, Zag p), (3, .bld 58 60007), (60007, .buf 5 false ty)]) ((((at_ p.Weights k.toNat).length : Int) - 0).toNat) ⟨0, (tx ++ (at_ p.Labels k.toNat)), rfl, (by omega), (by rw [htx]; exact congrArg (Zek (Zfr p) k.toNat ++ ·) (pcLn_0 _ _).symm), rfl⟩ (fun gn gσ hI => ?_)
    obtain ⟨j, ty, rfl, hj0, hty, rfl⟩ := hI
    refine Zal ?_
    by_cases h3 : j < (((at_ p.Weights k.toNat).length) : Int)
    ·have hzy := congrArg ByteArray.size hty
     rw [ByteArray.size_append] at hzy
     have hzz := hsz j.toNat
     have hzq := Zie hok (k := k.toNat) (by omega)
     have hj : j.toNat < (at_ p.Weights k.toNat).length := by omega
     have hwb := hrow.2 j.toNat (by omega)
     have hj1 : (j + 1).toNat = j.toNat + 1 := by omega
     have hpl := pcLn_1 (at_ p.Labels k.toNat) hj
     have hdz := Zop (n := at_ (at_ p.Weights k.toNat) j.toNat) (by omega)
     refine Zby [(0, .dec true)] [1, 3, 12, 13, 14, 25, 26, 27, 28] [1, 3, 60007] [.ref 1 0, .ref 3 0, slS false p.Labels, I (p.Labels.length : Int), I k, slI false (at_ p.Weights k.toNat), I (((at_ p.Weights k.toNat).length) : Int), I j, Bv true] [some (Zag p), some (.bld 58 60007), some (.buf 5 false ty)] [j < (((at_ p.Weights k.toNat).length) : Int)] hB ⟨h3, trivial⟩ ?_
     refine Zac ?_
     refine Zal ?_
     refine Zbc rfl ?_
     refine Zbf ?_
     refine Zac ?_
     refine Zal ?_
     refine Zbo ?_
     refine aR [] [1, 3, 7, 12, 13, 14, 25, 26, 27] [1, 3, 60007] [.ref 1 0, .ref 3 0, I (at_ (at_ p.Weights k.toNat) j.toNat), slS false p.Labels, I (p.Labels.length : Int), I k, slI false (at_ p.Weights k.toNat), I (((at_ p.Weights k.toNat).length) : Int), I j] [some (Zag p), some (.bld 58 60007), some (.buf 5 false ty)] [(0 : Int) ≤ j ∧ j < (((at_ p.Weights k.toNat).length) : Int)] hB ⟨⟨(by omega), (by omega)⟩, trivial⟩ ?_
     refine Zby [(1, .call [(true, .any)] true (Sv (Zeb (at_ (at_ p.Weights k.toNat) j.toNat)))), (3, .bw 3 60007 60006 (.string ((⟨#[32]⟩ : ByteArray) ++ (Zeb (at_ (at_ p.Weights k.toNat) j.toNat)))) false ((⟨#[32]⟩ : ByteArray) ++ (Zeb (at_ (at_ p.Weights k.toNat) j.toNat))))] [1, 3, 12, 13, 14, 25, 26, 27] [1, 3, 60006] [.ref 1 0, .ref 3 0, slS false p.Labels, I (p.Labels.length : Int), I k, slI false (at_ p.Weights k.toNat), I (((at_ p.Weights k.toNat).length) : Int), I j] [some (Zag p), some (.bld 58 60006), some (.buf 5 false (ty ++ ((⟨#[32]⟩ : ByteArray) ++ (Zeb (at_ (at_ p.Weights k.toNat) j.toNat)))))] [Con Tryz.prog 24 [I (at_ (at_ p.Weights k.toNat) j.toNat)] true (Sv (Zeb (at_ (at_ p.Weights k.toNat) j.toNat))) ∧ True, (⟨#[32]⟩ : ByteArray).size + (Zeb (at_ (at_ p.Weights k.toNat) j.toNat)).size ≤ 9223372036854775807, ([.ref 3 0, Sv ((⟨#[32]⟩ : ByteArray) ++ (Zeb (at_ (at_ p.Weights k.toNat) j.toNat)))] : List AV) = [.ref 3 0, Sv ((⟨#[32]⟩ : ByteArray) ++ (Zeb (at_ (at_ p.Weights k.toNat) j.toNat)))] ∧ BwOK Tryz.prog 23 58 5 (.string ((⟨#[32]⟩ : ByteArray) ++ (Zeb (at_ (at_ p.Weights k.toNat) j.toNat)))) false ty false ((⟨#[32]⟩ : ByteArray) ++ (Zeb (at_ (at_ p.Weights k.toNat) j.toNat)))] hB ⟨⟨(Zpw (at_ (at_ p.Weights k.toNat) j.toNat) (by omega)), trivial⟩, (by have h3 : (⟨#[10]⟩ : ByteArray).size = 1 := rfl; have h4 : (⟨#[32]⟩ : ByteArray).size = 1 := rfl; (try simp only [ByteArray.size_append]); omega), ⟨rfl, bw_ok (by have h3 : (⟨#[10]⟩ : ByteArray).size = 1 := rfl; have h4 : (⟨#[32]⟩ : ByteArray).size = 1 := rfl; (try simp only [ByteArray.size_append]); omega)⟩, trivial⟩ ?_
     refine Zco 3 ?_
     refine Zac ?_
     refine Zby [] [1, 3, 12, 13, 14, 25, 26, 27] [1, 3, 60006] [.ref 1 0, .ref 3 0, slS false p.Labels, I (p.Labels.length : Int), I k, slI false (at_ p.Weights k.toNat), I (((at_ p.Weights k.toNat).length) : Int), I (j + 1)] [some (Zag p), some (.bld 58 60006), some (.buf 5 false (ty ++ ((⟨#[32]⟩ : ByteArray) ++ (Zeb (at_ (at_ p.Weights k.toNat) j.toNat)))))] [inR .i64 (j + 1)] hB ⟨(Zam (by omega) (by omega)), trivial⟩ ?_
     refine Zfd hB [(60007, 60006)] (T := [(1, .ref 1 0), (3, .ref 3 0), (12, slS false p.Labels), (13, I (p.Labels.length : Int)), (14, I k), (25, slI false (at_ p.Weights k.toNat)), (26, I (((at_ p.Weights k.toNat).length) : Int)), (27, I (j + 1))]) (O := [(1, Zag p), (3, .bld 58 60007), (60007, .buf 5 false (ty ++ ((⟨#[32]⟩ : ByteArray) ++ (Zeb (at_ (at_ p.Weights k.toNat) j.toNat)))))]) rfl (⟨.inl rfl, .inl rfl, .inl rfl, .inl rfl, .inl rfl, .inl rfl, .inl rfl, .inl rfl, trivial⟩) (⟨.inl rfl, .inl rfl, .inl rfl, trivial⟩) (Zcr _ (by omega) ⟨(j + 1), (ty ++ ((⟨#[32]⟩ : ByteArray) ++ (Zeb (at_ (at_ p.Weights k.toNat) j.toNat)))), rfl, (by omega), (by rw [hj1, hpl, hty]; simp only [ByteArray.append_assoc]), rfl⟩)
    have hzy := congrArg ByteArray.size hty
    rw [ByteArray.size_append] at hzy
    have hzz := hsz j.toNat
    have hzq := Zie hok (k := k.toNat) (by omega)
    have hje : ty = Zek (Zfr p) k.toNat ++ Yah (at_ p.Labels k.toNat) (at_ p.Weights k.toNat) := by rw [hty, Zsl _ (by omega)]
    refine Zby [(0, .dec false)] [1, 3, 12, 13, 14, 25, 26, 27, 28] [1, 3, 60007] [.ref 1 0, .ref 3 0, slS false p.Labels, I (p.Labels.length : Int), I k, slI false (at_ p.Weights k.toNat), I (((at_ p.Weights k.toNat).length) : Int), I j, Bv false] [some (Zag p), some (.bld 58 60007), some (.buf 5 false ty)] [¬ (j < (((at_ p.Weights k.toNat).length) : Int))] hB ⟨h3, trivial⟩ ?_
    refine Zac ?_
    refine Zal ?_
    refine Zay rfl ?_
    refine Zdn ?_
    refine Zas ?_
    refine Zas ?_
    refine Zbx ?_
    refine Zac ?_
    refine Zby [(0, .bw 3 60007 60006 (.string (⟨#[10]⟩ : ByteArray)) false (⟨#[10]⟩ : ByteArray))] [1, 3, 12, 13, 14] [1, 3, 60006] [.ref 1 0, .ref 3 0, slS false p.Labels, I (p.Labels.length : Int), I k] [some (Zag p), some (.bld 58 60006), some (.buf 5 false (ty ++ (⟨#[10]⟩ : ByteArray)))] [([.ref 3 0, Sv (⟨#[10]⟩ : ByteArray)] : List AV) = [.ref 3 0, Sv (⟨#[10]⟩ : ByteArray)] ∧ BwOK Tryz.prog 23 58 5 (.string (⟨#[10]⟩ : ByteArray)) false ty false (⟨#[10]⟩ : ByteArray)] hB ⟨⟨rfl, bw_ok (by have h3 : (⟨#[10]⟩ : ByteArray).size = 1 := rfl; have h4 : (⟨#[32]⟩ : ByteArray).size = 1 := rfl; (try simp only [ByteArray.size_append]); omega)⟩, trivial⟩ ?_
    refine Zco 1 ?_
    refine Zac ?_
    refine Zby [] [1, 3, 12, 13, 14] [1, 3, 60006] [.ref 1 0, .ref 3 0, slS false p.Labels, I (p.Labels.length : Int), I (k + 1)] [some (Zag p), some (.bld 58 60006), some (.buf 5 false (ty ++ (⟨#[10]⟩ : ByteArray)))] [inR .i64 (k + 1)] hB ⟨(Zam (by omega) (by omega)), trivial⟩ ?_
    exact Zcr _ (by omega) ⟨(k + 1), (ty ++ (⟨#[10]⟩ : ByteArray)), rfl, (by omega), (by rw [hks, Zek, Zkz hi, hje]; simp only [ByteArray.append_assoc]), rfl⟩
   have hke : k.toNat = p.Labels.length := by omega
   rw [hke] at htx
   refine Zby [(0, .dec false)] [1, 3, 12, 13, 14, 15] [1, 3, 60006] [.ref 1 0, .ref 3 0, slS false p.Labels, I (p.Labels.length : Int), I k, Bv false] [some (Zag p), some (.bld 58 60006), some (.buf 5 false tx)] [¬ (k < (p.Labels.length : Int))] hB ⟨h2, trivial⟩ ?_
   refine Zac ?_
   refine Zal ?_
   refine Zay rfl ?_
   refine Zdn ?_
   refine Zas ?_
   refine Zas ?_
   refine Zbx ?_
   refine Zac ?_
   refine aR [(0, .bs 3 60006)] [2] [] [Sv tx] [] [([.ref 3 0] : List AV) = [.ref 3 0] ∧ BsOK Tryz.prog 25 58 5] hB ⟨⟨rfl, bs_ok⟩, trivial⟩ ?_
   refine Zax ?_
   refine Zba hB (Sv tx) (by kernel_rfl) (.inl (by first | (rw [Zeq, if_pos hok, htx]; done) | (rw [Zeq, if_neg (by simp [*])]; done))) rfl (fun _ => trivial)
  refine Zby [(1, .call [(true, .any)] true (Bv false))] [1, 10] [1] [.ref 1 0, Bv true] [some (Zag p)] [Con Tryz.prog 14 [Zae p] true (Bv false) ∧ True] hB ⟨⟨(Zaq h1 (Zbl p ok_)), trivial⟩, trivial⟩ ?_
  refine Zac ?_
  refine Zbc rfl ?_
  refine aR [] [2] [] [Sv (⟨#[]⟩ : ByteArray)] [] [] hB trivial ?_
  refine Zax ?_
  refine Zai ?_
  refine Zba hB (Sv (⟨#[]⟩ : ByteArray)) (by kernel_rfl) (.inl (by first | (rw [Zeq, if_pos hok, htx]; done) | (rw [Zeq, if_neg (by simp [*])]; done))) rfl (fun _ => trivial)
theorem Zmm (s p : ByteArray) (hs : s.size ≤ 9223372036854775807) : Con Tryz.prog 62 [Sv s, Sv p] true (Bv (sufB s p)) := by
  refine Zga (vals := [.string s, .string p]) fun w _ => ?_
  refine (Tryz.strings_HasSuffix s p w hs).mono ?_
  rintro e w' ⟨rfl, rfl⟩
  exact ⟨rfl, Below.refl _ _⟩
end Go.Proofs.YtblhhmcplocepaaGreatDoor.Ax
