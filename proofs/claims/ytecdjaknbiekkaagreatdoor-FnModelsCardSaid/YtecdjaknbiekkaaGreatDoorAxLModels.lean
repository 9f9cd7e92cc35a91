/- The statement FnModels: contracts of what it reaches, and its proof. No conditions. -/
import Derived.Test.YtecdjaknbiekkaaGreatDoorAxLModels2
import Derived.LaidMore
import Derived.Lay
import Derived.Lib.IndexBytes
import Derived.Lib.ItoaNum
import Derived.Lib.ParseIntBCases
import Derived.Lib.ParseIntBTie
import Derived.Lib.SplitLaws
import Derived.OpenShut
import Derived.SevenTiedAt
import Derived.Stop.Joined
import Derived.Test.YtecdjaknbiekkaaGreatDoorAxBd
import Derived.Test.YtecdjaknbiekkaaGreatDoorAxIN
import Derived.Test.YtecdjaknbiekkaaGreatDoorAxS
namespace Go.Proofs.YtecdjaknbiekkaaGreatDoor.Ax
open Go.RowKit Go.ChangeShapes Go.WideShapes
set_option linter.unusedVariables false
set_option linter.unusedSimpArgs false


-- bits.Len
theorem lenU_ok (x : Int) (h : 0 ≤ x ∧ x ≤ 18446744073709551615) : Con Tryz.prog 145 [.val (.int .u64 x)] true (I ((Lib.bitLen x.toNat : Nat) : Int)) := by
  refine con_of_calls (vals := [.int .u64 x]) fun w _ => ?_
  refine (Tryz.bits_Len x w h.1 h.2).mono ?_
  rintro e w' ⟨rfl, rfl⟩
  exact ⟨rfl, Below.refl _ _⟩



theorem at_set_eq {α : Type} [Inhabited α] {xs : List α} {k : Nat} {c : α} (h : k < xs.length) : at_ (xs.set k c) k = c := by simp [at_, h]
theorem at_set_ne {α : Type} [Inhabited α] {xs : List α} {k i : Nat} {c : α} (h : i ≠ k) : at_ (xs.set k c) i = at_ xs i := by
  have : ¬ k = i := fun e => h e.symm
  simp [at_, this]

def okKy (b : Bigram) : Prop := okWord b.Second = true ∧ (b.First = ⟨#[]⟩ ∨ okWord b.First = true)
def ddI (xs out : List Bigram) (k : Nat) : Prop := (out.length ≤ k ∧ (0 < k → 0 < out.length)) ∧ (∀ b ∈ out, okKy b ∧ (1 ≤ b.Cost ∧ b.Cost ≤ (k : Int))) ∧ out.Pairwise (fun x y => cmpG x y < 0) ∧ (0 < k → cmpG (at_ out (out.length - 1)) (at_ xs (k - 1)) = 0)
theorem dd_0 (xs : List Bigram) : ddI xs [] 0 := ⟨⟨Nat.le_refl _, fun h => by omega⟩, (fun b hb => by cases hb), List.Pairwise.nil, fun h => by omega⟩
theorem dd_bump {xs out : List Bigram} {k : Nat} (h : ddI xs out k) (h0 : 0 < k) (hk : k < xs.length) (hz : cmpG (at_ xs (k - 1)) (at_ xs k) = 0) {y : Bigram} (hy : y = ⟨(at_ out (out.length - 1)).First, (at_ out (out.length - 1)).Second, (at_ out (out.length - 1)).Cost + 1⟩) : ddI xs (out.set (out.length - 1) y) (k + 1) := by
  have hl := h.1.2 h0
  have hle := h.1.1
  have hk2 : out.length - 1 < out.length := by omega
  have he : cmpG (at_ out (out.length - 1)) y = 0 := cmpG_zero.2 (by rw [hy]; exact ⟨rfl, rfl⟩)
  obtain ⟨q1, q2⟩ := set_pw h.2.2.1 hk2 he
  refine ⟨⟨by rw [List.length_set]; omega, fun _ => by rw [List.length_set]; exact hl⟩, fun b hb => ?_, q1, fun _ => ?_⟩
  · rcases (q2 b).1 hb with rfl | z
    · have := h.2.1 _ (at_mem hk2)
      rw [hy]
      have t2 := this.2
      exact ⟨this.1, by show 1 ≤ (at_ out (out.length - 1)).Cost + 1; omega, by show (at_ out (out.length - 1)).Cost + 1 ≤ ((k + 1 : Nat) : Int); omega⟩
    · have := h.2.1 b z.1
      exact ⟨this.1, by have := this.2; push_cast; omega⟩
  · rw [List.length_set, at_set_eq hk2, Nat.add_sub_cancel]
    have a1 := cmpG_zero.1 (h.2.2.2 h0)
    have a2 := cmpG_zero.1 hz
    rw [hy]
    exact cmpG_zero.2 ⟨a1.1.trans a2.1, a1.2.trans a2.2⟩
theorem dd_app {xs out : List Bigram} {k : Nat} (h : ddI xs out k) (hk : k < xs.length) (hs : xs.Pairwise fun x y => cmpG x y ≤ 0) (hok : ∀ b ∈ xs, okKy b ∧ b.Cost = 1) (hz : 0 < k → cmpG (at_ xs (k - 1)) (at_ xs k) ≠ 0) : ddI xs (out ++ [at_ xs k]) (k + 1) := by
  have hx := hok _ (at_mem hk)
  refine ⟨⟨by simp; exact h.1.1, fun _ => by simp⟩, fun b hb => ?_, ?_, fun _ => ?_⟩
  · rcases List.mem_append.1 hb with q | q
    · have := h.2.1 b q; exact ⟨this.1, by have := this.2; push_cast; omega⟩
    · simp only [List.mem_singleton] at q; subst q; exact ⟨hx.1, by have := hx.2; omega⟩
  · rw [List.pairwise_append]
    refine ⟨h.2.2.1, by simp, fun a ha b hb => ?_⟩
    simp only [List.mem_singleton] at hb; subst hb
    have hk0 : 0 < k := by
      apply Classical.byContradiction
      intro q
      have : out.length = 0 := by have := h.1.1; omega
      rw [List.length_eq_zero_iff.1 this] at ha; cases ha
    have hlt : cmpG (at_ xs (k - 1)) (at_ xs k) < 0 := by
      have h1 := hz hk0
      have h2 : cmpG (at_ xs (k - 1)) (at_ xs k) ≤ 0 := by
        have hk' : k - 1 < xs.length := by omega
        rw [at_eq hk', at_eq hk]
        exact (List.pairwise_iff_getElem.1 hs) (k - 1) k hk' hk (by omega)
      omega
    have hlast := h.2.2.2 hk0
    have h3 : cmpG (at_ out (out.length - 1)) (at_ xs k) < 0 := cmpG_w.trans _ _ _ (by omega) hlt
    obtain ⟨i, hi, e⟩ := List.getElem_of_mem ha
    by_cases ei : i = out.length - 1
    · subst ei; rw [← e, ← at_eq hi]; exact h3
    · have h4 := (List.pairwise_iff_getElem.1 h.2.2.1) i (out.length - 1) hi (by omega) (by omega)
      rw [e, ← at_eq (by omega)] at h4
      exact cmpG_w.trans _ _ _ (by omega) h3
  · rw [List.length_append, List.length_singleton, Nat.add_sub_cancel, Nat.add_sub_cancel, at_right (Nat.le_refl _), Nat.sub_self]
    exact cmpG_zero.2 ⟨rfl, rfl⟩
theorem cnt_srt (xs : List Bigram) : (isoL cmpG xs xs.length).Pairwise fun x y => cmpG x y ≤ 0 := by
  have := isoL_ord cmpG_w (B := fun _ _ => True) (xs := xs) (by simp [List.pairwise_iff_getElem]) xs.length (Nat.le_refl _)
  exact this.imp fun h => by unfold ordR at h; omega
def cmI (ys bs : List Bigram) (k : Nat) : Prop := ys.length = bs.length ∧ (∀ j : Nat, k ≤ j → j < bs.length → at_ ys j = at_ bs j) ∧ ∀ j : Nat, j < k → j < bs.length → ((at_ ys j).First = (at_ bs j).First ∧ (at_ ys j).Second = (at_ bs j).Second) ∧ (0 ≤ (at_ ys j).Cost ∧ (at_ ys j).Cost ≤ 90)
theorem cm_0 (bs : List Bigram) : cmI bs bs 0 := ⟨rfl, fun _ _ _ => rfl, fun j hj => absurd hj (Nat.not_lt_zero _)⟩
theorem cm_next {ys bs : List Bigram} {k : Nat} (h : cmI ys bs k) (hk : k < bs.length) {y : Bigram} (hy : (y.First = (at_ bs k).First ∧ y.Second = (at_ bs k).Second) ∧ (0 ≤ y.Cost ∧ y.Cost ≤ 90)) : cmI (ys.set k y) bs (k + 1) := by
  refine ⟨by rw [List.length_set]; exact h.1, fun j h1 h2 => ?_, fun j h1 h2 => ?_⟩
  · rw [at_set_ne (by omega)]; exact h.2.1 j (by omega) h2
  · by_cases e : j = k
    · subst e; rw [at_set_eq (by rw [h.1]; exact hk)]; exact hy
    · rw [at_set_ne e]; exact h.2.2 j (by omega) h2
theorem cm_end {ys bs : List Bigram} {d : Int} (h : cmI ys bs bs.length) (hd : 0 ≤ d ∧ d ≤ 90) (hl : bs.length ≤ 12) (hok : ∀ b ∈ bs, okKy b) (hp : bs.Pairwise fun x y => cmpG x y < 0) : okMod ⟨d, ys⟩ ∧ ∀ x_ y_ : ByteArray, 0 ≤ pcM ⟨d, ys⟩ x_ y_ ∧ pcM ⟨d, ys⟩ x_ y_ ≤ 90 := by
  have hys : ∀ b ∈ ys, okKy b ∧ (0 ≤ b.Cost ∧ b.Cost ≤ 90) := fun b hb => by
    obtain ⟨j, hj, e⟩ := List.getElem_of_mem hb
    have h1 := h.2.2 j (by rw [← h.1]; exact hj) (by rw [← h.1]; exact hj)
    rw [at_eq hj, e] at h1
    have h2 := hok _ (at_mem (show j < bs.length by rw [← h.1]; exact hj))
    exact ⟨⟨by rw [h1.1.2]; exact h2.1, by rw [h1.1.1]; exact h2.2⟩, h1.2⟩
  have hpw : ys.Pairwise fun x y => cmpG x y < 0 := by
    rw [List.pairwise_iff_getElem]
    intro i j hi hj hij
    have p := (List.pairwise_iff_getElem.1 hp) i j (by rw [← h.1]; exact hi) (by rw [← h.1]; exact hj) hij
    have a1 := (h.2.2 i (by rw [← h.1]; exact hi) (by rw [← h.1]; exact hi)).1
    have a2 := (h.2.2 j (by rw [← h.1]; exact hj) (by rw [← h.1]; exact hj)).1
    rw [at_eq hi, at_eq (show i < bs.length by rw [← h.1]; exact hi)] at a1
    rw [at_eq hj, at_eq (show j < bs.length by rw [← h.1]; exact hj)] at a2
    rw [(cmpG_cong (a := ys[i]) a2).1, (cmpG_cong (a := bs[j]'(by rw [← h.1]; exact hj)) a1).2]
    exact p
  refine ⟨⟨⟨hd.1, by show d ≤ 1000000; omega⟩, by show ys.length ≤ 60; rw [h.1]; omega, fun b hb => ⟨(hys b hb).1.1, (hys b hb).1.2, by have := (hys b hb).2; omega⟩, hpw⟩, fun a b => ?_⟩
  unfold pcM
  split
  · rename_i g e
    exact (hys g (List.mem_of_find?_eq_some e)).2
  · exact hd


-- impl.countPairs
theorem shGins_ok (data : List Bigram) (a : Int) (b : Int) (hb : a = 0 ∧ b = (data.length : Int)) (hl : data.length < 20) : ∃ (data' : List Bigram), (data' = isoL cmpG data data.length) ∧ CallOK Tryz.prog 165 [.arr 8451, I a, I b, .fn 58 []] (lookO [(8451, tABigram data)]) true (.tup []) (lookO [(8451, tABigram data')]) := by
  have hh : ∃ r : (List Bigram), ((r = isoL cmpG data data.length) ∧ (True)) ∧ CallOK Tryz.prog 165 [.arr 8451, I a, I b, .fn 58 []] (lookO [(8451, tABigram data)]) true (.tup []) (lookO [(8451, tABigram r)]) := by
    refine fn_okX (Φ := fun r : (List Bigram) => (r = isoL cmpG data data.length) ∧ (True)) [(8451, tABigram data)] (fun r => [(8451, tABigram r)]) (fn := Tryz.f165) (nt := 53) Tryz.func165 rfl rfl (args := [.arr 8451, I a, I b, .fn 58 []]) rfl (allcons (.inr trivial) (allcons (.inl ⟨rfl, trivial⟩) (allcons (.inl ⟨rfl, trivial⟩) (allcons (.inl ⟨rfl, trivial⟩) allnil)))) (res := fun r => .tup []) ?_
    refine xR [] [0, 1, 2, 3, 8] [8451] [.arr 8451, I a, I b, .fn 58 [], I (a + 1)] [some (tABigram data)] [inR .i64 (a + 1)] ⟨(inR_i64 (by omega) (by omega)), trivial⟩ ?_
    refine x_block ?_
    refine x_loop (X := Int × (List Bigram)) (fun x => mkS [(0, .arr 8451), (1, I a), (2, I b), (3, .fn 58 []), (8, I x.1)] [(8451, tABigram x.2)]) (fun x => (1 ≤ x.1 ∧ (x.1 ≤ (data.length : Int) ∨ x.1 = 1)) ∧ (x.2 = isoL cmpG data (min x.1.toNat data.length) ++ data.drop x.1.toNat) ∧ True) (fun x => ((data.length : Int) - x.1).toNat) ((a + 1), data) rfl (show (1 ≤ (a + 1) ∧ ((a + 1) ≤ (data.length : Int) ∨ (a + 1) = 1)) ∧ (data = isoL cmpG data (min (a + 1).toNat data.length) ++ data.drop (a + 1).toNat) ∧ True from ⟨(by omega), (by first | exact iso_start _ _ | (rw [show (a + 1).toNat = 1 from by omega]; exact iso_start _ _)), trivial⟩) (fun x hI => ?_)
    obtain ⟨i, ys⟩ := x
    obtain ⟨hi0, hys, _⟩ : (1 ≤ i ∧ (i ≤ (data.length : Int) ∨ i = 1)) ∧ (ys = isoL cmpG data (min i.toNat data.length) ++ data.drop i.toNat) ∧ True := hI
    show XW _ _ _ _ (mkS [(0, .arr 8451), (1, I a), (2, I b), (3, .fn 58 []), (8, I i)] [(8451, tABigram ys)]) _ _
    refine x_seq ?_
    refine x_seq ?_
    by_cases h1 : i < b
    ·have hi : i.toNat < data.length := by omega
     have hmi : min i.toNat data.length = i.toNat := by omega
     rw [hmi, iso_in hi] at hys
     have hpl := isoL_len cmpG data i.toNat
     have hyl : ys.length = data.length := by rw [hys, List.length_append, shf_len (by omega), List.length_drop, hpl]; omega
     refine x_r [(2, .dec true)] [0, 1, 2, 3, 8, 14] [8451] [.arr 8451, I a, I b, .fn 58 [], I i, Bv true] [some (tABigram ys)] [i < b] ⟨h1, trivial⟩ ?_
     refine xe_then ?_
     refine x_true rfl ?_
     refine x_skip ?_
     refine xe_then ?_
     refine x_seq ?_
     refine x_block ?_
     refine xR [] [0, 1, 2, 3, 8, 9] [8451] [.arr 8451, I a, I b, .fn 58 [], I i, I i] [some (tABigram ys)] [] trivial ?_
     refine x_block ?_
     refine x_loop (X := Int × (List Bigram)) (fun x => mkS [(0, .arr 8451), (1, I a), (2, I b), (3, .fn 58 []), (8, I i), (9, I x.1)] [(8451, tABigram x.2)]) (fun x => (0 ≤ x.1 ∧ x.1 ≤ i) ∧ (x.2 = shfL (isoL cmpG data i.toNat) (at_ data i.toNat) x.1.toNat ++ data.drop (i.toNat + 1)) ∧ (∀ k : Nat, x.1 ≤ (k : Int) → (k : Int) < i → cmpG (at_ data i.toNat) (at_ (isoL cmpG data i.toNat) k) < 0) ∧ True) (fun x => x.1.toNat) (i, ys) rfl (show (0 ≤ i ∧ i ≤ i) ∧ (ys = shfL (isoL cmpG data i.toNat) (at_ data i.toNat) i.toNat ++ data.drop (i.toNat + 1)) ∧ (∀ k : Nat, i ≤ (k : Int) → (k : Int) < i → cmpG (at_ data i.toNat) (at_ (isoL cmpG data i.toNat) k) < 0) ∧ True from ⟨(by omega), (by first | exact hys | (rw [hys]; done)), (by intro k h1 h2; omega), trivial⟩) (fun x hI => ?_)
     obtain ⟨j, ys'⟩ := x
     obtain ⟨hj0, hin, hgt, _⟩ : (0 ≤ j ∧ j ≤ i) ∧ (ys' = shfL (isoL cmpG data i.toNat) (at_ data i.toNat) j.toNat ++ data.drop (i.toNat + 1)) ∧ (∀ k : Nat, j ≤ (k : Int) → (k : Int) < i → cmpG (at_ data i.toNat) (at_ (isoL cmpG data i.toNat) k) < 0) ∧ True := hI
     show XW _ _ _ _ (mkS [(0, .arr 8451), (1, I a), (2, I b), (3, .fn 58 []), (8, I i), (9, I j)] [(8451, tABigram ys')]) _ _
     refine x_seq ?_
     refine x_seq ?_
     by_cases h2 : a < j
     ·have hyl' : ys'.length = data.length := by rw [hin, List.length_append, shf_len (by omega), List.length_drop, hpl]; omega
      have e1 : at_ ys' j.toNat = (at_ data i.toNat) := by rw [hin]; exact shf_at (by omega)
      have e2 : at_ ys' (j - 1).toNat = at_ (isoL cmpG data i.toNat) (j.toNat - 1) := by rw [hin, shf_below (by omega) (by omega)]; congr 1; omega
      by_cases h3 : (cmpG (at_ ys' j.toNat) (at_ ys' ((j - 1).toNat))) < 0
      ·have hq := h3
       rw [e1, e2] at hq
       have hst : (ys'.set j.toNat (at_ ys' (j - 1).toNat)).set (j - 1).toNat (at_ ys' j.toNat) = shfL (isoL cmpG data i.toNat) (at_ data i.toNat) (j - 1).toNat ++ data.drop (i.toNat + 1) := by have q := shf_step (p := (isoL cmpG data i.toNat)) (x := (at_ data i.toNat)) (r := data.drop (i.toNat + 1)) (j := (j - 1).toNat) (by omega); rw [show (j - 1).toNat + 1 = j.toNat from by omega] at q; rw [e1, e2, hin, ← q, show j.toNat - 1 = (j - 1).toNat from by omega]
       have hgn : ∀ k : Nat, j - 1 ≤ (k : Int) → (k : Int) < i → cmpG (at_ data i.toNat) (at_ (isoL cmpG data i.toNat) k) < 0 := fun k h1 h2 => by by_cases e : (k : Int) = j - 1; (rw [show k = j.toNat - 1 from by omega]; exact hq); exact hgt k (by omega) h2
       refine x_r [(2, .dec true), (14, .call [(true, .any), (true, .any)] true (I (cmpG (at_ ys' j.toNat) (at_ ys' ((j - 1).toNat))))), (15, .dec true)] [0, 1, 2, 3, 8, 9, 34] [8451] [.arr 8451, I a, I b, .fn 58 [], I i, I j, Bv true] [some (tABigram ys')] [a < j, (0 : Int) ≤ j ∧ j < (ys'.length : Int), j.toNat < ys'.length, inR .i64 (j - 1), (0 : Int) ≤ (j - 1) ∧ (j - 1) < (ys'.length : Int), (j - 1).toNat < ys'.length, Con Tryz.prog 58 [agBigram (at_ ys' j.toNat), agBigram (at_ ys' ((j - 1).toNat))] true (I (cmpG (at_ ys' j.toNat) (at_ ys' ((j - 1).toNat)))) ∧ True, (cmpG (at_ ys' j.toNat) (at_ ys' ((j - 1).toNat))) < 0] ⟨h2, ⟨(by omega), (by omega)⟩, (by omega), (inR_i64 (by omega) (by omega)), ⟨(by omega), (by omega)⟩, (by omega), ⟨(compareBigrams_ok (at_ ys' j.toNat) (at_ ys' ((j - 1).toNat))), trivial⟩, h3, trivial⟩ ?_
       refine xe_then ?_
       refine x_true rfl ?_
       refine x_skip ?_
       refine xe_then ?_
       refine x_seq ?_
       refine x_block ?_
       refine x_r [] [0, 1, 2, 3, 8, 9] [8451] [.arr 8451, I a, I b, .fn 58 [], I i, I j] [some (.arr 3 ys'.length (fun q => bif Nat.beq q ((j - 1).toNat) then spl ((fun q => bif Nat.beq q j.toNat then [Sv ((at_ ys' ((j - 1).toNat)).First), Sv ((at_ ys' ((j - 1).toNat)).Second), I ((at_ ys' ((j - 1).toNat)).Cost)] else (fBigram ys') q) ((j - 1).toNat)) 0 [Sv ((at_ ys' j.toNat).First), Sv ((at_ ys' j.toNat).Second), I ((at_ ys' j.toNat).Cost)] else (fun q => bif Nat.beq q j.toNat then [Sv ((at_ ys' ((j - 1).toNat)).First), Sv ((at_ ys' ((j - 1).toNat)).Second), I ((at_ ys' ((j - 1).toNat)).Cost)] else (fBigram ys') q) q))] [inR .i64 (j - 1), inR .i64 (j - 1), (0 : Int) ≤ (j - 1) ∧ (j - 1) < (ys'.length : Int), (j - 1).toNat < ys'.length, (0 : Int) ≤ j ∧ j < (ys'.length : Int), j.toNat < ys'.length, (0 : Int) ≤ j ∧ j < (ys'.length : Int), j.toNat < ys'.length, (0 : Int) ≤ (j - 1) ∧ (j - 1) < (ys'.length : Int), (j - 1).toNat < ys'.length] ⟨(inR_i64 (by omega) (by omega)), (inR_i64 (by omega) (by omega)), ⟨(by omega), (by omega)⟩, (by omega), ⟨(by omega), (by omega)⟩, (by omega), ⟨(by omega), (by omega)⟩, (by omega), ⟨(by omega), (by omega)⟩, (by omega), trivial⟩ ?_
       refine xe_block 3 ?_
       refine xe_then ?_
       refine x_r [] [0, 1, 2, 3, 8, 9] [8451] [.arr 8451, I a, I b, .fn 58 [], I i, I (j - 1)] [some (.arr 3 ys'.length (fun q => bif Nat.beq q ((j - 1).toNat) then spl ((fun q => bif Nat.beq q j.toNat then [Sv ((at_ ys' ((j - 1).toNat)).First), Sv ((at_ ys' ((j - 1).toNat)).Second), I ((at_ ys' ((j - 1).toNat)).Cost)] else (fBigram ys') q) ((j - 1).toNat)) 0 [Sv ((at_ ys' j.toNat).First), Sv ((at_ ys' j.toNat).Second), I ((at_ ys' j.toNat).Cost)] else (fun q => bif Nat.beq q j.toNat then [Sv ((at_ ys' ((j - 1).toNat)).First), Sv ((at_ ys' ((j - 1).toNat)).Second), I ((at_ ys' ((j - 1).toNat)).Cost)] else (fBigram ys') q) q))] [inR .i64 (j - 1)] ⟨(inR_i64 (by omega) (by omega)), trivial⟩ ?_
       refine xe_weak [] (T := [(0, .arr 8451), (1, I a), (2, I b), (3, .fn 58 []), (8, I i), (9, I (j - 1))]) (O := [(8451, tABigram ((ys'.set j.toNat (at_ ys' ((j - 1).toNat))).set ((j - 1).toNat) (at_ ys' j.toNat)))]) rfl (⟨.inl rfl, .inl rfl, .inl rfl, .inl rfl, .inl rfl, .inl rfl, trivial⟩) (⟨.inr ⟨rfl, (by first | rfl | (simp; done) | (simp; omega) | omega), fun i_ hi_ => .inl (upd_spl (enc := cBigram) (fun i_ hi_ => (upd_enc (enc := cBigram) rfl i_ hi_)) ((by first | omega | (simp only [List.length_set]; omega))) rfl i_ hi_)⟩, trivial⟩) (xe_again ((j - 1), ((ys'.set j.toNat (at_ ys' ((j - 1).toNat))).set ((j - 1).toNat) (at_ ys' j.toNat))) rfl (show (0 ≤ (j - 1) ∧ (j - 1) ≤ i) ∧ (((ys'.set j.toNat (at_ ys' ((j - 1).toNat))).set ((j - 1).toNat) (at_ ys' j.toNat)) = shfL (isoL cmpG data i.toNat) (at_ data i.toNat) (j - 1).toNat ++ data.drop (i.toNat + 1)) ∧ (∀ k : Nat, (j - 1) ≤ (k : Int) → (k : Int) < i → cmpG (at_ data i.toNat) (at_ (isoL cmpG data i.toNat) k) < 0) ∧ True from ⟨(by omega), (by exact hst), (by exact hgn), trivial⟩) (by first | (show ((j - 1).toNat : Nat) < j.toNat; omega) | (dsimp only; omega)))
      have hq := h3
      rw [e1, e2] at hq
      have hio := iso_out (c := cmpG) (xs := data) (i := i.toNat) (j := j.toNat) (by omega) (fun k h1 h2 => hgt k (by omega) (by omega)) (Or.inr hq)
      rw [hio] at hin
      refine x_r [(2, .dec true), (14, .call [(true, .any), (true, .any)] true (I (cmpG (at_ ys' j.toNat) (at_ ys' ((j - 1).toNat))))), (15, .dec false)] [0, 1, 2, 3, 8, 9, 34] [8451] [.arr 8451, I a, I b, .fn 58 [], I i, I j, Bv false] [some (tABigram ys')] [a < j, (0 : Int) ≤ j ∧ j < (ys'.length : Int), j.toNat < ys'.length, inR .i64 (j - 1), (0 : Int) ≤ (j - 1) ∧ (j - 1) < (ys'.length : Int), (j - 1).toNat < ys'.length, Con Tryz.prog 58 [agBigram (at_ ys' j.toNat), agBigram (at_ ys' ((j - 1).toNat))] true (I (cmpG (at_ ys' j.toNat) (at_ ys' ((j - 1).toNat)))) ∧ True, ¬ ((cmpG (at_ ys' j.toNat) (at_ ys' ((j - 1).toNat))) < 0)] ⟨h2, ⟨(by omega), (by omega)⟩, (by omega), (inR_i64 (by omega) (by omega)), ⟨(by omega), (by omega)⟩, (by omega), ⟨(compareBigrams_ok (at_ ys' j.toNat) (at_ ys' ((j - 1).toNat))), trivial⟩, h3, trivial⟩ ?_
      refine xe_then ?_
      refine x_false rfl ?_
      refine x_exit ?_
      refine xe_exit_then ?_
      refine xe_loop_exit ?_
      refine xe_exit_same ?_
      refine xe_block 1 ?_
      refine xe_then ?_
      refine x_r [] [0, 1, 2, 3, 8] [8451] [.arr 8451, I a, I b, .fn 58 [], I (i + 1)] [some (tABigram ys')] [inR .i64 (i + 1)] ⟨(inR_i64 (by omega) (by omega)), trivial⟩ ?_
      exact xe_again ((i + 1), ys') rfl (show (1 ≤ (i + 1) ∧ ((i + 1) ≤ (data.length : Int) ∨ (i + 1) = 1)) ∧ (ys' = isoL cmpG data (min (i + 1).toNat data.length) ++ data.drop (i + 1).toNat) ∧ True from ⟨(by omega), (by rw [hin, show (i + 1).toNat = i.toNat + 1 from by omega, show min (i.toNat + 1) data.length = i.toNat + 1 from by omega]), trivial⟩) (by first | (show (((data.length : Int) - (i + 1)).toNat : Nat) < ((data.length : Int) - i).toNat; omega) | (dsimp only; omega))
     have hio := iso_out (c := cmpG) (xs := data) (i := i.toNat) (j := j.toNat) (by omega) (fun k h1 h2 => hgt k (by omega) (by omega)) (Or.inl (by omega))
     rw [hio] at hin
     refine x_r [(2, .dec false)] [0, 1, 2, 3, 8, 9, 34] [8451] [.arr 8451, I a, I b, .fn 58 [], I i, I j, Bv false] [some (tABigram ys')] [¬ (a < j)] ⟨h2, trivial⟩ ?_
     refine xe_then ?_
     refine x_false rfl ?_
     refine x_exit ?_
     refine xe_exit_then ?_
     refine xe_loop_exit ?_
     refine xe_exit_same ?_
     refine xe_block 1 ?_
     refine xe_then ?_
     refine x_r [] [0, 1, 2, 3, 8] [8451] [.arr 8451, I a, I b, .fn 58 [], I (i + 1)] [some (tABigram ys')] [inR .i64 (i + 1)] ⟨(inR_i64 (by omega) (by omega)), trivial⟩ ?_
     exact xe_again ((i + 1), ys') rfl (show (1 ≤ (i + 1) ∧ ((i + 1) ≤ (data.length : Int) ∨ (i + 1) = 1)) ∧ (ys' = isoL cmpG data (min (i + 1).toNat data.length) ++ data.drop (i + 1).toNat) ∧ True from ⟨(by omega), (by rw [hin, show (i + 1).toNat = i.toNat + 1 from by omega, show min (i.toNat + 1) data.length = i.toNat + 1 from by omega]), trivial⟩) (by first | (show (((data.length : Int) - (i + 1)).toNat : Nat) < ((data.length : Int) - i).toNat; omega) | (dsimp only; omega))
    have hyf : ys = isoL cmpG data data.length := by rw [hys, show min i.toNat data.length = data.length from by omega, List.drop_eq_nil_of_le (by omega), List.append_nil]
    refine x_r [(2, .dec false)] [0, 1, 2, 3, 8, 14] [8451] [.arr 8451, I a, I b, .fn 58 [], I i, Bv false] [some (tABigram ys)] [¬ (i < b)] ⟨h1, trivial⟩ ?_
    refine xe_then ?_
    refine x_false rfl ?_
    refine x_exit ?_
    refine xe_exit_then ?_
    refine xe_loop_exit ?_
    refine xe_exit_same ?_
    refine xe_norm ys (show (ys = isoL cmpG data data.length) ∧ (True) from ⟨(by exact hyf), trivial⟩) (⟨.inl rfl, trivial⟩) (.tup []) (by kernel_rfl) (.inl rfl) (fun _ => rfl) (fun _ => (by simp [tagged, taggedL]))
  obtain ⟨data', ⟨hh0, _⟩, hc⟩ := hh
  exact ⟨data', hh0, hc⟩

theorem shGpdq_ok (data : List Bigram) (a : Int) (b : Int) (limit : Int) (hb : a = 0 ∧ b = (data.length : Int)) (hl : data.length ≤ 12) : ∃ (data' : List Bigram), (data' = isoL cmpG data data.length) ∧ CallOK Tryz.prog 144 [.arr 8451, I a, I b, I limit, .fn 58 []] (lookO [(8451, tABigram data)]) true (.tup []) (lookO [(8451, tABigram data')]) := by
  have hh : ∃ r : (List Bigram), ((r = isoL cmpG data data.length) ∧ (True)) ∧ CallOK Tryz.prog 144 [.arr 8451, I a, I b, I limit, .fn 58 []] (lookO [(8451, tABigram data)]) true (.tup []) (lookO [(8451, tABigram r)]) := by
    refine fn_okX (Φ := fun r : (List Bigram) => (r = isoL cmpG data data.length) ∧ (True)) [(8451, tABigram data)] (fun r => [(8451, tABigram r)]) (fn := Tryz.f144) (nt := 148) Tryz.func144 rfl rfl (args := [.arr 8451, I a, I b, I limit, .fn 58 []]) rfl (allcons (.inr trivial) (allcons (.inl ⟨rfl, trivial⟩) (allcons (.inl ⟨rfl, trivial⟩) (allcons (.inl ⟨rfl, trivial⟩) (allcons (.inl ⟨rfl, trivial⟩) allnil))))) (res := fun r => .tup []) ?_
    refine xR [] [0, 1, 2, 3, 4, 10] [8451] [.arr 8451, I a, I b, I limit, .fn 58 [], Bv true] [some (tABigram data)] [] trivial ?_
    refine xR [] [0, 1, 2, 3, 4, 10, 11] [8451] [.arr 8451, I a, I b, I limit, .fn 58 [], Bv true, Bv true] [some (tABigram data)] [] trivial ?_
    refine x_block ?_
    refine x_loop (X := Int × Int × Int × Bool × Bool) (fun x => mkS [(0, .arr 8451), (1, I x.1), (2, I x.2.1), (3, I x.2.2.1), (4, .fn 58 []), (10, Bv x.2.2.2.1), (11, Bv x.2.2.2.2)] [(8451, tABigram data)]) (fun x => (x.1 = 0 ∧ x.2.1 = (data.length : Int)) ∧ True) (fun x => (0 : Nat)) (a, b, limit, true, true) rfl (show (a = 0 ∧ b = (data.length : Int)) ∧ True from ⟨(by omega), trivial⟩) (fun x hI => ?_)
    obtain ⟨a', b', limit', wasBalanced, wasPartitioned⟩ := x
    obtain ⟨hab, _⟩ : (a' = 0 ∧ b' = (data.length : Int)) ∧ True := hI
    show XW _ _ _ _ (mkS [(0, .arr 8451), (1, I a'), (2, I b'), (3, I limit'), (4, .fn 58 []), (10, Bv wasBalanced), (11, Bv wasPartitioned)] [(8451, tABigram data)]) _ _
    refine x_block ?_
    refine xR [] [0, 1, 2, 3, 4, 10, 11, 12] [8451] [.arr 8451, I a', I b', I limit', .fn 58 [], Bv wasBalanced, Bv wasPartitioned, I (b' - a')] [some (tABigram data)] [inR .i64 (b' - a')] ⟨(inR_i64 (by omega) (by omega)), trivial⟩ ?_
    refine x_seq ?_
    refine xR [(1, .dec true)] [0, 1, 2, 3, 4, 10, 11, 12, 25] [8451] [.arr 8451, I a', I b', I limit', .fn 58 [], Bv wasBalanced, Bv wasPartitioned, I (b' - a'), Bv true] [some (tABigram data)] [(b' - a') ≤ 12] ⟨(by omega), trivial⟩ ?_
    refine x_true rfl ?_
    refine x_seq ?_
    obtain ⟨data'_1, hx1_0, hc1⟩ := shGins_ok data a' b' (by first | omega | (subst_vars; omega)) (by first | omega | (subst_vars; omega))
    refine x_r [(4, .lend [(8451, tABigram data, tABigram data'_1)] [] [(true, .any), (true, .any), (true, .any), (true, .any)] true (.tup []))] [] [8451] [] [some (tABigram data'_1)] [CallOK Tryz.prog 165 [.arr 8451, I a', I b', .fn 58 []] (lookO [(8451, tABigram data)]) true (.tup []) (lookO [(8451, tABigram data'_1)]) ∧ (((tABigram data : Ob) = tABigram data ∨ obLe noOb true (tABigram data) (tABigram data)) ∧ taggedO false (tABigram data)) ∧ True] ⟨⟨hc1, ⟨.inl rfl, fun _ _ => tagcBigram false _⟩, trivial⟩, trivial⟩ ?_
    refine xe_then ?_
    refine x_ret ?_
    refine xe_ret_then (xe_ret_block (xe_loop_ret (xe_ret_block ?_)))
    refine xe_end data'_1 (show (data'_1 = isoL cmpG data data.length) ∧ (True) from ⟨(by assumption), trivial⟩) (⟨.inl rfl, trivial⟩) (.tup []) (by kernel_rfl) (.inl rfl) (fun _ => rfl) (fun _ => (by simp [tagged, taggedL]))
  obtain ⟨data', ⟨hh0, _⟩, hc⟩ := hh
  exact ⟨data', hh0, hc⟩

theorem shGsort_ok (data : List Bigram) (hl : data.length ≤ 12) : ∃ (data' : List Bigram), (data' = isoL cmpG data data.length) ∧ CallOK Tryz.prog 118 [.arr 8451, .fn 58 []] (lookO [(8451, tABigram data)]) true (.tup []) (lookO [(8451, tABigram data')]) := by
  have hh : ∃ r : (List Bigram), ((r = isoL cmpG data data.length) ∧ (True)) ∧ CallOK Tryz.prog 118 [.arr 8451, .fn 58 []] (lookO [(8451, tABigram data)]) true (.tup []) (lookO [(8451, tABigram r)]) := by
    refine fn_okX (Φ := fun r : (List Bigram) => (r = isoL cmpG data data.length) ∧ (True)) [(8451, tABigram data)] (fun r => [(8451, tABigram r)]) (fn := Tryz.f118) (nt := 14) Tryz.func118 rfl rfl (args := [.arr 8451, .fn 58 []]) rfl (allcons (.inr trivial) (allcons (.inl ⟨rfl, trivial⟩) allnil)) (res := fun r => .tup []) ?_
    refine xR [] [0, 1, 4] [8451] [.arr 8451, .fn 58 [], I (data.length : Int)] [some (tABigram data)] [] trivial ?_
    obtain ⟨data'_1, hx1_0, hc1⟩ := shGpdq_ok data 0 (data.length : Int) ((Lib.bitLen (data.length : Int).toNat : Nat) : Int) (by first | omega | (subst_vars; omega)) (by first | omega | (subst_vars; omega))
    refine x_r [(4, .call [(true, .any)] true (I ((Lib.bitLen (data.length : Int).toNat : Nat) : Int))), (6, .lend [(8451, tABigram data, tABigram data'_1)] [] [(true, .any), (true, .any), (true, .any), (true, .any), (true, .any)] true (.tup []))] [] [8451] [] [some (tABigram data'_1)] [inR .u64 (data.length : Int), Con Tryz.prog 145 [.val (.int .u64 (data.length : Int))] true (I ((Lib.bitLen (data.length : Int).toNat : Nat) : Int)) ∧ True, CallOK Tryz.prog 144 [.arr 8451, I 0, I (data.length : Int), I ((Lib.bitLen (data.length : Int).toNat : Nat) : Int), .fn 58 []] (lookO [(8451, tABigram data)]) true (.tup []) (lookO [(8451, tABigram data'_1)]) ∧ (((tABigram data : Ob) = tABigram data ∨ obLe noOb true (tABigram data) (tABigram data)) ∧ taggedO false (tABigram data)) ∧ True] ⟨(inR_u64 (by omega) (by omega)), ⟨(lenU_ok (data.length : Int) (by omega)), trivial⟩, ⟨hc1, ⟨.inl rfl, fun _ _ => tagcBigram false _⟩, trivial⟩, trivial⟩ ?_
    refine xe_norm data'_1 (show (data'_1 = isoL cmpG data data.length) ∧ (True) from ⟨(by first | assumption | omega), trivial⟩) (⟨.inl rfl, trivial⟩) (.tup []) (by kernel_rfl) (.inl rfl) (fun _ => rfl) (fun _ => (by simp [tagged, taggedL]))
  obtain ⟨data', ⟨hh0, _⟩, hc⟩ := hh
  exact ⟨data', hh0, hc⟩

theorem countPairs_ok (ss : List (List ByteArray)) (hn : ss.length ≤ 2) (hss : ∀ ws ∈ ss, ws.length ≤ 3 ∧ ∀ w ∈ ws, okWord w = true) : ∃ (out : List Bigram), (out.length ≤ 6) ∧ (∀ b ∈ out, okKy b ∧ (1 ≤ b.Cost ∧ b.Cost ≤ 6)) ∧ (out.Pairwise (fun x y => cmpG x y < 0)) ∧ CallOK Tryz.prog 70 [slLS false ss] (lookO []) false (.arr 8452) (lookO [(8452, tABigram out)]) := by
  have hh : ∃ r : (List Bigram), ((r.length ≤ 6) ∧ (∀ b ∈ r, okKy b ∧ (1 ≤ b.Cost ∧ b.Cost ≤ 6)) ∧ (r.Pairwise (fun x y => cmpG x y < 0)) ∧ (True)) ∧ CallOK Tryz.prog 70 [slLS false ss] (lookO []) false (.arr 8452) (lookO [(8452, tABigram r)]) := by
    refine fn_okX (Φ := fun r : (List Bigram) => (r.length ≤ 6) ∧ (∀ b ∈ r, okKy b ∧ (1 ≤ b.Cost ∧ b.Cost ≤ 6)) ∧ (r.Pairwise (fun x y => cmpG x y < 0)) ∧ (True)) [] (fun r => [(8452, tABigram r)]) (fn := Tryz.f70) (nt := 70) Tryz.func70 rfl rfl (args := [slLS false ss]) rfl (allcons (.inl ⟨rfl, tagLS false _⟩) allnil) (res := fun r => .arr 8452) ?_
    refine xR [] [0] [] [slLS false ss] [] [] trivial ?_
    refine xR [] [0, 3] [] [slLS false ss, nilA] [] [] trivial ?_
    refine x_seq ?_
    refine xR [] [3, 12, 13, 14] [] [nilA, slLS false ss, I (ss.length : Int), I 0] [] [] trivial ?_
    refine x_block ?_
    refine x_nil 3 703 3 (fun _ => []) (by kernel_rfl) ?_
    refine x_weak [] (T := [(3, .arr 703), (12, slLS false ss), (13, I (ss.length : Int)), (14, I 0)]) (O := [(703, tABigram ([] : List Bigram))]) rfl (⟨.inl rfl, .inl rfl, .inl rfl, .inl rfl, trivial⟩) (⟨.inr ⟨rfl, (by first | rfl | (simp; done) | (simp; omega) | omega), fun i_ hi_ => absurd hi_ (Nat.not_lt_zero _)⟩, trivial⟩) ?_
    refine x_loop (X := (List Bigram) × Int) (fun x => mkS [(3, .arr 703), (12, slLS false ss), (13, I (ss.length : Int)), (14, I x.2)] [(703, tABigram x.1)]) (fun x => (0 ≤ x.2 ∧ x.2 ≤ (ss.length : Int)) ∧ ((x.1.length : Int) ≤ 3 * x.2) ∧ (∀ b ∈ x.1, okKy b ∧ b.Cost = 1) ∧ True) (fun x => ((ss.length : Int) - x.2).toNat) (([] : List Bigram), 0) rfl (show (0 ≤ (0 : Int) ∧ (0 : Int) ≤ (ss.length : Int)) ∧ ((([] : List Bigram).length : Int) ≤ 3 * (0 : Int)) ∧ (∀ b ∈ ([] : List Bigram), okKy b ∧ b.Cost = 1) ∧ True from ⟨(by omega), (by simp), (by intro b hb; cases hb), trivial⟩) (fun x hI => ?_)
    obtain ⟨all, t14⟩ := x
    obtain ⟨hi0, hal, hall, _⟩ : (0 ≤ t14 ∧ t14 ≤ (ss.length : Int)) ∧ ((all.length : Int) ≤ 3 * t14) ∧ (∀ b ∈ all, okKy b ∧ b.Cost = 1) ∧ True := hI
    show XW _ _ _ _ (mkS [(3, .arr 703), (12, slLS false ss), (13, I (ss.length : Int)), (14, I t14)] [(703, tABigram all)]) _ _
    refine x_seq ?_
    by_cases h1 : t14 < (ss.length : Int)
    ·have hi : t14.toNat < ss.length := by omega
     have hws := hss _ (at_mem hi)
     have hwl := hws.1
     refine x_r [(0, .dec true)] [3, 12, 13, 14, 15] [703] [.arr 703, slLS false ss, I (ss.length : Int), I t14, Bv true] [some (tABigram all)] [t14 < (ss.length : Int)] ⟨h1, trivial⟩ ?_
     refine xe_then ?_
     refine x_seq ?_
     refine x_true rfl ?_
     refine x_skip ?_
     refine xe_then ?_
     refine x_seq ?_
     refine x_block ?_
     refine xR [] [3, 5, 12, 13, 14] [703] [.arr 703, slS false (at_ ss t14.toNat), slLS false ss, I (ss.length : Int), I t14] [some (tABigram all)] [(0 : Int) ≤ t14 ∧ t14 < (ss.length : Int)] ⟨⟨(by omega), (by omega)⟩, trivial⟩ ?_
     refine xR [] [3, 5, 6, 12, 13, 14] [703] [.arr 703, slS false (at_ ss t14.toNat), Sv (⟨#[]⟩ : ByteArray), slLS false ss, I (ss.length : Int), I t14] [some (tABigram all)] [] trivial ?_
     refine xR [] [3, 6, 12, 13, 14, 18, 19, 20] [703] [.arr 703, Sv (⟨#[]⟩ : ByteArray), slLS false ss, I (ss.length : Int), I t14, slS false (at_ ss t14.toNat), I (((at_ ss t14.toNat).length) : Int), I 0] [some (tABigram all)] [] trivial ?_
     refine x_block ?_
     refine x_loop (X := (List Bigram) × ByteArray × Int) (fun x => mkS [(3, .arr 703), (6, Sv x.2.1), (12, slLS false ss), (13, I (ss.length : Int)), (14, I t14), (18, slS false (at_ ss t14.toNat)), (19, I (((at_ ss t14.toNat).length) : Int)), (20, I x.2.2)] [(703, tABigram x.1)]) (fun x => (0 ≤ x.2.2 ∧ x.2.2 ≤ ((at_ ss t14.toNat).length : Int)) ∧ ((x.1.length : Int) ≤ 3 * t14 + x.2.2) ∧ (∀ b ∈ x.1, okKy b ∧ b.Cost = 1) ∧ (x.2.1 = ⟨#[]⟩ ∨ okWord x.2.1 = true) ∧ True) (fun x => (((at_ ss t14.toNat).length : Int) - x.2.2).toNat) (all, (⟨#[]⟩ : ByteArray), 0) rfl (show (0 ≤ (0 : Int) ∧ (0 : Int) ≤ ((at_ ss t14.toNat).length : Int)) ∧ ((all.length : Int) ≤ 3 * t14 + (0 : Int)) ∧ (∀ b ∈ all, okKy b ∧ b.Cost = 1) ∧ ((⟨#[]⟩ : ByteArray) = ⟨#[]⟩ ∨ okWord (⟨#[]⟩ : ByteArray) = true) ∧ True from ⟨(by omega), (by omega), (by assumption), (by exact .inl rfl), trivial⟩) (fun x hI => ?_)
     obtain ⟨all', last, t20⟩ := x
     obtain ⟨hj0, hal2, hall, hla, _⟩ : (0 ≤ t20 ∧ t20 ≤ ((at_ ss t14.toNat).length : Int)) ∧ ((all'.length : Int) ≤ 3 * t14 + t20) ∧ (∀ b ∈ all', okKy b ∧ b.Cost = 1) ∧ (last = ⟨#[]⟩ ∨ okWord last = true) ∧ True := hI
     show XW _ _ _ _ (mkS [(3, .arr 703), (6, Sv last), (12, slLS false ss), (13, I (ss.length : Int)), (14, I t14), (18, slS false (at_ ss t14.toNat)), (19, I (((at_ ss t14.toNat).length) : Int)), (20, I t20)] [(703, tABigram all')]) _ _
     refine x_seq ?_
     by_cases h2 : t20 < (((at_ ss t14.toNat).length) : Int)
     ·have hj : t20.toNat < (at_ ss t14.toNat).length := by omega
      have hwj := hws.2 _ (at_mem hj)
      refine x_r [(0, .dec true)] [3, 6, 12, 13, 14, 18, 19, 20, 21] [703] [.arr 703, Sv last, slLS false ss, I (ss.length : Int), I t14, slS false (at_ ss t14.toNat), I (((at_ ss t14.toNat).length) : Int), I t20, Bv true] [some (tABigram all')] [t20 < (((at_ ss t14.toNat).length) : Int)] ⟨h2, trivial⟩ ?_
      refine xe_then ?_
      refine x_seq ?_
      refine x_true rfl ?_
      refine x_skip ?_
      refine xe_then ?_
      refine x_seq ?_
      refine x_block ?_
      refine xR [] [3, 6, 8, 12, 13, 14, 18, 19, 20] [703] [.arr 703, Sv last, Sv (at_ (at_ ss t14.toNat) t20.toNat), slLS false ss, I (ss.length : Int), I t14, slS false (at_ ss t14.toNat), I (((at_ ss t14.toNat).length) : Int), I t20] [some (tABigram all')] [(0 : Int) ≤ t20 ∧ t20 < (((at_ ss t14.toNat).length) : Int)] ⟨⟨(by omega), (by omega)⟩, trivial⟩ ?_
      refine xR [(4, .new 28), (5, .new 29)] [3, 8, 12, 13, 14, 18, 19, 20] [29] [.arr 29, Sv (at_ (at_ ss t14.toNat) t20.toNat), slLS false ss, I (ss.length : Int), I t14, slS false (at_ ss t14.toNat), I (((at_ ss t14.toNat).length) : Int), I t20] [some (.arr 3 (all'.length + 1) (catF all'.length (fBigram all') (litF [Sv last, Sv (at_ (at_ ss t14.toNat) t20.toNat), I 1] 3)))] [(all'.length + 1) * 40 ≤ 140737488355328] ⟨(by omega), trivial⟩ ?_
      refine x_r [] [3, 6, 12, 13, 14, 18, 19, 20] [29] [.arr 29, Sv (at_ (at_ ss t14.toNat) t20.toNat), slLS false ss, I (ss.length : Int), I t14, slS false (at_ ss t14.toNat), I (((at_ ss t14.toNat).length) : Int), I t20] [some (.arr 3 (all'.length + 1) (catF all'.length (fBigram all') (litF [Sv last, Sv (at_ (at_ ss t14.toNat) t20.toNat), I 1] 3)))] [] trivial ?_
      refine xe_block 3 ?_
      refine xe_then ?_
      refine x_r [] [3, 6, 12, 13, 14, 18, 19, 20] [29] [.arr 29, Sv (at_ (at_ ss t14.toNat) t20.toNat), slLS false ss, I (ss.length : Int), I t14, slS false (at_ ss t14.toNat), I (((at_ ss t14.toNat).length) : Int), I (t20 + 1)] [some (.arr 3 (all'.length + 1) (catF all'.length (fBigram all') (litF [Sv last, Sv (at_ (at_ ss t14.toNat) t20.toNat), I 1] 3)))] [inR .i64 (t20 + 1)] ⟨(inR_i64 (by omega) (by omega)), trivial⟩ ?_
      refine xe_weak [(703, 29)] (T := [(3, .arr 703), (6, Sv (at_ (at_ ss t14.toNat) t20.toNat)), (12, slLS false ss), (13, I (ss.length : Int)), (14, I t14), (18, slS false (at_ ss t14.toNat)), (19, I (((at_ ss t14.toNat).length) : Int)), (20, I (t20 + 1))]) (O := [(703, tABigram (all' ++ [(Bigram.mk last (at_ (at_ ss t14.toNat) t20.toNat) 1)]))]) rfl (⟨.inl rfl, .inl rfl, .inl rfl, .inl rfl, .inl rfl, .inl rfl, .inl rfl, .inl rfl, trivial⟩) (⟨.inr ⟨rfl, (by first | rfl | (simp; done) | (simp; omega) | omega), fun i_ hi_ => .inl (cat_snoc (enc := cBigram) (xs := all') rfl i_ hi_)⟩, trivial⟩) (xe_again ((all' ++ [(Bigram.mk last (at_ (at_ ss t14.toNat) t20.toNat) 1)]), (at_ (at_ ss t14.toNat) t20.toNat), (t20 + 1)) rfl (show (0 ≤ (t20 + 1) ∧ (t20 + 1) ≤ ((at_ ss t14.toNat).length : Int)) ∧ (((all' ++ [(Bigram.mk last (at_ (at_ ss t14.toNat) t20.toNat) 1)]).length : Int) ≤ 3 * t14 + (t20 + 1)) ∧ (∀ b ∈ (all' ++ [(Bigram.mk last (at_ (at_ ss t14.toNat) t20.toNat) 1)]), okKy b ∧ b.Cost = 1) ∧ ((at_ (at_ ss t14.toNat) t20.toNat) = ⟨#[]⟩ ∨ okWord (at_ (at_ ss t14.toNat) t20.toNat) = true) ∧ True from ⟨(by omega), (by first | (simp; omega) | omega), (by intro b hb; rcases List.mem_append.1 hb with q | q; (exact hall b q); (simp only [List.mem_singleton] at q; subst q; exact ⟨⟨hwj, hla⟩, rfl⟩)), (by exact .inr hwj), trivial⟩) (by first | (show ((((at_ ss t14.toNat).length : Int) - (t20 + 1)).toNat : Nat) < (((at_ ss t14.toNat).length : Int) - t20).toNat; omega) | (dsimp only; omega)))
     refine x_r [(0, .dec false)] [3, 6, 12, 13, 14, 18, 19, 20, 21] [703] [.arr 703, Sv last, slLS false ss, I (ss.length : Int), I t14, slS false (at_ ss t14.toNat), I (((at_ ss t14.toNat).length) : Int), I t20, Bv false] [some (tABigram all')] [¬ (t20 < (((at_ ss t14.toNat).length) : Int))] ⟨h2, trivial⟩ ?_
     refine xe_then ?_
     refine x_seq ?_
     refine x_false rfl ?_
     refine x_exit ?_
     refine xe_exit_then ?_
     refine xe_loop_exit ?_
     refine xe_exit_same ?_
     refine xe_block 1 ?_
     refine xe_then ?_
     refine x_r [] [3, 12, 13, 14] [703] [.arr 703, slLS false ss, I (ss.length : Int), I (t14 + 1)] [some (tABigram all')] [inR .i64 (t14 + 1)] ⟨(inR_i64 (by omega) (by omega)), trivial⟩ ?_
     exact xe_again (all', (t14 + 1)) rfl (show (0 ≤ (t14 + 1) ∧ (t14 + 1) ≤ (ss.length : Int)) ∧ ((all'.length : Int) ≤ 3 * (t14 + 1)) ∧ (∀ b ∈ all', okKy b ∧ b.Cost = 1) ∧ True from ⟨(by omega), (by omega), (by assumption), trivial⟩) (by first | (show (((ss.length : Int) - (t14 + 1)).toNat : Nat) < ((ss.length : Int) - t14).toNat; omega) | (dsimp only; omega))
    refine x_r [(0, .dec false)] [3, 12, 13, 14, 15] [703] [.arr 703, slLS false ss, I (ss.length : Int), I t14, Bv false] [some (tABigram all)] [¬ (t14 < (ss.length : Int))] ⟨h1, trivial⟩ ?_
    refine xe_then ?_
    refine x_seq ?_
    refine x_false rfl ?_
    refine x_exit ?_
    refine xe_exit_then ?_
    refine xe_loop_exit ?_
    refine xe_exit_same ?_
    refine xe_then ?_
    refine x_seq ?_
    refine x_weak [(8451, 703)] (T := [(3, .arr 8451), (12, slLS false ss), (13, I (ss.length : Int)), (14, I t14), (15, Bv false)]) (O := [(8451, tABigram all)]) rfl (⟨.inl rfl, .inl rfl, .inl rfl, .inl rfl, .inl rfl, trivial⟩) (⟨.inl rfl, trivial⟩) ?_
    obtain ⟨data'_1, hx1_0, hc1⟩ := shGsort_ok all (by first | omega | (simp only [*]; omega))
    have hsd := hx1_0
    have hsl : data'_1.length = all.length := by rw [hsd, isoL_len]
    have hsrt : data'_1.Pairwise (fun x y => cmpG x y ≤ 0) := by rw [hsd]; exact cnt_srt _
    have hsok : ∀ b ∈ data'_1, okKy b ∧ b.Cost = 1 := fun b hb => hall b (by rw [hsd] at hb; exact isoL_mem.1 hb)
    refine x_r [(1, .lend [(8451, tABigram all, tABigram data'_1)] [] [(true, .any), (true, .any)] true (.tup []))] [3] [8451] [.arr 8451] [some (tABigram data'_1)] [CallOK Tryz.prog 118 [.arr 8451, .fn 58 []] (lookO [(8451, tABigram all)]) true (.tup []) (lookO [(8451, tABigram data'_1)]) ∧ (((tABigram all : Ob) = tABigram all ∨ obLe noOb true (tABigram all) (tABigram all)) ∧ taggedO false (tABigram all)) ∧ True] ⟨⟨hc1, ⟨.inl rfl, fun _ _ => tagcBigram false _⟩, trivial⟩, trivial⟩ ?_
    refine xe_then ?_
    refine xR [] [3, 9] [8451] [.arr 8451, nilA] [some (tABigram data'_1)] [] trivial ?_
    refine x_seq ?_
    refine xR [] [3, 9, 35, 36, 37] [8451] [.arr 8451, nilA, .arr 8451, I (data'_1.length : Int), I 0] [some (tABigram data'_1)] [] trivial ?_
    refine x_block ?_
    refine x_nil 9 709 3 (fun _ => []) (by kernel_rfl) ?_
    refine x_weak [] (T := [(3, .arr 8451), (9, .arr 709), (35, .arr 8451), (36, I (data'_1.length : Int)), (37, I 0)]) (O := [(709, tABigram ([] : List Bigram)), (8451, tABigram data'_1)]) rfl (⟨.inl rfl, .inl rfl, .inl rfl, .inl rfl, .inl rfl, trivial⟩) (⟨.inr ⟨rfl, (by first | rfl | (simp; done) | (simp; omega) | omega), fun i_ hi_ => absurd hi_ (Nat.not_lt_zero _)⟩, .inl rfl, trivial⟩) ?_
    refine x_loop (X := (List Bigram) × Int) (fun x => mkS [(3, .arr 8451), (9, .arr 709), (35, .arr 8451), (36, I (data'_1.length : Int)), (37, I x.2)] [(709, tABigram x.1), (8451, tABigram data'_1)]) (fun x => (0 ≤ x.2 ∧ x.2 ≤ (data'_1.length : Int)) ∧ (ddI data'_1 x.1 x.2.toNat) ∧ True) (fun x => ((data'_1.length : Int) - x.2).toNat) (([] : List Bigram), 0) rfl (show (0 ≤ (0 : Int) ∧ (0 : Int) ≤ (data'_1.length : Int)) ∧ (ddI data'_1 ([] : List Bigram) (0 : Int).toNat) ∧ True from ⟨(by omega), (by exact dd_0 _), trivial⟩) (fun x hI => ?_)
    obtain ⟨out, t37⟩ := x
    obtain ⟨hk0, hdd, _⟩ : (0 ≤ t37 ∧ t37 ≤ (data'_1.length : Int)) ∧ (ddI data'_1 out t37.toNat) ∧ True := hI
    show XW _ _ _ _ (mkS [(3, .arr 8451), (9, .arr 709), (35, .arr 8451), (36, I (data'_1.length : Int)), (37, I t37)] [(709, tABigram out), (8451, tABigram data'_1)]) _ _
    refine x_seq ?_
    by_cases h3 : t37 < (data'_1.length : Int)
    ·have hk : t37.toNat < data'_1.length := by omega
     have hk1 : (t37 + 1).toNat = t37.toNat + 1 := by omega
     have hol0 := hdd.1.1
     refine x_r [(0, .dec true)] [3, 9, 35, 36, 37, 38] [709, 8451] [.arr 8451, .arr 709, .arr 8451, I (data'_1.length : Int), I t37, Bv true] [some (tABigram out), some (tABigram data'_1)] [t37 < (data'_1.length : Int)] ⟨h3, trivial⟩ ?_
     refine xe_then ?_
     refine x_seq ?_
     refine x_true rfl ?_
     refine x_skip ?_
     refine xe_then ?_
     refine x_seq ?_
     refine x_block ?_
     refine xR [(3, .new 11)] [3, 9, 10, 11, 35, 36, 37] [11, 709, 8451] [.arr 8451, .arr 709, I t37, .ref 11 0, .arr 8451, I (data'_1.length : Int), I t37] [some (bxBigram (at_ data'_1 t37.toNat)), some (tABigram out), some (tABigram data'_1)] [(0 : Int) ≤ t37 ∧ t37 < (data'_1.length : Int), t37.toNat < data'_1.length] ⟨⟨(by omega), (by omega)⟩, (by omega), trivial⟩ ?_
     refine x_seq ?_
     by_cases h4 : 0 < t37
     ·have hol := hdd.1.2 (by omega)
      have hlx : ((out.length : Int) - 1).toNat = out.length - 1 := by omega
      have hlc := (hdd.2.1 _ (at_mem (show ((out.length : Int) - 1).toNat < out.length by omega))).2
      have hkm : (t37 - 1).toNat = t37.toNat - 1 := by omega
      by_cases h5 : (cmpG (at_ data'_1 ((t37 - 1).toNat)) (at_ data'_1 t37.toNat)) = 0
      ·have hq_ := h5
       rw [hkm] at hq_
       have hst := dd_bump hdd (by omega) hk hq_ rfl
       refine x_r [(1, .dec true), (9, .call [(true, .any), (true, .any)] true (I (cmpG (at_ data'_1 ((t37 - 1).toNat)) (at_ data'_1 t37.toNat)))), (10, .dec true)] [3, 9, 11, 35, 36, 37, 53] [11, 709, 8451] [.arr 8451, .arr 709, .ref 11 0, .arr 8451, I (data'_1.length : Int), I t37, Bv true] [some (bxBigram (at_ data'_1 t37.toNat)), some (tABigram out), some (tABigram data'_1)] [0 < t37, inR .i64 (t37 - 1), (0 : Int) ≤ (t37 - 1) ∧ (t37 - 1) < (data'_1.length : Int), (t37 - 1).toNat < data'_1.length, Con Tryz.prog 58 [agBigram (at_ data'_1 ((t37 - 1).toNat)), agBigram (at_ data'_1 t37.toNat)] true (I (cmpG (at_ data'_1 ((t37 - 1).toNat)) (at_ data'_1 t37.toNat))) ∧ True, (cmpG (at_ data'_1 ((t37 - 1).toNat)) (at_ data'_1 t37.toNat)) = 0] ⟨h4, (inR_i64 (by omega) (by omega)), ⟨(by omega), (by omega)⟩, (by omega), ⟨(compareBigrams_ok (at_ data'_1 ((t37 - 1).toNat)) (at_ data'_1 t37.toNat)), trivial⟩, h5, trivial⟩ ?_
       refine xe_then ?_
       refine x_true rfl ?_
       refine x_r [] [3, 9, 35, 36, 37] [709, 8451] [.arr 8451, .arr 709, .arr 8451, I (data'_1.length : Int), I t37] [some (.arr 3 out.length (fun q => bif Nat.beq q (((out.length : Int) - 1).toNat) then [Sv ((at_ out (((out.length : Int) - 1).toNat)).First), Sv ((at_ out (((out.length : Int) - 1).toNat)).Second), I (((at_ out (((out.length : Int) - 1).toNat)).Cost) + 1)] else (fBigram out) q)), some (tABigram data'_1)] [inR .i64 ((out.length : Int) - 1), (0 : Int) ≤ ((out.length : Int) - 1) ∧ ((out.length : Int) - 1) < (out.length : Int), ((out.length : Int) - 1).toNat < out.length, inR .i64 (((at_ out (((out.length : Int) - 1).toNat)).Cost) + 1), (0 : Int) ≤ ((out.length : Int) - 1) ∧ ((out.length : Int) - 1) < (out.length : Int), ((out.length : Int) - 1).toNat < out.length] ⟨(inR_i64 (by omega) (by omega)), ⟨(by omega), (by omega)⟩, (by omega), (inR_i64 (by omega) (by omega)), ⟨(by omega), (by omega)⟩, (by omega), trivial⟩ ?_
       refine xe_block 5 ?_
       refine xe_then ?_
       refine x_r [] [3, 9, 35, 36, 37] [709, 8451] [.arr 8451, .arr 709, .arr 8451, I (data'_1.length : Int), I (t37 + 1)] [some (.arr 3 out.length (fun q => bif Nat.beq q (((out.length : Int) - 1).toNat) then [Sv ((at_ out (((out.length : Int) - 1).toNat)).First), Sv ((at_ out (((out.length : Int) - 1).toNat)).Second), I (((at_ out (((out.length : Int) - 1).toNat)).Cost) + 1)] else (fBigram out) q)), some (tABigram data'_1)] [inR .i64 (t37 + 1)] ⟨(inR_i64 (by omega) (by omega)), trivial⟩ ?_
       refine xe_weak [] (T := [(3, .arr 8451), (9, .arr 709), (35, .arr 8451), (36, I (data'_1.length : Int)), (37, I (t37 + 1))]) (O := [(709, tABigram (out.set (((out.length : Int) - 1).toNat) (Bigram.mk ((at_ out (((out.length : Int) - 1).toNat)).First) ((at_ out (((out.length : Int) - 1).toNat)).Second) (((at_ out (((out.length : Int) - 1).toNat)).Cost) + 1)))), (8451, tABigram data'_1)]) rfl (⟨.inl rfl, .inl rfl, .inl rfl, .inl rfl, .inl rfl, trivial⟩) (⟨.inr ⟨rfl, (by first | rfl | (simp; done) | (simp; omega) | omega), fun i_ hi_ => .inl (upd_enc (enc := cBigram) rfl i_ hi_)⟩, .inl rfl, trivial⟩) (xe_again ((out.set (((out.length : Int) - 1).toNat) (Bigram.mk ((at_ out (((out.length : Int) - 1).toNat)).First) ((at_ out (((out.length : Int) - 1).toNat)).Second) (((at_ out (((out.length : Int) - 1).toNat)).Cost) + 1))), (t37 + 1)) rfl (show (0 ≤ (t37 + 1) ∧ (t37 + 1) ≤ (data'_1.length : Int)) ∧ (ddI data'_1 (out.set (((out.length : Int) - 1).toNat) (Bigram.mk ((at_ out (((out.length : Int) - 1).toNat)).First) ((at_ out (((out.length : Int) - 1).toNat)).Second) (((at_ out (((out.length : Int) - 1).toNat)).Cost) + 1))) (t37 + 1).toNat) ∧ True from ⟨(by omega), (by first | (rw [hk1, hlx]; exact hst) | (rw [hk1]; exact hst) | (rw [hk1]; have q_ := hst; simpa using q_)), trivial⟩) (by first | (show (((data'_1.length : Int) - (t37 + 1)).toNat : Nat) < ((data'_1.length : Int) - t37).toNat; omega) | (dsimp only; omega)))
      have hq_ := h5
      rw [hkm] at hq_
      have hst := dd_app hdd hk hsrt hsok (fun _ => hq_)
      refine x_r [(1, .dec true), (9, .call [(true, .any), (true, .any)] true (I (cmpG (at_ data'_1 ((t37 - 1).toNat)) (at_ data'_1 t37.toNat)))), (10, .dec false)] [3, 9, 11, 35, 36, 37, 53] [11, 709, 8451] [.arr 8451, .arr 709, .ref 11 0, .arr 8451, I (data'_1.length : Int), I t37, Bv false] [some (bxBigram (at_ data'_1 t37.toNat)), some (tABigram out), some (tABigram data'_1)] [0 < t37, inR .i64 (t37 - 1), (0 : Int) ≤ (t37 - 1) ∧ (t37 - 1) < (data'_1.length : Int), (t37 - 1).toNat < data'_1.length, Con Tryz.prog 58 [agBigram (at_ data'_1 ((t37 - 1).toNat)), agBigram (at_ data'_1 t37.toNat)] true (I (cmpG (at_ data'_1 ((t37 - 1).toNat)) (at_ data'_1 t37.toNat))) ∧ True, ¬ ((cmpG (at_ data'_1 ((t37 - 1).toNat)) (at_ data'_1 t37.toNat)) = 0)] ⟨h4, (inR_i64 (by omega) (by omega)), ⟨(by omega), (by omega)⟩, (by omega), ⟨(compareBigrams_ok (at_ data'_1 ((t37 - 1).toNat)) (at_ data'_1 t37.toNat)), trivial⟩, h5, trivial⟩ ?_
      refine xe_then ?_
      refine x_false rfl ?_
      refine x_r [(2, .new 66), (3, .new 67)] [3, 9, 35, 36, 37] [67, 8451] [.arr 8451, .arr 67, .arr 8451, I (data'_1.length : Int), I t37] [some (.arr 3 (out.length + 1) (catF out.length (fBigram out) (litF [Sv ((at_ data'_1 t37.toNat).First), Sv ((at_ data'_1 t37.toNat).Second), I ((at_ data'_1 t37.toNat).Cost)] 3))), some (tABigram data'_1)] [(out.length + 1) * 40 ≤ 140737488355328] ⟨(by omega), trivial⟩ ?_
      refine xe_block 5 ?_
      refine xe_then ?_
      refine x_r [] [3, 9, 35, 36, 37] [67, 8451] [.arr 8451, .arr 67, .arr 8451, I (data'_1.length : Int), I (t37 + 1)] [some (.arr 3 (out.length + 1) (catF out.length (fBigram out) (litF [Sv ((at_ data'_1 t37.toNat).First), Sv ((at_ data'_1 t37.toNat).Second), I ((at_ data'_1 t37.toNat).Cost)] 3))), some (tABigram data'_1)] [inR .i64 (t37 + 1)] ⟨(inR_i64 (by omega) (by omega)), trivial⟩ ?_
      refine xe_weak [(709, 67)] (T := [(3, .arr 8451), (9, .arr 709), (35, .arr 8451), (36, I (data'_1.length : Int)), (37, I (t37 + 1))]) (O := [(709, tABigram (out ++ [(at_ data'_1 t37.toNat)])), (8451, tABigram data'_1)]) rfl (⟨.inl rfl, .inl rfl, .inl rfl, .inl rfl, .inl rfl, trivial⟩) (⟨.inr ⟨rfl, (by first | rfl | (simp; done) | (simp; omega) | omega), fun i_ hi_ => .inl (cat_snoc (enc := cBigram) (xs := out) rfl i_ hi_)⟩, .inl rfl, trivial⟩) (xe_again ((out ++ [(at_ data'_1 t37.toNat)]), (t37 + 1)) rfl (show (0 ≤ (t37 + 1) ∧ (t37 + 1) ≤ (data'_1.length : Int)) ∧ (ddI data'_1 (out ++ [(at_ data'_1 t37.toNat)]) (t37 + 1).toNat) ∧ True from ⟨(by omega), (by first | (rw [hk1, hlx]; exact hst) | (rw [hk1]; exact hst) | (rw [hk1]; have q_ := hst; simpa using q_)), trivial⟩) (by first | (show (((data'_1.length : Int) - (t37 + 1)).toNat : Nat) < ((data'_1.length : Int) - t37).toNat; omega) | (dsimp only; omega)))
     have hst := dd_app hdd hk hsrt hsok (fun q => by omega)
     refine x_r [(1, .dec false)] [3, 9, 11, 35, 36, 37, 53] [11, 709, 8451] [.arr 8451, .arr 709, .ref 11 0, .arr 8451, I (data'_1.length : Int), I t37, Bv false] [some (bxBigram (at_ data'_1 t37.toNat)), some (tABigram out), some (tABigram data'_1)] [¬ (0 < t37)] ⟨h4, trivial⟩ ?_
     refine xe_then ?_
     refine x_false rfl ?_
     refine x_r [(2, .new 66), (3, .new 67)] [3, 9, 35, 36, 37] [67, 8451] [.arr 8451, .arr 67, .arr 8451, I (data'_1.length : Int), I t37] [some (.arr 3 (out.length + 1) (catF out.length (fBigram out) (litF [Sv ((at_ data'_1 t37.toNat).First), Sv ((at_ data'_1 t37.toNat).Second), I ((at_ data'_1 t37.toNat).Cost)] 3))), some (tABigram data'_1)] [(out.length + 1) * 40 ≤ 140737488355328] ⟨(by omega), trivial⟩ ?_
     refine xe_block 5 ?_
     refine xe_then ?_
     refine x_r [] [3, 9, 35, 36, 37] [67, 8451] [.arr 8451, .arr 67, .arr 8451, I (data'_1.length : Int), I (t37 + 1)] [some (.arr 3 (out.length + 1) (catF out.length (fBigram out) (litF [Sv ((at_ data'_1 t37.toNat).First), Sv ((at_ data'_1 t37.toNat).Second), I ((at_ data'_1 t37.toNat).Cost)] 3))), some (tABigram data'_1)] [inR .i64 (t37 + 1)] ⟨(inR_i64 (by omega) (by omega)), trivial⟩ ?_
     refine xe_weak [(709, 67)] (T := [(3, .arr 8451), (9, .arr 709), (35, .arr 8451), (36, I (data'_1.length : Int)), (37, I (t37 + 1))]) (O := [(709, tABigram (out ++ [(at_ data'_1 t37.toNat)])), (8451, tABigram data'_1)]) rfl (⟨.inl rfl, .inl rfl, .inl rfl, .inl rfl, .inl rfl, trivial⟩) (⟨.inr ⟨rfl, (by first | rfl | (simp; done) | (simp; omega) | omega), fun i_ hi_ => .inl (cat_snoc (enc := cBigram) (xs := out) rfl i_ hi_)⟩, .inl rfl, trivial⟩) (xe_again ((out ++ [(at_ data'_1 t37.toNat)]), (t37 + 1)) rfl (show (0 ≤ (t37 + 1) ∧ (t37 + 1) ≤ (data'_1.length : Int)) ∧ (ddI data'_1 (out ++ [(at_ data'_1 t37.toNat)]) (t37 + 1).toNat) ∧ True from ⟨(by omega), (by first | (rw [hk1, hlx]; exact hst) | (rw [hk1]; exact hst) | (rw [hk1]; have q_ := hst; simpa using q_)), trivial⟩) (by first | (show (((data'_1.length : Int) - (t37 + 1)).toNat : Nat) < ((data'_1.length : Int) - t37).toNat; omega) | (dsimp only; omega)))
    have hfin : t37.toNat = data'_1.length := by omega
    refine x_r [(0, .dec false)] [3, 9, 35, 36, 37, 38] [709, 8451] [.arr 8451, .arr 709, .arr 8451, I (data'_1.length : Int), I t37, Bv false] [some (tABigram out), some (tABigram data'_1)] [¬ (t37 < (data'_1.length : Int))] ⟨h3, trivial⟩ ?_
    refine xe_then ?_
    refine x_seq ?_
    refine x_false rfl ?_
    refine x_exit ?_
    refine xe_exit_then ?_
    refine xe_loop_exit ?_
    refine xe_exit_same ?_
    refine xe_then ?_
    refine xR [] [2] [709] [.arr 709] [some (tABigram out)] [] trivial ?_
    refine x_ret ?_
    refine xe_weak [(8452, 709)] (T := [(2, .arr 8452)]) (O := [(8452, tABigram out)]) rfl (⟨.inl rfl, trivial⟩) (⟨.inl rfl, trivial⟩) ?_
    refine xe_end out (show (out.length ≤ 6) ∧ (∀ b ∈ out, okKy b ∧ (1 ≤ b.Cost ∧ b.Cost ≤ 6)) ∧ (out.Pairwise (fun x y => cmpG x y < 0)) ∧ (True) from ⟨(by (have q_ := hdd.1.1; omega)), (by exact fun b hb => ⟨(hdd.2.1 b hb).1, by have q_ := (hdd.2.1 b hb).2; omega⟩), (by exact hdd.2.2.1), trivial⟩) (⟨.inl rfl, trivial⟩) (.arr 8452) (by kernel_rfl) (.inl rfl) (fun h => by cases h) (fun h => by cases h)
  obtain ⟨out, ⟨hh0, hh1, hh2, _⟩, hc⟩ := hh
  exact ⟨out, hh0, hh1, hh2, hc⟩



-- impl.CountModel
theorem containsW2_ok_idx (s : List ByteArray) (hel : ∀ j, j < s.length → okWord (at_ s j) = true) : Con Tryz.prog 114 [slS false s, .fn 68 []] true (I (firstN s.length (fun j => false))) := by
  refine fn_ok (fn := Tryz.f114) (nt := 19) Tryz.func114 rfl rfl rfl rfl (by simp [taggedL, tagged, tagS]) fun B hB => ?_
  refine aw_lens (x := slS false s) 0 rfl (fun len_s => ?_)
  simp [LenOK, LenL, cS, fS, slS] at len_s
  refine aR [] [0, 1] [] [slS false s, .fn 68 []] [] [] hB trivial ?_
  refine aw_seq ?_
  refine aR [] [0, 1, 7, 8] [] [slS false s, .fn 68 [], I (s.length : Int), I 0] [] [] hB trivial ?_
  refine aw_block ?_
  refine aw_loop (fun gn gσ => ∃ (t8 : Int), gn = ((s.length : Int) - t8).toNat ∧ (0 ≤ t8 ∧ t8 ≤ (s.length : Int)) ∧ (∀ j : Nat, (j : Int) < t8 → false = false) ∧ gσ = mkS [(0, slS false s), (1, .fn 68 []), (7, I (s.length : Int)), (8, I t8)] []) (((s.length : Int) - 0).toNat) ⟨0, rfl, (by omega), (by intro j hj; omega), rfl⟩ (fun gn gσ hI => ?_)
  obtain ⟨t8, rfl, hi0, hall0, rfl⟩ := hI
  refine aw_seq ?_
  by_cases h1 : t8 < (s.length : Int)
  ·have hi : t8.toNat < s.length := by omega
   refine aw_r [(0, .dec true)] [0, 1, 7, 8, 9] [] [slS false s, .fn 68 [], I (s.length : Int), I t8, Bv true] [] [t8 < (s.length : Int)] hB ⟨h1, trivial⟩ ?_
   refine ae_then ?_
   refine aw_seq ?_
   refine aw_true rfl ?_
   refine aw_skip ?_
   refine ae_then ?_
   refine aw_seq ?_
   refine aw_block ?_
   refine aR [] [0, 1, 5, 7, 8] [] [slS false s, .fn 68 [], I t8, I (s.length : Int), I t8] [] [] hB trivial ?_
   refine aR [(5, .call [(true, .any)] true (Bv false))] [0, 1, 5, 7, 8, 16] [] [slS false s, .fn 68 [], I t8, I (s.length : Int), I t8, Bv false] [] [(0 : Int) ≤ t8 ∧ t8 < (s.length : Int), Con Tryz.prog 68 [Sv (at_ s t8.toNat)] true (Bv false) ∧ True] hB ⟨⟨(by omega), (by omega)⟩, ⟨(CountModel1_ok (at_ s t8.toNat) (hel _ hi)), trivial⟩, trivial⟩ ?_
   refine aw_false rfl ?_
   refine aw_skip ?_
   refine ae_block 1 ?_
   refine ae_then ?_
   refine aw_r [] [0, 1, 7, 8] [] [slS false s, .fn 68 [], I (s.length : Int), I (t8 + 1)] [] [inR .i64 (t8 + 1)] hB ⟨(inR_i64 (by omega) (by omega)), trivial⟩ ?_
   exact ae_again _ (by omega) ⟨(t8 + 1), rfl, (by omega), (by intro j hj; by_cases ej : j = t8.toNat; (subst ej; first | assumption | rfl); exact hall0 j (by omega)), rfl⟩
  have hfin : firstN s.length (fun j => false) = -1 := firstN_none (fun j hj => hall0 j (by omega))
  refine aw_r [(0, .dec false)] [0, 1, 7, 8, 9] [] [slS false s, .fn 68 [], I (s.length : Int), I t8, Bv false] [] [¬ (t8 < (s.length : Int))] hB ⟨h1, trivial⟩ ?_
  refine ae_then ?_
  refine aw_seq ?_
  refine aw_false rfl ?_
  refine aw_exit ?_
  refine ae_exit_then ?_
  refine ae_exit_then ?_
  refine ae_exit_same ?_
  refine ae_then ?_
  refine aR [] [4] [] [I (-1)] [] [] hB trivial ?_
  refine aw_ret ?_
  refine ae_ret hB (I (-1)) (by kernel_rfl) (.inl (by refine congrArg I ?_; first | (rw [hfin]; done) | (rw [hfin]; omega))) rfl (fun _ => trivial)

theorem containsW2_ok (s : List ByteArray) (hel : ∀ j, j < s.length → okWord (at_ s j) = true) : Con Tryz.prog 63 [slS false s, .fn 68 []] true (Bv (anyN s.length (fun j => false))) := by
  refine fn_ok (fn := Tryz.f63) (nt := 9) Tryz.func63 rfl rfl rfl rfl (by simp [taggedL, tagged, tagS]) fun B hB => ?_
  refine aw_lens (x := slS false s) 0 rfl (fun len_s => ?_)
  simp [LenOK, LenL, cS, fS, slS] at len_s
  refine aR [] [0, 1] [] [slS false s, .fn 68 []] [] [] hB trivial ?_
  refine aR [(2, .call [(true, .any), (true, .any)] true (I (firstN s.length (fun j => false))))] [4] [] [Bv (decide (0 ≤ (firstN s.length (fun j => false))))] [] [Con Tryz.prog 114 [slS false s, .fn 68 []] true (I (firstN s.length (fun j => false))) ∧ True] hB ⟨⟨(containsW2_ok_idx s hel), trivial⟩, trivial⟩ ?_
  refine aw_ret ?_
  refine ae_ret hB (Bv (decide (0 ≤ (firstN s.length (fun j => false))))) (by kernel_rfl) (.inl (by exact congrArg Bv (firstN_any _ _))) rfl (fun _ => trivial)

theorem CountModel_ok (ss : List (List ByteArray)) (scale : Int) (other : Int) (hn : ss.length ≤ 2) (hss : ∀ ws ∈ ss, ws.length ≤ 3 ∧ ∀ w ∈ ws, okWord w = true) (hsc : scale = 90) (hot : other = 50) : ∃ (v : Model) (c : Int), (okMod v) ∧ (∀ x_ y_ : ByteArray, 0 ≤ pcM v x_ y_ ∧ pcM v x_ y_ ≤ 90) ∧ (c = 0) ∧ Con Tryz.prog 24 [slLS false ss, I scale, I other] true (.tup [agModelT v, I c]) := by
  have hh : ∃ r : Model × Int, ((okMod r.1) ∧ (∀ x_ y_ : ByteArray, 0 ≤ pcM r.1 x_ y_ ∧ pcM r.1 x_ y_ ≤ 90) ∧ (r.2 = 0) ∧ (True)) ∧ CallOK Tryz.prog 24 [slLS false ss, I scale, I other] (lookO []) true (.tup [agModelT r.1, I r.2]) (lookO []) := by
    refine fn_okX (Φ := fun r : Model × Int => (okMod r.1) ∧ (∀ x_ y_ : ByteArray, 0 ≤ pcM r.1 x_ y_ ∧ pcM r.1 x_ y_ ≤ 90) ∧ (r.2 = 0) ∧ (True)) [] (fun r => []) (fn := Tryz.f24) (nt := 79) Tryz.func24 rfl rfl (args := [slLS false ss, I scale, I other]) rfl (allcons (.inl ⟨rfl, tagLS false _⟩) (allcons (.inl ⟨rfl, trivial⟩) (allcons (.inl ⟨rfl, trivial⟩) allnil))) (res := fun r => .tup [agModelT r.1, I r.2]) ?_
    refine xR [(0, .new 6)] [0, 1, 2, 6] [6] [slLS false ss, I scale, I other, .ref 6 0] [some (.box [I 0, nilA])] [] trivial ?_
    refine x_seq ?_
    refine xR [] [0, 1, 2, 6, 16, 17, 18] [6] [slLS false ss, I scale, I other, .ref 6 0, slLS false ss, I (ss.length : Int), I 0] [some (.box [I 0, nilA])] [] trivial ?_
    refine x_block ?_
    refine x_loop (X := Int) (fun x => mkS [(0, slLS false ss), (1, I scale), (2, I other), (6, .ref 6 0), (16, slLS false ss), (17, I (ss.length : Int)), (18, I x)] [(6, .box [I 0, nilA])]) (fun x => (0 ≤ x ∧ x ≤ (ss.length : Int)) ∧ True) (fun x => ((ss.length : Int) - x).toNat) 0 rfl (show (0 ≤ (0 : Int) ∧ (0 : Int) ≤ (ss.length : Int)) ∧ True from ⟨(by omega), trivial⟩) (fun x hI => ?_)
    obtain ⟨t18, hxx⟩ : ∃ t18 : Int, t18 = x := ⟨x, rfl⟩
    subst hxx
    obtain ⟨hi0, _⟩ : (0 ≤ t18 ∧ t18 ≤ (ss.length : Int)) ∧ True := hI
    show XW _ _ _ _ (mkS [(0, slLS false ss), (1, I scale), (2, I other), (6, .ref 6 0), (16, slLS false ss), (17, I (ss.length : Int)), (18, I t18)] [(6, .box [I 0, nilA])]) _ _
    refine x_seq ?_
    by_cases h1 : t18 < (ss.length : Int)
    ·have hi : t18.toNat < ss.length := by omega
     have hws := hss _ (at_mem hi)
     refine x_r [(0, .dec true)] [0, 1, 2, 6, 16, 17, 18, 19] [6] [slLS false ss, I scale, I other, .ref 6 0, slLS false ss, I (ss.length : Int), I t18, Bv true] [some (.box [I 0, nilA])] [t18 < (ss.length : Int)] ⟨h1, trivial⟩ ?_
     refine xe_then ?_
     refine x_seq ?_
     refine x_true rfl ?_
     refine x_skip ?_
     refine xe_then ?_
     refine x_seq ?_
     refine x_block ?_
     refine xR [] [0, 1, 2, 6, 9, 16, 17, 18] [6] [slLS false ss, I scale, I other, .ref 6 0, slS false (at_ ss t18.toNat), slLS false ss, I (ss.length : Int), I t18] [some (.box [I 0, nilA])] [(0 : Int) ≤ t18 ∧ t18 < (ss.length : Int)] ⟨⟨(by omega), (by omega)⟩, trivial⟩ ?_
     refine xR [(1, .call [(true, .any), (true, .any)] true (Bv false))] [0, 1, 2, 6, 16, 17, 18, 23] [6] [slLS false ss, I scale, I other, .ref 6 0, slLS false ss, I (ss.length : Int), I t18, Bv false] [some (.box [I 0, nilA])] [Con Tryz.prog 63 [slS false (at_ ss t18.toNat), .fn 68 []] true (Bv false) ∧ True] ⟨⟨(con_bool (by rw [anyN_none fun _ _ => rfl]) (containsW2_ok (at_ ss t18.toNat) (fun j hj => hws.2 _ (at_mem hj)))), trivial⟩, trivial⟩ ?_
     refine x_false rfl ?_
     refine x_skip ?_
     refine xe_block 1 ?_
     refine xe_then ?_
     refine x_r [] [0, 1, 2, 6, 16, 17, 18] [6] [slLS false ss, I scale, I other, .ref 6 0, slLS false ss, I (ss.length : Int), I (t18 + 1)] [some (.box [I 0, nilA])] [inR .i64 (t18 + 1)] ⟨(inR_i64 (by omega) (by omega)), trivial⟩ ?_
     exact xe_again (t18 + 1) rfl (show (0 ≤ (t18 + 1) ∧ (t18 + 1) ≤ (ss.length : Int)) ∧ True from ⟨(by omega), trivial⟩) (by first | (show (((ss.length : Int) - (t18 + 1)).toNat : Nat) < ((ss.length : Int) - t18).toNat; omega) | (dsimp only; omega))
    refine x_r [(0, .dec false)] [0, 1, 2, 6, 16, 17, 18, 19] [6] [slLS false ss, I scale, I other, .ref 6 0, slLS false ss, I (ss.length : Int), I t18, Bv false] [some (.box [I 0, nilA])] [¬ (t18 < (ss.length : Int))] ⟨h1, trivial⟩ ?_
    refine xe_then ?_
    refine x_seq ?_
    refine x_false rfl ?_
    refine x_exit ?_
    refine xe_exit_then ?_
    refine xe_loop_exit ?_
    refine xe_exit_same ?_
    refine xe_then ?_
    refine x_seq ?_
    refine xR [(1, .call [(true, .any)] true (Bv true)), (5, .call [(true, .any)] true (Bv true))] [0, 1, 2, 6, 33] [6] [slLS false ss, I scale, I other, .ref 6 0, Bv false] [some (.box [I 0, nilA])] [Con Tryz.prog 69 [I scale] true (Bv true) ∧ True, Con Tryz.prog 69 [I other] true (Bv true) ∧ True] ⟨⟨(con_bool (inB_iff.2 (by omega)) (isCost_ok scale)), trivial⟩, ⟨(con_bool (inB_iff.2 (by omega)) (isCost_ok other)), trivial⟩, trivial⟩ ?_
    refine x_false rfl ?_
    refine x_skip ?_
    refine xe_then ?_
    refine x_seq ?_
    obtain ⟨out_1, hx1_0, hx1_1, hx1_2, hc1⟩ := countPairs_ok ss hn hss
    have hl6 := hx1_0
    have hok := hx1_1
    have hpw := hx1_2
    refine x_r [(2, .lend [] [(8452, tABigram out_1)] [(true, .any)] false (.arr 8452)), (4, .new 10)] [1, 6, 10] [6, 10, 8452] [I scale, .ref 6 0, .ref 10 0] [some (.box [I 0, nilA]), some (.box [I other, .arr 8452]), some (tABigram out_1)] [CallOK Tryz.prog 70 [slLS false ss] (lookO []) false (.arr 8452) (lookO [(8452, tABigram out_1)]) ∧ True] ⟨⟨hc1, trivial⟩, trivial⟩ ?_
    refine xe_then ?_
    refine x_seq ?_
    refine xR [(3, .dec false)] [1, 6, 10, 42] [6, 10, 8452] [I scale, .ref 6 0, .ref 10 0, Bv false] [some (.box [I 0, nilA]), some (.box [I other, .arr 8452]), some (tABigram out_1)] [¬ (60 < (out_1.length : Int))] ⟨(by omega), trivial⟩ ?_
    refine x_false rfl ?_
    refine x_skip ?_
    refine xe_then ?_
    refine xR [] [1, 6, 10, 11] [6, 10, 8452] [I scale, .ref 6 0, .ref 10 0, I 0] [some (.box [I 0, nilA]), some (.box [I other, .arr 8452]), some (tABigram out_1)] [] trivial ?_
    refine x_seq ?_
    refine xR [] [1, 6, 10, 11, 45, 46, 47] [6, 10, 8452] [I scale, .ref 6 0, .ref 10 0, I 0, .arr 8452, I (out_1.length : Int), I 0] [some (.box [I 0, nilA]), some (.box [I other, .arr 8452]), some (tABigram out_1)] [] trivial ?_
    refine x_block ?_
    refine x_loop (X := Int × Int) (fun x => mkS [(1, I scale), (6, .ref 6 0), (10, .ref 10 0), (11, I x.1), (45, .arr 8452), (46, I (out_1.length : Int)), (47, I x.2)] [(6, .box [I 0, nilA]), (10, .box [I other, .arr 8452]), (8452, tABigram out_1)]) (fun x => (0 ≤ x.2 ∧ x.2 ≤ (out_1.length : Int)) ∧ (∀ j : Nat, (j : Int) < x.2 → (at_ out_1 j).Cost ≤ x.1) ∧ (0 ≤ x.1 ∧ x.1 ≤ 6) ∧ True) (fun x => ((out_1.length : Int) - x.2).toNat) (0, 0) rfl (show (0 ≤ (0 : Int) ∧ (0 : Int) ≤ (out_1.length : Int)) ∧ (∀ j : Nat, (j : Int) < (0 : Int) → (at_ out_1 j).Cost ≤ (0 : Int)) ∧ (0 ≤ (0 : Int) ∧ (0 : Int) ≤ 6) ∧ True from ⟨(by omega), (by intro j hj; omega), (by omega), trivial⟩) (fun x hI => ?_)
    obtain ⟨most, t47⟩ := x
    obtain ⟨hi0, hm1, hm0, _⟩ : (0 ≤ t47 ∧ t47 ≤ (out_1.length : Int)) ∧ (∀ j : Nat, (j : Int) < t47 → (at_ out_1 j).Cost ≤ most) ∧ (0 ≤ most ∧ most ≤ 6) ∧ True := hI
    show XW _ _ _ _ (mkS [(1, I scale), (6, .ref 6 0), (10, .ref 10 0), (11, I most), (45, .arr 8452), (46, I (out_1.length : Int)), (47, I t47)] [(6, .box [I 0, nilA]), (10, .box [I other, .arr 8452]), (8452, tABigram out_1)]) _ _
    refine x_seq ?_
    by_cases h2 : t47 < (out_1.length : Int)
    ·have hi : t47.toNat < out_1.length := by omega
     have hbc := hok _ (at_mem hi)
     refine x_r [(0, .dec true)] [1, 6, 10, 11, 45, 46, 47, 48] [6, 10, 8452] [I scale, .ref 6 0, .ref 10 0, I most, .arr 8452, I (out_1.length : Int), I t47, Bv true] [some (.box [I 0, nilA]), some (.box [I other, .arr 8452]), some (tABigram out_1)] [t47 < (out_1.length : Int)] ⟨h2, trivial⟩ ?_
     refine xe_then ?_
     refine x_seq ?_
     refine x_true rfl ?_
     refine x_skip ?_
     refine xe_then ?_
     refine x_seq ?_
     refine x_block ?_
     refine xR [(2, .new 13)] [1, 6, 10, 11, 13, 45, 46, 47] [6, 10, 13, 8452] [I scale, .ref 6 0, .ref 10 0, I most, .ref 13 0, .arr 8452, I (out_1.length : Int), I t47] [some (.box [I 0, nilA]), some (.box [I other, .arr 8452]), some (bxBigram (at_ out_1 t47.toNat)), some (tABigram out_1)] [(0 : Int) ≤ t47 ∧ t47 < (out_1.length : Int), t47.toNat < out_1.length] ⟨⟨(by omega), (by omega)⟩, (by omega), trivial⟩ ?_
     refine x_r [] [1, 6, 10, 11, 45, 46, 47] [6, 10, 8452] [I scale, .ref 6 0, .ref 10 0, I (max most ((at_ out_1 t47.toNat).Cost)), .arr 8452, I (out_1.length : Int), I t47] [some (.box [I 0, nilA]), some (.box [I other, .arr 8452]), some (tABigram out_1)] [] trivial ?_
     refine xe_block 3 ?_
     refine xe_then ?_
     refine x_r [] [1, 6, 10, 11, 45, 46, 47] [6, 10, 8452] [I scale, .ref 6 0, .ref 10 0, I (max most ((at_ out_1 t47.toNat).Cost)), .arr 8452, I (out_1.length : Int), I (t47 + 1)] [some (.box [I 0, nilA]), some (.box [I other, .arr 8452]), some (tABigram out_1)] [inR .i64 (t47 + 1)] ⟨(inR_i64 (by omega) (by omega)), trivial⟩ ?_
     exact xe_again ((max most ((at_ out_1 t47.toNat).Cost)), (t47 + 1)) rfl (show (0 ≤ (t47 + 1) ∧ (t47 + 1) ≤ (out_1.length : Int)) ∧ (∀ j : Nat, (j : Int) < (t47 + 1) → (at_ out_1 j).Cost ≤ (max most ((at_ out_1 t47.toNat).Cost))) ∧ (0 ≤ (max most ((at_ out_1 t47.toNat).Cost)) ∧ (max most ((at_ out_1 t47.toNat).Cost)) ≤ 6) ∧ True from ⟨(by omega), (by intro j hj; by_cases ej : j = t47.toNat; (subst ej; omega); (have q_ := hm1 j (by omega); omega)), (by omega), trivial⟩) (by first | (show (((out_1.length : Int) - (t47 + 1)).toNat : Nat) < ((out_1.length : Int) - t47).toNat; omega) | (dsimp only; omega))
    have hmx : ∀ j : Nat, j < out_1.length → (at_ out_1 j).Cost ≤ most := fun j hj => hm1 j (by omega)
    refine x_r [(0, .dec false)] [1, 6, 10, 11, 45, 46, 47, 48] [6, 10, 8452] [I scale, .ref 6 0, .ref 10 0, I most, .arr 8452, I (out_1.length : Int), I t47, Bv false] [some (.box [I 0, nilA]), some (.box [I other, .arr 8452]), some (tABigram out_1)] [¬ (t47 < (out_1.length : Int))] ⟨h2, trivial⟩ ?_
    refine xe_then ?_
    refine x_seq ?_
    refine x_false rfl ?_
    refine x_exit ?_
    refine xe_exit_then ?_
    refine xe_loop_exit ?_
    refine xe_exit_same ?_
    refine xe_then ?_
    refine x_seq ?_
    refine xR [] [1, 6, 10, 11, 57, 58, 59] [6, 10, 8452] [I scale, .ref 6 0, .ref 10 0, I most, .arr 8452, I (out_1.length : Int), I 0] [some (.box [I 0, nilA]), some (.box [I other, .arr 8452]), some (tABigram out_1)] [] trivial ?_
    refine x_block ?_
    refine x_loop (X := Int × (List Bigram)) (fun x => mkS [(1, I scale), (6, .ref 6 0), (10, .ref 10 0), (11, I most), (57, .arr 8452), (58, I (out_1.length : Int)), (59, I x.1)] [(6, .box [I 0, nilA]), (10, .box [I other, .arr 8452]), (8452, tABigram x.2)]) (fun x => (0 ≤ x.1 ∧ x.1 ≤ (out_1.length : Int)) ∧ (cmI x.2 out_1 x.1.toNat) ∧ True) (fun x => ((out_1.length : Int) - x.1).toNat) (0, out_1) rfl (show (0 ≤ (0 : Int) ∧ (0 : Int) ≤ (out_1.length : Int)) ∧ (cmI out_1 out_1 (0 : Int).toNat) ∧ True from ⟨(by omega), (by exact cm_0 _), trivial⟩) (fun x hI => ?_)
    obtain ⟨t59, ys⟩ := x
    obtain ⟨hi0, hcm, _⟩ : (0 ≤ t59 ∧ t59 ≤ (out_1.length : Int)) ∧ (cmI ys out_1 t59.toNat) ∧ True := hI
    show XW _ _ _ _ (mkS [(1, I scale), (6, .ref 6 0), (10, .ref 10 0), (11, I most), (57, .arr 8452), (58, I (out_1.length : Int)), (59, I t59)] [(6, .box [I 0, nilA]), (10, .box [I other, .arr 8452]), (8452, tABigram ys)]) _ _
    refine x_seq ?_
    by_cases h3 : t59 < (out_1.length : Int)
    ·have hi : t59.toNat < out_1.length := by omega
     have hyl := hcm.1
     have hiy : t59.toNat < ys.length := by omega
     have hye := hcm.2.1 t59.toNat (Nat.le_refl _) hi
     have hbc := hok _ (at_mem hi)
     have hmm := hmx _ hi
     rw [← hye] at hbc hmm
     have hmul : scale * (most - (at_ ys t59.toNat).Cost) = 90 * (most - (at_ ys t59.toNat).Cost) := by rw [hsc]
     have hdv : 0 ≤ scale * (most - (at_ ys t59.toNat).Cost) / most ∧ scale * (most - (at_ ys t59.toNat).Cost) / most ≤ 90 := ⟨Int.ediv_nonneg (by omega) (by omega), Int.ediv_le_of_le_mul (by omega) (by omega)⟩
     have hk1 : (t59 + 1).toNat = t59.toNat + 1 := by omega
     refine x_r [(0, .dec true)] [1, 6, 10, 11, 57, 58, 59, 60] [6, 10, 8452] [I scale, .ref 6 0, .ref 10 0, I most, .arr 8452, I (out_1.length : Int), I t59, Bv true] [some (.box [I 0, nilA]), some (.box [I other, .arr 8452]), some (tABigram ys)] [t59 < (out_1.length : Int)] ⟨h3, trivial⟩ ?_
     refine xe_then ?_
     refine x_seq ?_
     refine x_true rfl ?_
     refine x_skip ?_
     refine xe_then ?_
     refine x_seq ?_
     refine x_block ?_
     refine xR [(3, .new 15)] [1, 6, 10, 11, 14, 15, 57, 58, 59] [6, 10, 15, 8452] [I scale, .ref 6 0, .ref 10 0, I most, I t59, .ref 15 0, .arr 8452, I (out_1.length : Int), I t59] [some (.box [I 0, nilA]), some (.box [I other, .arr 8452]), some (bxBigram (at_ ys t59.toNat)), some (tABigram ys)] [(0 : Int) ≤ t59 ∧ t59 < (ys.length : Int), t59.toNat < ys.length] ⟨⟨(by omega), (by omega)⟩, (by omega), trivial⟩ ?_
     refine x_r [(10, .nn)] [1, 6, 10, 11, 57, 58, 59] [6, 10, 8452] [I scale, .ref 6 0, .ref 10 0, I most, .arr 8452, I (out_1.length : Int), I t59] [some (.box [I 0, nilA]), some (.box [I other, .arr 8452]), some (.arr 3 ys.length (fun q => bif Nat.beq q t59.toNat then [Sv ((at_ ys t59.toNat).First), Sv ((at_ ys t59.toNat).Second), I ((scale * (most - ((at_ ys t59.toNat).Cost))) / most)] else (fBigram ys) q))] [inR .i64 (most - ((at_ ys t59.toNat).Cost)), inR .i64 (scale * (most - ((at_ ys t59.toNat).Cost))), (0 : Int) ≤ (scale * (most - ((at_ ys t59.toNat).Cost))) ∧ (0 : Int) < most ∧ inR .i64 (scale * (most - ((at_ ys t59.toNat).Cost))), (0 : Int) ≤ t59 ∧ t59 < (ys.length : Int), t59.toNat < ys.length] ⟨(inR_i64 (by omega) (by omega)), (inR_i64 (by omega) (by omega)), ⟨(by omega), (by omega), (inR_i64 (by omega) (by omega))⟩, ⟨(by omega), (by omega)⟩, (by omega), trivial⟩ ?_
     refine xe_block 5 ?_
     refine xe_then ?_
     refine x_r [] [1, 6, 10, 11, 57, 58, 59] [6, 10, 8452] [I scale, .ref 6 0, .ref 10 0, I most, .arr 8452, I (out_1.length : Int), I (t59 + 1)] [some (.box [I 0, nilA]), some (.box [I other, .arr 8452]), some (.arr 3 ys.length (fun q => bif Nat.beq q t59.toNat then [Sv ((at_ ys t59.toNat).First), Sv ((at_ ys t59.toNat).Second), I ((scale * (most - ((at_ ys t59.toNat).Cost))) / most)] else (fBigram ys) q))] [inR .i64 (t59 + 1)] ⟨(inR_i64 (by omega) (by omega)), trivial⟩ ?_
     refine xe_weak [] (T := [(1, I scale), (6, .ref 6 0), (10, .ref 10 0), (11, I most), (57, .arr 8452), (58, I (out_1.length : Int)), (59, I (t59 + 1))]) (O := [(6, .box [I 0, nilA]), (10, .box [I other, .arr 8452]), (8452, tABigram (ys.set t59.toNat (Bigram.mk ((at_ ys t59.toNat).First) ((at_ ys t59.toNat).Second) ((scale * (most - ((at_ ys t59.toNat).Cost))) / most))))]) rfl (⟨.inl rfl, .inl rfl, .inl rfl, .inl rfl, .inl rfl, .inl rfl, .inl rfl, trivial⟩) (⟨.inl rfl, .inl rfl, .inr ⟨rfl, (by first | rfl | (simp; done) | (simp; omega) | omega), fun i_ hi_ => .inl (upd_enc (enc := cBigram) rfl i_ hi_)⟩, trivial⟩) (xe_again ((t59 + 1), (ys.set t59.toNat (Bigram.mk ((at_ ys t59.toNat).First) ((at_ ys t59.toNat).Second) ((scale * (most - ((at_ ys t59.toNat).Cost))) / most)))) rfl (show (0 ≤ (t59 + 1) ∧ (t59 + 1) ≤ (out_1.length : Int)) ∧ (cmI (ys.set t59.toNat (Bigram.mk ((at_ ys t59.toNat).First) ((at_ ys t59.toNat).Second) ((scale * (most - ((at_ ys t59.toNat).Cost))) / most))) out_1 (t59 + 1).toNat) ∧ True from ⟨(by omega), (by rw [hk1]; exact cm_next hcm hi ⟨by rw [hye]; exact ⟨rfl, rfl⟩, hdv⟩), trivial⟩) (by first | (show (((out_1.length : Int) - (t59 + 1)).toNat : Nat) < ((out_1.length : Int) - t59).toNat; omega) | (dsimp only; omega)))
    have hfin : t59.toNat = out_1.length := by omega
    refine x_r [(0, .dec false)] [1, 6, 10, 11, 57, 58, 59, 60] [6, 10, 8452] [I scale, .ref 6 0, .ref 10 0, I most, .arr 8452, I (out_1.length : Int), I t59, Bv false] [some (.box [I 0, nilA]), some (.box [I other, .arr 8452]), some (tABigram ys)] [¬ (t59 < (out_1.length : Int))] ⟨h3, trivial⟩ ?_
    refine xe_then ?_
    refine x_seq ?_
    refine x_false rfl ?_
    refine x_exit ?_
    refine xe_exit_then ?_
    refine xe_loop_exit ?_
    refine xe_exit_same ?_
    refine xe_then ?_
    refine xR [] [6, 7] [6, 8452] [.ref 6 0, I 0] [some (.box [I other, .arr 8452]), some (tABigram ys)] [] trivial ?_
    refine x_ret ?_
    refine xe_end ((Model.mk other ys), 0) (show (okMod (Model.mk other ys)) ∧ (∀ x_ y_ : ByteArray, 0 ≤ pcM (Model.mk other ys) x_ y_ ∧ pcM (Model.mk other ys) x_ y_ ≤ 90) ∧ (0 = 0) ∧ (True) from ⟨(by exact (cm_end (by rw [← hfin]; exact hcm) (by omega) (by omega) (fun b hb => (hok b hb).1) hpw).1), (by exact (cm_end (by rw [← hfin]; exact hcm) (by omega) (by omega) (fun b hb => (hok b hb).1) hpw).2), (by rfl), trivial⟩) (trivial) (.tup [.agg [I other, .arr 8452], I 0]) (by kernel_rfl) (.inr ⟨⟨rfl, ⟨⟨(fun _ => rfl), rfl, rfl, fun i _ => .inl rfl⟩, rfl⟩⟩, ⟨rfl, rfl⟩⟩) (fun _ => rfl) (fun _ => (by simp [tagged, taggedL, tagBigram]))
  obtain ⟨⟨v, c⟩, ⟨hh0, hh1, hh2, _⟩, hc⟩ := hh
  exact ⟨v, c, hh0, hh1, hh2, hc⟩



-- spec.l18Same
theorem l18Same_ok (a : Model) (b : Model) (hab : a = b) : Con Tryz.prog 71 [.ptr false [I a.Default, slBigram false a.Bigrams], .ptr false [I b.Default, slBigram false b.Bigrams]] true (Bv true) := by
  refine fn_ok (fn := Tryz.f71) (nt := 52) Tryz.func71 rfl rfl rfl rfl (by simp [taggedL, tagged, tagBigram]) fun B hB => ?_
  refine aw_lens (x := .ptr false [I a.Default, slBigram false a.Bigrams]) 0 rfl (fun len_a => ?_)
  simp [LenOK, LenL, cBigram, fBigram, slBigram] at len_a
  refine aw_lens (x := .ptr false [I b.Default, slBigram false b.Bigrams]) 1 rfl (fun len_b => ?_)
  simp [LenOK, LenL, cBigram, fBigram, slBigram] at len_b
  refine aR [] [0, 1] [] [.ptr false [I a.Default, slBigram false a.Bigrams], .ptr false [I b.Default, slBigram false b.Bigrams]] [] [] hB trivial ?_
  refine aw_seq ?_
  refine aR [(8, .dec false), (20, .dec false)] [0, 1, 27] [] [.ptr false [I a.Default, slBigram false a.Bigrams], .ptr false [I b.Default, slBigram false b.Bigrams], Bv false] [] [¬ (a.Default ≠ b.Default), ¬ ((a.Bigrams.length : Int) ≠ (b.Bigrams.length : Int))] hB ⟨(fun hq => hq (by rw [hab])), (fun hq => hq (by rw [hab])), trivial⟩ ?_
  refine aw_false rfl ?_
  refine aw_skip ?_
  refine ae_then ?_
  refine aw_seq ?_
  refine aR [] [0, 1, 5] [] [.ptr false [I a.Default, slBigram false a.Bigrams], .ptr false [I b.Default, slBigram false b.Bigrams], I 0] [] [] hB trivial ?_
  refine aw_block ?_
  refine aw_loop (fun gn gσ => ∃ (i : Int), gn = ((a.Bigrams.length : Int) - i).toNat ∧ (0 ≤ i ∧ i ≤ (a.Bigrams.length : Int)) ∧ gσ = mkS [(0, .ptr false [I a.Default, slBigram false a.Bigrams]), (1, .ptr false [I b.Default, slBigram false b.Bigrams]), (5, I i)] []) (((a.Bigrams.length : Int) - 0).toNat) ⟨0, rfl, (by omega), rfl⟩ (fun gn gσ hI => ?_)
  obtain ⟨i, rfl, hi0, rfl⟩ := hI
  refine aw_seq ?_
  refine aw_seq ?_
  by_cases h1 : i < (a.Bigrams.length : Int)
  ·have hi : i.toNat < a.Bigrams.length := by omega
   have hi2 : i.toNat < b.Bigrams.length := by rw [← hab]; exact hi
   refine aw_r [(6, .dec true)] [0, 1, 5, 34] [] [.ptr false [I a.Default, slBigram false a.Bigrams], .ptr false [I b.Default, slBigram false b.Bigrams], I i, Bv true] [] [i < (a.Bigrams.length : Int)] hB ⟨h1, trivial⟩ ?_
   refine ae_then ?_
   refine aw_true rfl ?_
   refine aw_skip ?_
   refine ae_then ?_
   refine aw_seq ?_
   refine aw_block ?_
   refine aR [(14, .dec false)] [0, 1, 5, 51] [] [.ptr false [I a.Default, slBigram false a.Bigrams], .ptr false [I b.Default, slBigram false b.Bigrams], I i, Bv false] [] [(0 : Int) ≤ i ∧ i < (a.Bigrams.length : Int), (0 : Int) ≤ i ∧ i < (b.Bigrams.length : Int), ¬ (¬ (((at_ a.Bigrams i.toNat).First) = ((at_ b.Bigrams i.toNat).First) ∧ ((at_ a.Bigrams i.toNat).Second) = ((at_ b.Bigrams i.toNat).Second) ∧ ((at_ a.Bigrams i.toNat).Cost) = ((at_ b.Bigrams i.toNat).Cost) ∧ True))] hB ⟨⟨(by omega), (by omega)⟩, ⟨(by omega), (by omega)⟩, (fun hq => hq (by rw [hab]; exact ⟨rfl, rfl, rfl, trivial⟩)), trivial⟩ ?_
   refine aw_false rfl ?_
   refine aw_skip ?_
   refine ae_block 1 ?_
   refine ae_then ?_
   refine aw_r [] [0, 1, 5] [] [.ptr false [I a.Default, slBigram false a.Bigrams], .ptr false [I b.Default, slBigram false b.Bigrams], I (i + 1)] [] [inR .i64 (i + 1)] hB ⟨(inR_i64 (by omega) (by omega)), trivial⟩ ?_
   exact ae_again _ (by omega) ⟨(i + 1), rfl, (by omega), rfl⟩
  refine aw_r [(6, .dec false)] [0, 1, 5, 34] [] [.ptr false [I a.Default, slBigram false a.Bigrams], .ptr false [I b.Default, slBigram false b.Bigrams], I i, Bv false] [] [¬ (i < (a.Bigrams.length : Int))] hB ⟨h1, trivial⟩ ?_
  refine ae_then ?_
  refine aw_false rfl ?_
  refine aw_exit ?_
  refine ae_exit_then ?_
  refine ae_exit_then ?_
  refine ae_exit_same ?_
  refine ae_then ?_
  refine aR [] [4] [] [Bv true] [] [] hB trivial ?_
  refine aw_ret ?_
  refine ae_ret hB (Bv true) (by kernel_rfl) (.inl rfl) rfl (fun _ => trivial)



-- spec.SameModel
theorem specSameModel_ok (a : Model) (b : Model) (hab : a = b) : Con Tryz.prog 25 [agModel a, agModel b] true (Bv true) := by
  refine fn_ok (fn := Tryz.f25) (nt := 6) Tryz.func25 rfl rfl rfl rfl (by simp [taggedL, tagged, tagBigram]) fun B hB => ?_
  refine aw_lens (x := agModel a) 0 rfl (fun len_a => ?_)
  simp [LenOK, LenL, cBigram, fBigram, slBigram] at len_a
  refine aw_lens (x := agModel b) 1 rfl (fun len_b => ?_)
  simp [LenOK, LenL, cBigram, fBigram, slBigram] at len_b
  refine aR [(0, .new 2), (1, .new 3)] [2, 3] [2, 3] [.ref 2 0, .ref 3 0] [some (bxModel a), some (bxModel b)] [] hB trivial ?_
  refine aR [(0, .call [(false, .ptr false [I a.Default, slBigram false a.Bigrams]), (false, .ptr false [I b.Default, slBigram false b.Bigrams])] true (Bv true))] [4] [] [Bv true] [] [Con Tryz.prog 71 [.ptr false [I a.Default, slBigram false a.Bigrams], .ptr false [I b.Default, slBigram false b.Bigrams]] true (Bv true) ∧ ((false = true → true = true) ∧ AV.idsL [I a.Default, slBigram false a.Bigrams] = [] ∧ (valOf (I a.Default) = valOf (I a.Default)) ∧ ((false = true → false = true) ∧ 3 = 3 ∧ a.Bigrams.length = a.Bigrams.length ∧ ∀ i_, i_ < a.Bigrams.length → (fBigram a.Bigrams) i_ = (fBigram a.Bigrams) i_ ∨ (AV.idsL ((fBigram a.Bigrams) i_) = [] ∧ leL (fun _ => none) false ((fBigram a.Bigrams) i_) ((fBigram a.Bigrams) i_))) ∧ ([] : List AV) = []) ∧ ((false = true → true = true) ∧ AV.idsL [I b.Default, slBigram false b.Bigrams] = [] ∧ (valOf (I b.Default) = valOf (I b.Default)) ∧ ((false = true → false = true) ∧ 3 = 3 ∧ b.Bigrams.length = b.Bigrams.length ∧ ∀ i_, i_ < b.Bigrams.length → (fBigram b.Bigrams) i_ = (fBigram b.Bigrams) i_ ∨ (AV.idsL ((fBigram b.Bigrams) i_) = [] ∧ leL (fun _ => none) false ((fBigram b.Bigrams) i_) ((fBigram b.Bigrams) i_))) ∧ ([] : List AV) = []) ∧ True] hB ⟨⟨(l18Same_ok a b hab), ⟨(fun h => by cases h), rfl, ⟨rfl, ⟨⟨(fun h => by cases h), rfl, rfl, fun i _ => .inl rfl⟩, rfl⟩⟩⟩, ⟨(fun h => by cases h), rfl, ⟨rfl, ⟨⟨(fun h => by cases h), rfl, rfl, fun i _ => .inl rfl⟩, rfl⟩⟩⟩, trivial⟩, trivial⟩ ?_
  refine aw_ret ?_
  refine ae_ret hB (Bv true) (by kernel_rfl) (.inl rfl) rfl (fun _ => trivial)



-- spec.IsWord
theorem specIsWord_ok (s : ByteArray) (hs : okWord s = true) : Con Tryz.prog 147 [Sv s] true (Bv true) := by
  have hw := okWord_iff.1 hs
  have hz := hw.1
  refine fn_ok (fn := Tryz.f147) (nt := 18) Tryz.func147 rfl rfl rfl rfl (by simp [taggedL, tagged]) fun B hB => ?_
  refine aR [] [0] [] [Sv s] [] [] hB trivial ?_
  refine aw_seq ?_
  refine aR [] [0, 3] [] [Sv s, I 0] [] [] hB trivial ?_
  refine aw_block ?_
  refine aw_loop (fun gn gσ => ∃ (i : Int), gn = ((s.size : Int) - i).toNat ∧ (0 ≤ i ∧ i ≤ (s.size : Int)) ∧ gσ = mkS [(0, Sv s), (3, I i)] []) (((s.size : Int) - 0).toNat) ⟨0, rfl, (by omega), rfl⟩ (fun gn gσ hI => ?_)
  obtain ⟨i, rfl, hi0, rfl⟩ := hI
  refine aw_seq ?_
  refine aw_seq ?_
  by_cases h1 : i < (s.size : Int)
  ·have hi : i.toNat < s.size := by omega
   have hlt := hw.2 _ hi
   refine aw_r [(3, .dec true)] [0, 3, 7] [] [Sv s, I i, Bv true] [] [i < (s.size : Int)] hB ⟨h1, trivial⟩ ?_
   refine ae_then ?_
   refine aw_true rfl ?_
   refine aw_skip ?_
   refine ae_then ?_
   refine aw_seq ?_
   refine aw_block ?_
   refine aR [(3, .call [(true, .any)] true (Bv true))] [0, 3, 14] [] [Sv s, I i, Bv false] [] [(0 : Int) ≤ i ∧ i < (s.size : Int), Con Tryz.prog 125 [.val (.int .u8 (bAt s i.toNat))] true (Bv true) ∧ True] hB ⟨⟨(by omega), (by omega)⟩, ⟨(con_bool hlt (l01Small_ok (bAt s i.toNat))), trivial⟩, trivial⟩ ?_
   refine aw_false rfl ?_
   refine aw_skip ?_
   refine ae_block 1 ?_
   refine ae_then ?_
   refine aw_r [] [0, 3] [] [Sv s, I (i + 1)] [] [inR .i64 (i + 1)] hB ⟨(inR_i64 (by omega) (by omega)), trivial⟩ ?_
   exact ae_again _ (by omega) ⟨(i + 1), rfl, (by omega), rfl⟩
  refine aw_r [(3, .dec false)] [0, 3, 7] [] [Sv s, I i, Bv false] [] [¬ (i < (s.size : Int))] hB ⟨h1, trivial⟩ ?_
  refine ae_then ?_
  refine aw_false rfl ?_
  refine aw_exit ?_
  refine ae_exit_then ?_
  refine ae_exit_then ?_
  refine ae_exit_same ?_
  refine ae_then ?_
  refine aR [(2, .call [(true, .any), (true, .any), (true, .any)] true (Bv (inB (s.size : Int) 1 10)))] [2] [] [Bv (inB (s.size : Int) 1 10)] [] [Con Tryz.prog 90 [I (s.size : Int), I 1, I 10] true (Bv (inB (s.size : Int) 1 10)) ∧ True] hB ⟨⟨(l00In_ok (s.size : Int) 1 10), trivial⟩, trivial⟩ ?_
  refine aw_ret ?_
  refine ae_ret hB (Bv (inB (s.size : Int) 1 10)) (by kernel_rfl) (.inl (by first | rfl | (refine congrArg Bv ?_; exact inB_iff.2 (by omega)) | (refine congrArg Bv ?_; simp [inB]; omega))) rfl (fun _ => trivial)



-- spec.l18First
theorem l18First_ok (s : ByteArray) (hs : s = ⟨#[]⟩ ∨ okWord s = true) : Con Tryz.prog 146 [Sv s] true (Bv true) := by
  refine fn_ok (fn := Tryz.f146) (nt := 9) Tryz.func146 rfl rfl rfl rfl (by simp [taggedL, tagged]) fun B hB => ?_
  refine aR [] [0] [] [Sv s] [] [] hB trivial ?_
  refine aw_seq ?_
  by_cases h1 : s = (⟨#[]⟩ : ByteArray)
  ·refine aw_r [(1, .dec true)] [2] [] [Bv true] [] [s = (⟨#[]⟩ : ByteArray)] hB ⟨h1, trivial⟩ ?_
   refine ae_then ?_
   refine aw_ret ?_
   refine ae_ret hB (Bv true) (by kernel_rfl) (.inl rfl) rfl (fun _ => trivial)
  refine aw_r [(1, .dec false), (4, .call [(true, .any)] true (Bv true))] [2] [] [Bv true] [] [¬ (s = (⟨#[]⟩ : ByteArray)), Con Tryz.prog 147 [Sv s] true (Bv true) ∧ True] hB ⟨h1, ⟨(specIsWord_ok s (hs.resolve_left (by assumption))), trivial⟩, trivial⟩ ?_
  refine ae_then ?_
  refine aw_ret ?_
  refine ae_ret hB (Bv true) (by kernel_rfl) (.inl rfl) rfl (fun _ => trivial)



-- spec.l18Bigram
theorem l18Bigram_ok (b : Bigram) (hb : okBig b) : Con Tryz.prog 119 [.ptr false [Sv b.First, Sv b.Second, I b.Cost]] true (Bv true) := by
  have hc := hb.2.2
  refine fn_ok (fn := Tryz.f119) (nt := 22) Tryz.func119 rfl rfl rfl rfl (by simp [taggedL, tagged]) fun B hB => ?_
  refine aR [] [0] [] [.ptr false [Sv b.First, Sv b.Second, I b.Cost]] [] [] hB trivial ?_
  refine aR [(4, .call [(true, .any)] true (Bv true)), (10, .call [(true, .any)] true (Bv true)), (17, .call [(true, .any), (true, .any), (true, .any)] true (Bv (inB b.Cost 0 1000000)))] [2] [] [Bv (inB b.Cost 0 1000000)] [] [Con Tryz.prog 146 [Sv b.First] true (Bv true) ∧ True, Con Tryz.prog 147 [Sv b.Second] true (Bv true) ∧ True, Con Tryz.prog 90 [I b.Cost, I 0, I 1000000] true (Bv (inB b.Cost 0 1000000)) ∧ True] hB ⟨⟨(l18First_ok b.First hb.2.1), trivial⟩, ⟨(specIsWord_ok b.Second hb.1), trivial⟩, ⟨(l00In_ok b.Cost 0 1000000), trivial⟩, trivial⟩ ?_
  refine aw_ret ?_
  refine ae_ret hB (Bv (inB b.Cost 0 1000000)) (by kernel_rfl) (.inl (by first | rfl | (refine congrArg Bv ?_; exact inB_iff.2 hc) | (refine congrArg Bv ?_; simp [inB]; omega))) rfl (fun _ => trivial)



-- spec.l18Ok
theorem l18Ok_ok (m : Model) (hm : okMod m) : Con Tryz.prog 72 [.ptr false [I m.Default, slBigram false m.Bigrams]] true (Bv true) := by
  have hc := hm.2.1
  refine fn_ok (fn := Tryz.f72) (nt := 55) Tryz.func72 rfl rfl rfl rfl (by simp [taggedL, tagged, tagBigram]) fun B hB => ?_
  refine aw_lens (x := .ptr false [I m.Default, slBigram false m.Bigrams]) 0 rfl (fun len_m => ?_)
  simp [LenOK, LenL, cBigram, fBigram, slBigram] at len_m
  refine aR [] [0] [] [.ptr false [I m.Default, slBigram false m.Bigrams]] [] [] hB trivial ?_
  refine aw_seq ?_
  refine aR [] [0, 3] [] [.ptr false [I m.Default, slBigram false m.Bigrams], I 0] [] [] hB trivial ?_
  refine aw_block ?_
  refine aw_loop (fun gn gσ => ∃ (i : Int), gn = ((m.Bigrams.length : Int) - i).toNat ∧ (0 ≤ i ∧ i ≤ (m.Bigrams.length : Int)) ∧ gσ = mkS [(0, .ptr false [I m.Default, slBigram false m.Bigrams]), (3, I i)] []) (((m.Bigrams.length : Int) - 0).toNat) ⟨0, rfl, (by omega), rfl⟩ (fun gn gσ hI => ?_)
  obtain ⟨i, rfl, hi0, rfl⟩ := hI
  refine aw_seq ?_
  refine aw_seq ?_
  by_cases h1 : i < (m.Bigrams.length : Int)
  ·have hi : i.toNat < m.Bigrams.length := by omega
   have hen := hm.2.2.1 _ (at_mem hi)
   refine aw_r [(6, .dec true)] [0, 3, 10] [] [.ptr false [I m.Default, slBigram false m.Bigrams], I i, Bv true] [] [i < (m.Bigrams.length : Int)] hB ⟨h1, trivial⟩ ?_
   refine ae_then ?_
   refine aw_true rfl ?_
   refine aw_skip ?_
   refine ae_then ?_
   refine aw_seq ?_
   refine aw_block ?_
   refine aw_seq ?_
   by_cases h2 : 0 < i
   ·have hpr := pw_get hm.2.2.2 (show (i - 1).toNat < i.toNat by omega) hi
    refine aw_r [(6, .call [(true, .any)] true (Bv true)), (10, .dec true), (25, .call [(true, .any), (true, .any)] true (Bv true))] [0, 3, 41] [] [.ptr false [I m.Default, slBigram false m.Bigrams], I i, Bv false] [] [(0 : Int) ≤ i ∧ i < (m.Bigrams.length : Int), Con Tryz.prog 119 [.ptr false [Sv ((at_ m.Bigrams i.toNat).First), Sv ((at_ m.Bigrams i.toNat).Second), I ((at_ m.Bigrams i.toNat).Cost)]] true (Bv true) ∧ True, 0 < i, inR .i64 (i - 1), (0 : Int) ≤ (i - 1) ∧ (i - 1) < (m.Bigrams.length : Int), (0 : Int) ≤ i ∧ i < (m.Bigrams.length : Int), Con Tryz.prog 120 [.ptr false [Sv ((at_ m.Bigrams ((i - 1).toNat)).First), Sv ((at_ m.Bigrams ((i - 1).toNat)).Second), I ((at_ m.Bigrams ((i - 1).toNat)).Cost)], .ptr false [Sv ((at_ m.Bigrams i.toNat).First), Sv ((at_ m.Bigrams i.toNat).Second), I ((at_ m.Bigrams i.toNat).Cost)]] true (Bv true) ∧ True] hB ⟨⟨(by omega), (by omega)⟩, ⟨(l18Bigram_ok (at_ m.Bigrams i.toNat) hen), trivial⟩, h2, (inR_i64 (by omega) (by omega)), ⟨(by omega), (by omega)⟩, ⟨(by omega), (by omega)⟩, ⟨(con_bool (decide_eq_true hpr) (l18Before_ok (at_ m.Bigrams ((i - 1).toNat)) (at_ m.Bigrams i.toNat))), trivial⟩, trivial⟩ ?_
    refine ae_then ?_
    refine aw_false rfl ?_
    refine aw_skip ?_
    refine ae_block 1 ?_
    refine ae_then ?_
    refine aw_r [] [0, 3] [] [.ptr false [I m.Default, slBigram false m.Bigrams], I (i + 1)] [] [inR .i64 (i + 1)] hB ⟨(inR_i64 (by omega) (by omega)), trivial⟩ ?_
    exact ae_again _ (by omega) ⟨(i + 1), rfl, (by omega), rfl⟩
   refine aw_r [(6, .call [(true, .any)] true (Bv true)), (10, .dec false)] [0, 3, 41] [] [.ptr false [I m.Default, slBigram false m.Bigrams], I i, Bv false] [] [(0 : Int) ≤ i ∧ i < (m.Bigrams.length : Int), Con Tryz.prog 119 [.ptr false [Sv ((at_ m.Bigrams i.toNat).First), Sv ((at_ m.Bigrams i.toNat).Second), I ((at_ m.Bigrams i.toNat).Cost)]] true (Bv true) ∧ True, ¬ (0 < i)] hB ⟨⟨(by omega), (by omega)⟩, ⟨(l18Bigram_ok (at_ m.Bigrams i.toNat) hen), trivial⟩, h2, trivial⟩ ?_
   refine ae_then ?_
   refine aw_false rfl ?_
   refine aw_skip ?_
   refine ae_block 1 ?_
   refine ae_then ?_
   refine aw_r [] [0, 3] [] [.ptr false [I m.Default, slBigram false m.Bigrams], I (i + 1)] [] [inR .i64 (i + 1)] hB ⟨(inR_i64 (by omega) (by omega)), trivial⟩ ?_
   exact ae_again _ (by omega) ⟨(i + 1), rfl, (by omega), rfl⟩
  refine aw_r [(6, .dec false)] [0, 3, 10] [] [.ptr false [I m.Default, slBigram false m.Bigrams], I i, Bv false] [] [¬ (i < (m.Bigrams.length : Int))] hB ⟨h1, trivial⟩ ?_
  refine ae_then ?_
  refine aw_false rfl ?_
  refine aw_exit ?_
  refine ae_exit_then ?_
  refine ae_exit_then ?_
  refine ae_exit_same ?_
  refine ae_then ?_
  refine aR [(4, .call [(true, .any), (true, .any), (true, .any)] true (Bv true)), (11, .dec true)] [2] [] [Bv true] [] [Con Tryz.prog 90 [I m.Default, I 0, I 1000000] true (Bv true) ∧ True, (m.Bigrams.length : Int) ≤ 60] hB ⟨⟨(con_bool (inB_iff.2 hm.1) (l00In_ok m.Default 0 1000000)), trivial⟩, (by omega), trivial⟩ ?_
  refine aw_ret ?_
  refine ae_ret hB (Bv true) (by kernel_rfl) (.inl rfl) rfl (fun _ => trivial)



-- spec.ValidModel
theorem specValidModel_ok (m : Model) (hm : okMod m) : Con Tryz.prog 26 [agModel m] true (Bv true) := by
  refine fn_ok (fn := Tryz.f26) (nt := 4) Tryz.func26 rfl rfl rfl rfl (by simp [taggedL, tagged, tagBigram]) fun B hB => ?_
  refine aw_lens (x := agModel m) 0 rfl (fun len_m => ?_)
  simp [LenOK, LenL, cBigram, fBigram, slBigram] at len_m
  refine aR [(0, .new 1)] [1] [1] [.ref 1 0] [some (bxModel m)] [] hB trivial ?_
  refine aR [(0, .call [(false, .ptr false [I m.Default, slBigram false m.Bigrams])] true (Bv true))] [2] [] [Bv true] [] [Con Tryz.prog 72 [.ptr false [I m.Default, slBigram false m.Bigrams]] true (Bv true) ∧ ((false = true → true = true) ∧ AV.idsL [I m.Default, slBigram false m.Bigrams] = [] ∧ (valOf (I m.Default) = valOf (I m.Default)) ∧ ((false = true → false = true) ∧ 3 = 3 ∧ m.Bigrams.length = m.Bigrams.length ∧ ∀ i_, i_ < m.Bigrams.length → (fBigram m.Bigrams) i_ = (fBigram m.Bigrams) i_ ∨ (AV.idsL ((fBigram m.Bigrams) i_) = [] ∧ leL (fun _ => none) false ((fBigram m.Bigrams) i_) ((fBigram m.Bigrams) i_))) ∧ ([] : List AV) = []) ∧ True] hB ⟨⟨(l18Ok_ok m hm), ⟨(fun h => by cases h), rfl, ⟨rfl, ⟨⟨(fun h => by cases h), rfl, rfl, fun i _ => .inl rfl⟩, rfl⟩⟩⟩, trivial⟩, trivial⟩ ?_
  refine aw_ret ?_
  refine ae_ret hB (Bv true) (by kernel_rfl) (.inl rfl) rfl (fun _ => trivial)



theorem wc_le {m : Model} {B : Int} (h : ∀ a b : ByteArray, 0 ≤ pcM m a b ∧ pcM m a b ≤ B) : ∀ (ws : List ByteArray) (l : ByteArray), 0 ≤ wcM m l ws ∧ wcM m l ws ≤ B * (ws.length : Int)
  | [], l => by simp [wcM]
  | w :: r, l => by
    have h1 := h l w
    have h2 := wc_le h r w
    have e : B * (((w :: r).length : Nat) : Int) = B * (r.length : Int) + B := by rw [List.length_cons, Int.natCast_add, Int.mul_add]; simp
    unfold wcM
    omega


-- laws.FnModels
theorem fnModels_con (code : List Int) (more : List Int) (ok_code : ∀ y ∈ code, inR .u8 y) (ok_more : ∀ y ∈ more, inR .u8 y) : Con Tryz.prog 4 [slU8 false code, slU8 false more] true (Bv true) := by
  refine fn_ok (fn := Tryz.f4) (nt := 187) Tryz.func4 rfl rfl rfl rfl (by simp [taggedL, tagged, tagU8]) fun B hB => ?_
  refine aw_lens (x := slU8 false code) 0 rfl (fun len_code => ?_)
  simp [LenOK, LenL, cU8, fU8, slU8] at len_code
  refine aw_lens (x := slU8 false more) 1 rfl (fun len_more => ?_)
  simp [LenOK, LenL, cU8, fU8, slU8] at len_more
  refine aR [] [0, 1] [] [slU8 false code, slU8 false more] [] [] hB trivial ?_
  refine aw_seq ?_
  refine aw_seq ?_
  rcases Bool.eq_false_or_eq_true (decide (3000 < (code.length : Int) ∨ 3000 < (more.length : Int))) with h1 | h1
  ·refine aw_r [(2, .call [(true, .any), (true, .any)] true (Bv true))] [0, 1, 31] [] [slU8 false code, slU8 false more, Bv true] [] [Con Tryz.prog 5 [slU8 false code, slU8 false more] true (Bv true) ∧ True] hB ⟨⟨(con_bool h1 (a2Long_ok code more)), trivial⟩, trivial⟩ ?_
   refine ae_then ?_
   refine aw_true rfl ?_
   refine aR [] [4] [] [Bv true] [] [] hB trivial ?_
   refine aw_ret ?_
   refine ae_ret_then ?_
   refine ae_ret hB (Bv true) (by kernel_rfl) (.inl rfl) rfl (fun _ => trivial)
  have hc : (∀ j, j < code.length → 0 ≤ at_ code j ∧ at_ code j ≤ 255) ∧ code.length ≤ 4611686018427387904 := ⟨fun j hj => ok_code _ (at_mem hj), by first | omega | (simp at h1; omega)⟩
  have hmore : (∀ j, j < more.length → 0 ≤ at_ more j ∧ at_ more j ≤ 255) ∧ more.length ≤ 4611686018427387904 := ⟨fun j hj => ok_more _ (at_mem hj), by first | omega | (simp at h1; omega)⟩
  refine aw_r [(2, .call [(true, .any), (true, .any)] true (Bv false))] [0, 1, 31] [] [slU8 false code, slU8 false more, Bv false] [] [Con Tryz.prog 5 [slU8 false code, slU8 false more] true (Bv false) ∧ True] hB ⟨⟨(con_bool h1 (a2Long_ok code more)), trivial⟩, trivial⟩ ?_
  refine ae_then ?_
  refine aw_false rfl ?_
  refine aw_skip ?_
  refine ae_then ?_
  refine aw_seq ?_
  obtain ⟨list_1, x_1, m_1, words_1, hx1_0, hx1_1, hx1_2, hx1_3, hx1_4, hx1_5, hc1⟩ := A2Sentence_ok code (by assumption)
  have hmd := hx1_2
  have hwl := hx1_3
  have hww := hx1_4
  have hm6 := hx1_5
  refine aw_r [(1, .call [(true, .any)] true (.tup [slLattice true list_1, .agg [slEntry true x_1.Entries], agModelT m_1, slS true words_1])), (7, .new 6), (8, .new 7)] [1, 7, 8] [7] [slU8 false more, .ref 7 0, slS true words_1] [some (bxModelT m_1)] [Con Tryz.prog 17 [slU8 false code] true (.tup [slLattice true list_1, .agg [slEntry true x_1.Entries], agModelT m_1, slS true words_1]) ∧ True] hB ⟨⟨hc1, trivial⟩, trivial⟩ ?_
  refine ae_then ?_
  refine aw_seq ?_
  obtain ⟨v_2, hx2_0, hc2⟩ := A2Word_ok more (by assumption)
  have hwd := hx2_0
  have hbg : okBig ⟨v_2, v_2, 13⟩ := ⟨hwd, .inr hwd, (by decide : (0 : Int) ≤ 13 ∧ (13 : Int) ≤ 1000000)⟩
  refine aw_r [(1, .call [(true, .any)] true (Sv v_2))] [7, 8, 9] [7] [.ref 7 0, slS true words_1, Sv v_2] [some (bxModelT m_1)] [Con Tryz.prog 18 [slU8 false more] true (Sv v_2) ∧ True] hB ⟨⟨hc2, trivial⟩, trivial⟩ ?_
  refine ae_then ?_
  refine aw_seq ?_
  obtain ⟨v_3, c_3, hx3_0, hx3_1, hx3_2, hc3⟩ := SetBigram_ok m_1 (Bigram.mk v_2 v_2 13) hmd hbg (by omega)
  have hn1 := hx3_0
  have hn2 : ∀ x_ y_ : ByteArray, pcM v_3 x_ y_ = if x_ = v_2 ∧ y_ = v_2 then 13 else pcM m_1 x_ y_ := hx3_1
  have hone : c_3 = 0 := hx3_2
  refine aw_r [(4, .call [(false, agModel m_1), (true, .any)] true (.tup [agModelT v_3, I c_3])), (8, .new 10)] [7, 8, 9, 10, 11] [7, 10] [.ref 7 0, slS true words_1, Sv v_2, .ref 10 0, I c_3] [some (bxModelT m_1), some (bxModelT v_3)] [Con Tryz.prog 19 [agModel m_1, .agg [Sv v_2, Sv v_2, I 13]] true (.tup [agModelT v_3, I c_3]) ∧ ((valOf (I m_1.Default) = valOf (I m_1.Default)) ∧ ((false = true → true = true) ∧ 3 = 3 ∧ m_1.Bigrams.length = m_1.Bigrams.length ∧ ∀ i_, i_ < m_1.Bigrams.length → (fBigram m_1.Bigrams) i_ = (fBigram m_1.Bigrams) i_ ∨ (AV.idsL ((fBigram m_1.Bigrams) i_) = [] ∧ leL (fun _ => none) false ((fBigram m_1.Bigrams) i_) ((fBigram m_1.Bigrams) i_))) ∧ ([] : List AV) = []) ∧ True] hB ⟨⟨hc3, ⟨rfl, ⟨⟨(fun h => by cases h), rfl, rfl, fun i _ => .inl rfl⟩, rfl⟩⟩, trivial⟩, trivial⟩ ?_
  refine ae_then ?_
  refine aw_seq ?_
  obtain ⟨v_4, c_4, hx4_0, hx4_1, hc4⟩ := PairCost_ok v_3 v_2 v_2 hn1 (.inr hwd) hwd
  have hpv1 := hx4_0
  have hpc1 := hx4_1
  have hpb1 : 0 ≤ v_4 ∧ v_4 ≤ 1000000 := by rw [hpv1]; exact pc_bd hn1 _ _
  refine aw_r [(3, .call [(false, agModel v_3), (true, .any), (true, .any)] true (.tup [I v_4, I c_4]))] [7, 8, 9, 10, 11, 12, 13] [7, 10] [.ref 7 0, slS true words_1, Sv v_2, .ref 10 0, I c_3, I v_4, I c_4] [some (bxModelT m_1), some (bxModelT v_3)] [Con Tryz.prog 20 [agModel v_3, Sv v_2, Sv v_2] true (.tup [I v_4, I c_4]) ∧ ((valOf (I v_3.Default) = valOf (I v_3.Default)) ∧ ((false = true → true = true) ∧ 3 = 3 ∧ v_3.Bigrams.length = v_3.Bigrams.length ∧ ∀ i_, i_ < v_3.Bigrams.length → (fBigram v_3.Bigrams) i_ = (fBigram v_3.Bigrams) i_ ∨ (AV.idsL ((fBigram v_3.Bigrams) i_) = [] ∧ leL (fun _ => none) false ((fBigram v_3.Bigrams) i_) ((fBigram v_3.Bigrams) i_))) ∧ ([] : List AV) = []) ∧ True] hB ⟨⟨hc4, ⟨rfl, ⟨⟨(fun h => by cases h), rfl, rfl, fun i _ => .inl rfl⟩, rfl⟩⟩, trivial⟩, trivial⟩ ?_
  refine ae_then ?_
  refine aw_seq ?_
  refine aR [(1, .dec false), (4, .dec false), (8, .dec false)] [7, 8, 9, 10, 65] [7, 10] [.ref 7 0, slS true words_1, Sv v_2, .ref 10 0, Bv false] [some (bxModelT m_1), some (bxModelT v_3)] [¬ (c_3 ≠ 0), ¬ (c_4 ≠ 0), ¬ (v_4 ≠ 13)] hB ⟨(fun hq => hq hone), (fun hq => hq hpc1), (fun hq => hq (by rw [hpv1, hn2, if_pos ⟨rfl, rfl⟩])), trivial⟩ ?_
  refine aw_false rfl ?_
  refine aw_skip ?_
  refine ae_then ?_
  refine aR [] [7, 8, 9, 10, 14] [7, 10] [.ref 7 0, slS true words_1, Sv v_2, .ref 10 0, Sv (⟨#[]⟩ : ByteArray)] [some (bxModelT m_1), some (bxModelT v_3)] [] hB trivial ?_
  refine aR [] [7, 8, 9, 10, 14, 15] [7, 10] [.ref 7 0, slS true words_1, Sv v_2, .ref 10 0, Sv (⟨#[]⟩ : ByteArray), I 0] [some (bxModelT m_1), some (bxModelT v_3)] [] hB trivial ?_
  refine aw_seq ?_
  refine aR [] [7, 8, 9, 10, 14, 15, 16] [7, 10] [.ref 7 0, slS true words_1, Sv v_2, .ref 10 0, Sv (⟨#[]⟩ : ByteArray), I 0, I 0] [some (bxModelT m_1), some (bxModelT v_3)] [] hB trivial ?_
  refine aw_block ?_
  refine aw_loop (fun gn gσ => ∃ (last : ByteArray) (sum : Int) (i : Int), gn = ((words_1.length : Int) - i).toNat ∧ (0 ≤ i ∧ i ≤ (words_1.length : Int)) ∧ (sum = wcK m_1 ⟨#[]⟩ words_1 i.toNat) ∧ (last = lastW ⟨#[]⟩ words_1 i.toNat) ∧ (last = ⟨#[]⟩ ∨ okWord last = true) ∧ (0 ≤ sum ∧ sum ≤ 1000000 * i) ∧ gσ = mkS [(7, .ref 7 0), (8, slS true words_1), (9, Sv v_2), (10, .ref 10 0), (14, Sv last), (15, I sum), (16, I i)] [(7, bxModelT m_1), (10, bxModelT v_3)]) (((words_1.length : Int) - 0).toNat) ⟨(⟨#[]⟩ : ByteArray), 0, 0, rfl, (by omega), (by rfl), (by rfl), (by exact .inl rfl), (by omega), rfl⟩ (fun gn gσ hI => ?_)
  obtain ⟨last, sum, i, rfl, hi0, hsm, hlw, hla, hsb, rfl⟩ := hI
  refine aw_seq ?_
  refine aw_seq ?_
  by_cases h2 : i < (words_1.length : Int)
  ·have hi : i.toNat < words_1.length := by omega
   have hwi := hww _ (at_mem hi)
   refine aw_r [(3, .dec true)] [7, 8, 9, 10, 14, 15, 16, 69] [7, 10] [.ref 7 0, slS true words_1, Sv v_2, .ref 10 0, Sv last, I sum, I i, Bv true] [some (bxModelT m_1), some (bxModelT v_3)] [i < (words_1.length : Int)] hB ⟨h2, trivial⟩ ?_
   refine ae_then ?_
   refine aw_true rfl ?_
   refine aw_skip ?_
   refine ae_then ?_
   refine aw_seq ?_
   refine aw_block ?_
   refine aw_seq ?_
   obtain ⟨v_5, c_5, hx5_0, hx5_1, hc5⟩ := PairCost_ok m_1 last (at_ words_1 i.toNat) hmd hla hwi
   have hpv2 := hx5_0
   have hpc2 := hx5_1
   have hpb2 : 0 ≤ v_5 ∧ v_5 ≤ 1000000 := by rw [hpv2]; exact pc_bd hmd _ _
   refine aw_r [(6, .call [(false, agModel m_1), (true, .any), (true, .any)] true (.tup [I v_5, I c_5]))] [7, 8, 9, 10, 14, 15, 16, 17, 18] [7, 10] [.ref 7 0, slS true words_1, Sv v_2, .ref 10 0, Sv last, I sum, I i, I v_5, I c_5] [some (bxModelT m_1), some (bxModelT v_3)] [(0 : Int) ≤ i ∧ i < (words_1.length : Int), Con Tryz.prog 20 [agModel m_1, Sv last, Sv (at_ words_1 i.toNat)] true (.tup [I v_5, I c_5]) ∧ ((valOf (I m_1.Default) = valOf (I m_1.Default)) ∧ ((false = true → true = true) ∧ 3 = 3 ∧ m_1.Bigrams.length = m_1.Bigrams.length ∧ ∀ i_, i_ < m_1.Bigrams.length → (fBigram m_1.Bigrams) i_ = (fBigram m_1.Bigrams) i_ ∨ (AV.idsL ((fBigram m_1.Bigrams) i_) = [] ∧ leL (fun _ => none) false ((fBigram m_1.Bigrams) i_) ((fBigram m_1.Bigrams) i_))) ∧ ([] : List AV) = []) ∧ True] hB ⟨⟨(by omega), (by omega)⟩, ⟨hc5, ⟨rfl, ⟨⟨(fun h => by cases h), rfl, rfl, fun i _ => .inl rfl⟩, rfl⟩⟩, trivial⟩, trivial⟩ ?_
   refine ae_then ?_
   refine aw_seq ?_
   obtain ⟨v_6, c_6, hx6_0, hx6_1, hc6⟩ := PairCost_ok v_3 last (at_ words_1 i.toNat) hn1 hla hwi
   have hpv3 := hx6_0
   have hpc3 := hx6_1
   have hpb3 : 0 ≤ v_6 ∧ v_6 ≤ 1000000 := by rw [hpv3]; exact pc_bd hn1 _ _
   refine aw_r [(6, .call [(false, agModel v_3), (true, .any), (true, .any)] true (.tup [I v_6, I c_6]))] [7, 8, 9, 10, 14, 15, 16, 17, 18, 19, 20] [7, 10] [.ref 7 0, slS true words_1, Sv v_2, .ref 10 0, Sv last, I sum, I i, I v_5, I c_5, I v_6, I c_6] [some (bxModelT m_1), some (bxModelT v_3)] [(0 : Int) ≤ i ∧ i < (words_1.length : Int), Con Tryz.prog 20 [agModel v_3, Sv last, Sv (at_ words_1 i.toNat)] true (.tup [I v_6, I c_6]) ∧ ((valOf (I v_3.Default) = valOf (I v_3.Default)) ∧ ((false = true → true = true) ∧ 3 = 3 ∧ v_3.Bigrams.length = v_3.Bigrams.length ∧ ∀ i_, i_ < v_3.Bigrams.length → (fBigram v_3.Bigrams) i_ = (fBigram v_3.Bigrams) i_ ∨ (AV.idsL ((fBigram v_3.Bigrams) i_) = [] ∧ leL (fun _ => none) false ((fBigram v_3.Bigrams) i_) ((fBigram v_3.Bigrams) i_))) ∧ ([] : List AV) = []) ∧ True] hB ⟨⟨(by omega), (by omega)⟩, ⟨hc6, ⟨rfl, ⟨⟨(fun h => by cases h), rfl, rfl, fun i _ => .inl rfl⟩, rfl⟩⟩, trivial⟩, trivial⟩ ?_
   refine ae_then ?_
   refine aw_seq ?_
   refine aw_seq ?_
   by_cases h3 : v_5 = v_6
   ·refine aw_r [(1, .dec false), (4, .dec false), (9, .dec false)] [7, 8, 9, 10, 15, 16, 17, 115] [7, 10] [.ref 7 0, slS true words_1, Sv v_2, .ref 10 0, I sum, I i, I v_5, Bv false] [some (bxModelT m_1), some (bxModelT v_3)] [¬ (c_5 ≠ 0), ¬ (c_6 ≠ 0), ¬ (v_5 ≠ v_6)] hB ⟨(fun hq => hq hpc2), (fun hq => hq hpc3), (fun hq => hq h3), trivial⟩ ?_
    refine ae_then ?_
    refine aw_false rfl ?_
    refine aw_skip ?_
    refine ae_then ?_
    refine aR [] [7, 8, 9, 10, 15, 16] [7, 10] [.ref 7 0, slS true words_1, Sv v_2, .ref 10 0, I (sum + v_5), I i] [some (bxModelT m_1), some (bxModelT v_3)] [inR .i64 (sum + v_5)] hB ⟨(inR_i64 (by omega) (by omega)), trivial⟩ ?_
    refine aw_r [] [7, 8, 9, 10, 14, 15, 16] [7, 10] [.ref 7 0, slS true words_1, Sv v_2, .ref 10 0, Sv (at_ words_1 i.toNat), I (sum + v_5), I i] [some (bxModelT m_1), some (bxModelT v_3)] [(0 : Int) ≤ i ∧ i < (words_1.length : Int)] hB ⟨⟨(by omega), (by omega)⟩, trivial⟩ ?_
    refine ae_block 1 ?_
    refine ae_then ?_
    refine aw_r [] [7, 8, 9, 10, 14, 15, 16] [7, 10] [.ref 7 0, slS true words_1, Sv v_2, .ref 10 0, Sv (at_ words_1 i.toNat), I (sum + v_5), I (i + 1)] [some (bxModelT m_1), some (bxModelT v_3)] [inR .i64 (i + 1)] hB ⟨(inR_i64 (by omega) (by omega)), trivial⟩ ?_
    exact ae_again _ (by omega) ⟨(at_ words_1 i.toNat), (sum + v_5), (i + 1), rfl, (by omega), (by rw [show (i + 1).toNat = i.toNat + 1 from by omega]; unfold wcK; rw [hpv2, hsm, ← hlw]), (by unfold lastW; rw [if_neg (by omega), show (i + 1).toNat - 1 = i.toNat from by omega]), (by exact .inr hwi), (by (have q_ := pc_bd hmd last (at_ words_1 i.toNat); omega)), rfl⟩
   by_cases h4 : last = v_2
   ·by_cases h5 : (at_ words_1 i.toNat) = v_2
    ·refine aw_r [(1, .dec false), (4, .dec false), (9, .dec true), (13, .dec false), (20, .dec false)] [7, 8, 9, 10, 15, 16, 17, 115] [7, 10] [.ref 7 0, slS true words_1, Sv v_2, .ref 10 0, I sum, I i, I v_5, Bv false] [some (bxModelT m_1), some (bxModelT v_3)] [¬ (c_5 ≠ 0), ¬ (c_6 ≠ 0), v_5 ≠ v_6, ¬ (last ≠ v_2), (0 : Int) ≤ i ∧ i < (words_1.length : Int), ¬ ((at_ words_1 i.toNat) ≠ v_2)] hB ⟨(fun hq => hq hpc2), (fun hq => hq hpc3), h3, (fun hq => hq h4), ⟨(by omega), (by omega)⟩, (fun hq => hq h5), trivial⟩ ?_
     refine ae_then ?_
     refine aw_false rfl ?_
     refine aw_skip ?_
     refine ae_then ?_
     refine aR [] [7, 8, 9, 10, 15, 16] [7, 10] [.ref 7 0, slS true words_1, Sv v_2, .ref 10 0, I (sum + v_5), I i] [some (bxModelT m_1), some (bxModelT v_3)] [inR .i64 (sum + v_5)] hB ⟨(inR_i64 (by omega) (by omega)), trivial⟩ ?_
     refine aw_r [] [7, 8, 9, 10, 14, 15, 16] [7, 10] [.ref 7 0, slS true words_1, Sv v_2, .ref 10 0, Sv (at_ words_1 i.toNat), I (sum + v_5), I i] [some (bxModelT m_1), some (bxModelT v_3)] [(0 : Int) ≤ i ∧ i < (words_1.length : Int)] hB ⟨⟨(by omega), (by omega)⟩, trivial⟩ ?_
     refine ae_block 1 ?_
     refine ae_then ?_
     refine aw_r [] [7, 8, 9, 10, 14, 15, 16] [7, 10] [.ref 7 0, slS true words_1, Sv v_2, .ref 10 0, Sv (at_ words_1 i.toNat), I (sum + v_5), I (i + 1)] [some (bxModelT m_1), some (bxModelT v_3)] [inR .i64 (i + 1)] hB ⟨(inR_i64 (by omega) (by omega)), trivial⟩ ?_
     exact ae_again _ (by omega) ⟨(at_ words_1 i.toNat), (sum + v_5), (i + 1), rfl, (by omega), (by rw [show (i + 1).toNat = i.toNat + 1 from by omega]; unfold wcK; rw [hpv2, hsm, ← hlw]), (by unfold lastW; rw [if_neg (by omega), show (i + 1).toNat - 1 = i.toNat from by omega]), (by exact .inr hwi), (by (have q_ := pc_bd hmd last (at_ words_1 i.toNat); omega)), rfl⟩
    refine aw_r [(1, .dec false), (4, .dec false), (9, .dec true), (13, .dec false), (20, .dec true)] [7, 8, 9, 10, 15, 16, 17, 115] [7, 10] [.ref 7 0, slS true words_1, Sv v_2, .ref 10 0, I sum, I i, I v_5, Bv true] [some (bxModelT m_1), some (bxModelT v_3)] [¬ (c_5 ≠ 0), ¬ (c_6 ≠ 0), v_5 ≠ v_6, ¬ (last ≠ v_2), (0 : Int) ≤ i ∧ i < (words_1.length : Int), (at_ words_1 i.toNat) ≠ v_2] hB ⟨(fun hq => hq hpc2), (fun hq => hq hpc3), h3, (fun hq => hq h4), ⟨(by omega), (by omega)⟩, h5, trivial⟩ ?_
    refine ae_then ?_
    refine aw_true rfl ?_
    refine aR [] [4] [] [Bv false] [] [] hB trivial ?_
    refine aw_ret ?_
    refine ae_ret_then (ae_ret_block (ae_ret_then (ae_ret_then (ae_ret_block (ae_ret_then ?_)))))
    refine ae_ret hB (Bv false) (by kernel_rfl) (.inl (by first | rfl | (refine congrArg Bv ?_; simp [*]; done) | (exfalso; simp_all; done) | (exfalso; simp only [hpv2, hpv3, hn2] at *; simp_all))) rfl (fun _ => trivial)
   refine aw_r [(1, .dec false), (4, .dec false), (9, .dec true), (13, .dec true)] [7, 8, 9, 10, 15, 16, 17, 115] [7, 10] [.ref 7 0, slS true words_1, Sv v_2, .ref 10 0, I sum, I i, I v_5, Bv true] [some (bxModelT m_1), some (bxModelT v_3)] [¬ (c_5 ≠ 0), ¬ (c_6 ≠ 0), v_5 ≠ v_6, last ≠ v_2] hB ⟨(fun hq => hq hpc2), (fun hq => hq hpc3), h3, h4, trivial⟩ ?_
   refine ae_then ?_
   refine aw_true rfl ?_
   refine aR [] [4] [] [Bv false] [] [] hB trivial ?_
   refine aw_ret ?_
   refine ae_ret_then (ae_ret_block (ae_ret_then (ae_ret_then (ae_ret_block (ae_ret_then ?_)))))
   refine ae_ret hB (Bv false) (by kernel_rfl) (.inl (by first | rfl | (refine congrArg Bv ?_; simp [*]; done) | (exfalso; simp_all; done) | (exfalso; simp only [hpv2, hpv3, hn2] at *; simp_all))) rfl (fun _ => trivial)
  have hsum : sum = wcM m_1 ⟨#[]⟩ words_1 := by rw [hsm, show i.toNat = words_1.length from by omega]; exact wcK_all _ _ _
  refine aw_r [(3, .dec false)] [7, 8, 9, 10, 14, 15, 16, 69] [7, 10] [.ref 7 0, slS true words_1, Sv v_2, .ref 10 0, Sv last, I sum, I i, Bv false] [some (bxModelT m_1), some (bxModelT v_3)] [¬ (i < (words_1.length : Int))] hB ⟨h2, trivial⟩ ?_
  refine ae_then ?_
  refine aw_false rfl ?_
  refine aw_exit ?_
  refine ae_exit_then ?_
  refine ae_exit_then ?_
  refine ae_exit_same ?_
  refine ae_then ?_
  refine aw_seq ?_
  obtain ⟨v_7, c_7, hx7_0, hx7_1, hx7_2, hc7⟩ := WordsCost_ok m_1 words_1 hmd hww (by omega)
  have hwv1 := hx7_0
  have hwb1 := hx7_1
  have hwc1 := hx7_2
  refine aw_r [(2, .call [(false, agModel m_1), (false, slS false words_1)] true (.tup [I v_7, I c_7]))] [7, 8, 15, 21, 22] [7] [.ref 7 0, slS true words_1, I sum, I v_7, I c_7] [some (bxModelT m_1)] [Con Tryz.prog 21 [agModel m_1, slS false words_1] true (.tup [I v_7, I c_7]) ∧ ((valOf (I m_1.Default) = valOf (I m_1.Default)) ∧ ((false = true → true = true) ∧ 3 = 3 ∧ m_1.Bigrams.length = m_1.Bigrams.length ∧ ∀ i_, i_ < m_1.Bigrams.length → (fBigram m_1.Bigrams) i_ = (fBigram m_1.Bigrams) i_ ∨ (AV.idsL ((fBigram m_1.Bigrams) i_) = [] ∧ leL (fun _ => none) false ((fBigram m_1.Bigrams) i_) ((fBigram m_1.Bigrams) i_))) ∧ ([] : List AV) = []) ∧ ((false = true → true = true) ∧ 1 = 1 ∧ words_1.length = words_1.length ∧ ∀ i_, i_ < words_1.length → (fS words_1) i_ = (fS words_1) i_ ∨ (AV.idsL ((fS words_1) i_) = [] ∧ leL (fun _ => none) false ((fS words_1) i_) ((fS words_1) i_))) ∧ True] hB ⟨⟨hc7, ⟨rfl, ⟨⟨(fun h => by cases h), rfl, rfl, fun i _ => .inl rfl⟩, rfl⟩⟩, ⟨(fun h => by cases h), rfl, rfl, fun i _ => .inl rfl⟩, trivial⟩, trivial⟩ ?_
  refine ae_then ?_
  refine aw_seq ?_
  obtain ⟨v_8, c_8, hx8_0, hx8_1, hc8⟩ := ReadModel_ok (mdTx m_1) ⟨_, hmd, rfl⟩
  have hrd : v_8 = m_1 := hx8_0 _ hmd rfl
  have hrc := hx8_1
  refine aw_r [(1, .call [(false, agModel m_1)] true (Sv (mdTx m_1))), (2, .call [(true, .any)] true (.tup [agModelT v_8, Bv c_8])), (6, .new 23)] [7, 8, 15, 21, 22, 23, 24] [7, 23] [.ref 7 0, slS true words_1, I sum, I v_7, I c_7, .ref 23 0, Bv c_8] [some (bxModelT m_1), some (bxModelT v_8)] [Con Tryz.prog 23 [agModel m_1] true (Sv (mdTx m_1)) ∧ ((valOf (I m_1.Default) = valOf (I m_1.Default)) ∧ ((false = true → true = true) ∧ 3 = 3 ∧ m_1.Bigrams.length = m_1.Bigrams.length ∧ ∀ i_, i_ < m_1.Bigrams.length → (fBigram m_1.Bigrams) i_ = (fBigram m_1.Bigrams) i_ ∨ (AV.idsL ((fBigram m_1.Bigrams) i_) = [] ∧ leL (fun _ => none) false ((fBigram m_1.Bigrams) i_) ((fBigram m_1.Bigrams) i_))) ∧ ([] : List AV) = []) ∧ True, Con Tryz.prog 22 [Sv (mdTx m_1)] true (.tup [agModelT v_8, Bv c_8]) ∧ True] hB ⟨⟨(ModelText_ok m_1 hmd), ⟨rfl, ⟨⟨(fun h => by cases h), rfl, rfl, fun i _ => .inl rfl⟩, rfl⟩⟩, trivial⟩, ⟨hc8, trivial⟩, trivial⟩ ?_
  refine ae_then ?_
  refine aw_seq ?_
  obtain ⟨v_9, c_9, hx9_0, hx9_1, hx9_2, hc9⟩ := CountModel_ok ([words_1, words_1]) 90 50 (Nat.le_refl 2) (fun ws_ hw_ => by simp only [List.mem_cons, List.not_mem_nil, or_false] at hw_; have e_ : ws_ = words_1 := hw_.elim id id; rw [e_]; exact ⟨by omega, hww⟩) rfl rfl
  have hk1 := hx9_0
  have hk2 := hx9_1
  have hkc := hx9_2
  refine aw_r [(2, .new 138), (3, .call [(false, slLS false ([words_1, words_1])), (true, .any), (true, .any)] true (.tup [agModelT v_9, I c_9])), (7, .new 25)] [7, 8, 15, 21, 22, 23, 24, 25, 26] [7, 23, 25] [.ref 7 0, slS true words_1, I sum, I v_7, I c_7, .ref 23 0, Bv c_8, .ref 25 0, I c_9] [some (bxModelT m_1), some (bxModelT v_8), some (bxModelT v_9)] [Con Tryz.prog 24 [slLS false ([words_1, words_1]), I 90, I 50] true (.tup [agModelT v_9, I c_9]) ∧ ((false = true → true = true) ∧ 1 = 1 ∧ 2 = (([words_1, words_1]).length) ∧ ∀ i_, i_ < (([words_1, words_1]).length) → (litF [slS true words_1, slS true words_1] 1) i_ = (fLS false ([words_1, words_1])) i_ ∨ (AV.idsL ((fLS false ([words_1, words_1])) i_) = [] ∧ leL (fun _ => none) false ((litF [slS true words_1, slS true words_1] 1) i_) ((fLS false ([words_1, words_1])) i_))) ∧ True] hB ⟨⟨hc9, ⟨(fun h => by cases h), rfl, (by first | rfl | (simp; done) | (simp; omega) | omega), fun i_ hi_ => (match i_, hi_ with | 0, _ => .inr (show AV.idsL [slS true words_1] = [] ∧ leL (fun _ => none) false [slS true words_1] [slS false words_1] from ⟨rfl, ⟨⟨(fun h => by cases h), rfl, rfl, fun i _ => .inl rfl⟩, rfl⟩⟩) | 1, _ => .inr (show AV.idsL [slS true words_1] = [] ∧ leL (fun _ => none) false [slS true words_1] [slS false words_1] from ⟨rfl, ⟨⟨(fun h => by cases h), rfl, rfl, fun i _ => .inl rfl⟩, rfl⟩⟩) | (i + 2), h => absurd h (by simp))⟩, trivial⟩, trivial⟩ ?_
  refine ae_then ?_
  refine aw_seq ?_
  refine aw_seq ?_
  obtain rfl : c_8 = true := hrc
  refine aw_r [(1, .dec false), (5, .dec false), (14, .call [(false, agModel v_8), (false, agModel m_1)] true (Bv true)), (19, .dec false), (23, .call [(false, agModel v_9)] true (Bv true))] [8, 25, 167] [25] [slS true words_1, .ref 25 0, Bv false] [some (bxModelT v_9)] [¬ (c_7 ≠ 0), ¬ (v_7 ≠ sum), Con Tryz.prog 25 [agModel v_8, agModel m_1] true (Bv true) ∧ ((valOf (I v_8.Default) = valOf (I v_8.Default)) ∧ ((false = true → true = true) ∧ 3 = 3 ∧ v_8.Bigrams.length = v_8.Bigrams.length ∧ ∀ i_, i_ < v_8.Bigrams.length → (fBigram v_8.Bigrams) i_ = (fBigram v_8.Bigrams) i_ ∨ (AV.idsL ((fBigram v_8.Bigrams) i_) = [] ∧ leL (fun _ => none) false ((fBigram v_8.Bigrams) i_) ((fBigram v_8.Bigrams) i_))) ∧ ([] : List AV) = []) ∧ ((valOf (I m_1.Default) = valOf (I m_1.Default)) ∧ ((false = true → true = true) ∧ 3 = 3 ∧ m_1.Bigrams.length = m_1.Bigrams.length ∧ ∀ i_, i_ < m_1.Bigrams.length → (fBigram m_1.Bigrams) i_ = (fBigram m_1.Bigrams) i_ ∨ (AV.idsL ((fBigram m_1.Bigrams) i_) = [] ∧ leL (fun _ => none) false ((fBigram m_1.Bigrams) i_) ((fBigram m_1.Bigrams) i_))) ∧ ([] : List AV) = []) ∧ True, ¬ (c_9 ≠ 0), Con Tryz.prog 26 [agModel v_9] true (Bv true) ∧ ((valOf (I v_9.Default) = valOf (I v_9.Default)) ∧ ((false = true → true = true) ∧ 3 = 3 ∧ v_9.Bigrams.length = v_9.Bigrams.length ∧ ∀ i_, i_ < v_9.Bigrams.length → (fBigram v_9.Bigrams) i_ = (fBigram v_9.Bigrams) i_ ∨ (AV.idsL ((fBigram v_9.Bigrams) i_) = [] ∧ leL (fun _ => none) false ((fBigram v_9.Bigrams) i_) ((fBigram v_9.Bigrams) i_))) ∧ ([] : List AV) = []) ∧ True] hB ⟨(fun hq => hq hwc1), (fun hq => hq (by rw [hwv1, hsum])), ⟨(specSameModel_ok v_8 m_1 hrd), ⟨rfl, ⟨⟨(fun h => by cases h), rfl, rfl, fun i _ => .inl rfl⟩, rfl⟩⟩, ⟨rfl, ⟨⟨(fun h => by cases h), rfl, rfl, fun i _ => .inl rfl⟩, rfl⟩⟩, trivial⟩, (fun hq => hq hkc), ⟨(specValidModel_ok v_9 hk1), ⟨rfl, ⟨⟨(fun h => by cases h), rfl, rfl, fun i _ => .inl rfl⟩, rfl⟩⟩, trivial⟩, trivial⟩ ?_
  refine ae_then ?_
  refine aw_false rfl ?_
  refine aw_skip ?_
  refine ae_then ?_
  refine aw_seq ?_
  obtain ⟨v_10, c_10, hx10_0, hx10_1, hx10_2, hc10⟩ := WordsCost_ok v_9 words_1 hk1 hww (by omega)
  have hwv2 := hx10_0
  have hwb2 := hx10_1
  have hwc2 := hx10_2
  refine aw_r [(2, .call [(false, agModel v_9), (false, slS false words_1)] true (.tup [I v_10, I c_10]))] [8, 27, 28] [] [slS true words_1, I v_10, I c_10] [] [Con Tryz.prog 21 [agModel v_9, slS false words_1] true (.tup [I v_10, I c_10]) ∧ ((valOf (I v_9.Default) = valOf (I v_9.Default)) ∧ ((false = true → true = true) ∧ 3 = 3 ∧ v_9.Bigrams.length = v_9.Bigrams.length ∧ ∀ i_, i_ < v_9.Bigrams.length → (fBigram v_9.Bigrams) i_ = (fBigram v_9.Bigrams) i_ ∨ (AV.idsL ((fBigram v_9.Bigrams) i_) = [] ∧ leL (fun _ => none) false ((fBigram v_9.Bigrams) i_) ((fBigram v_9.Bigrams) i_))) ∧ ([] : List AV) = []) ∧ ((false = true → true = true) ∧ 1 = 1 ∧ words_1.length = words_1.length ∧ ∀ i_, i_ < words_1.length → (fS words_1) i_ = (fS words_1) i_ ∨ (AV.idsL ((fS words_1) i_) = [] ∧ leL (fun _ => none) false ((fS words_1) i_) ((fS words_1) i_))) ∧ True] hB ⟨⟨hc10, ⟨rfl, ⟨⟨(fun h => by cases h), rfl, rfl, fun i _ => .inl rfl⟩, rfl⟩⟩, ⟨(fun h => by cases h), rfl, rfl, fun i _ => .inl rfl⟩, trivial⟩, trivial⟩ ?_
  refine ae_then ?_
  refine aR [(1, .dec true), (7, .dec true), (11, .dec true)] [4] [] [Bv true] [] [c_10 = 0, inR .i64 (90 * (words_1.length : Int)), v_10 ≤ (90 * (words_1.length : Int)), 0 ≤ v_10] hB ⟨hwc2, (inR_i64 (by omega) (by omega)), (by have q_ := wc_le hk2 words_1 ⟨#[]⟩; rw [hwv2]; exact q_.2), hwb2.1, trivial⟩ ?_
  refine aw_ret ?_
  refine ae_ret hB (Bv true) (by kernel_rfl) (.inl rfl) rfl (fun _ => trivial)





theorem opens_t22 : OpensA Tryz.prog 22 (cLU8 false) (fun xs => ∀ y ∈ xs, inR .u8 y) :=
  opensA_slice (c := cU8) (sz := 1) Tryz.underlying22 (by kernel_rfl) (by decide) (fun x => ⟨rfl, by simp [oneA, cU8]⟩) (opensA_int Tryz.underlying5)


namespace fnModels
set_option maxRecDepth 100000 in
theorem lifted (os : Os) (started : os.Started) (H : Type) (enc : TypeId × Value → H) :
    ReturnsInHanded {} Tryz.checked os 4 .any (fun w args => (Rows.fnModelsSpec.pre enc Tryz.prog Tryz.f4 Rows.fnModelsRow.domain false w args ∧ laidMetH Tryz.prog Rows.fnModelsRow.laid w) ∧ sizedMet enc Tryz.prog Tryz.f4 (OpenSpec.ofChange Rows.fnModelsSpec) false w args)
      (Rows.fnModelsSpec.post enc Tryz.prog Tryz.f4 false true false false) := by
  refine returnsInHanded_of_change_and (C := Tryz.checked) (X := fun w _ => laidMetH Tryz.prog Rows.fnModelsRow.laid w) (fun _ _ _ hh h => h.of_heap hh) Tryz.own started (by kernel_rfl) Tryz.func4
    (ChangeSpec.witness_shaped (enc := enc) (C := Tryz.checked) (os := os) (X := fun w _ => laidMetH Tryz.prog Rows.fnModelsRow.laid w) false (World.laidAll Tryz.prog os Rows.fnModelsRow.laid) #[.slice none 0 0, .slice none 0 0] 8 (World.laidAll_os _ _ _)
      (World.shaped_of_ZipB (by kernel_rfl) (by kernel_rfl)) (by kernel_rfl) (by kernel_rfl) (by kernel_rfl)
      (by rw [MakeChecks.laidMetH_plain _ _ _ (by kernel_rfl)]; exact laidMet_laidAll _ (by kernel_rfl) (by kernel_rfl))) ?_
  intro W base args ds gs before hval0 hW hcnd hsz hL _
  have hW' := hW
  obtain ⟨p, q, hA0, hV, rfl, hfz, hnd⟩ := hW
  have hval : ∀ (j : Nat) t v, Tryz.f4.params[j]? = some t → args[j]? = some v → Value.okWide Tryz.prog W .any base t v := hval0
  have hA : DataW.TrodAll enc Tryz.prog W 0 (fun _ => true) true Tryz.f4.params.toList args.toList ds p := hA0
  rw [Tryz.params4] at hA hval
  obtain ⟨v0, vs0, d0, ds0, p0, q0, hargs, rfl, rfl, h0, r0⟩ := trodAll_cons hA
  obtain ⟨v1, vs1, d1, ds1, p1, q1, rfl, rfl, rfl, h1, r1⟩ := trodAll_cons r0
  obtain ⟨rfl, rfl, rfl⟩ := trodAll_nil r1
  obtain rfl : args = #[v0, v1] := args_eq hargs
  obtain ⟨rfl, rfl⟩ := trodVars_none hV
  obtain ⟨fuel0, hf0⟩ := h0
  obtain ⟨A0, l0, c0, rfl⟩ := okWide_slice Tryz.underlying22 (hval 0 22 v0 rfl rfl)
  obtain ⟨x0, rx0, ok0⟩ := (opens_t22) enc W 0 _ _ _ _ _ hf0
  obtain ⟨fuel1, hf1⟩ := h1
  obtain ⟨A1, l1, c1, rfl⟩ := okWide_slice Tryz.underlying22 (hval 1 22 v1 rfl rfl)
  obtain ⟨x1, rx1, ok1⟩ := (opens_t22) enc W 0 _ _ _ _ _ hf1
  refine (walk_of0 (fnModels_con x0 x1 ok0 ok1) (fun w hk => WX_below (WX_laid (by rw [MakeChecks.laidMetH_plain _ _ _ (by kernel_rfl)] at hL; first | exact hL | exact hL.tail | exact hL.tail.tail | exact hL.tail.tail.tail | exact hL.tail.tail.tail.tail | exact hL.tail.tail.tail.tail.tail | exact hL.tail.tail.tail.tail.tail.tail | exact hL.tail.tail.tail.tail.tail.tail.tail | exact hL.tail.tail.tail.tail.tail.tail.tail.tail) (by rw [MakeChecks.laidMetH_plain _ _ _ (by kernel_rfl)] at hL; first | exact hL | exact hL.tail | exact hL.tail.tail | exact hL.tail.tail.tail | exact hL.tail.tail.tail.tail | exact hL.tail.tail.tail.tail.tail | exact hL.tail.tail.tail.tail.tail.tail | exact hL.tail.tail.tail.tail.tail.tail.tail | exact hL.tail.tail.tail.tail.tail.tail.tail.tail) (by rw [MakeChecks.laidMetH_plain _ _ _ (by kernel_rfl)] at hL; first | exact hL | exact hL.tail | exact hL.tail.tail | exact hL.tail.tail.tail | exact hL.tail.tail.tail.tail | exact hL.tail.tail.tail.tail.tail | exact hL.tail.tail.tail.tail.tail.tail | exact hL.tail.tail.tail.tail.tail.tail.tail | exact hL.tail.tail.tail.tail.tail.tail.tail.tail)) w ⟨hk.os, hk.tape, hk.output, hk.size, fun k h1 => hk.block k h1 id⟩) (RelTL.cons (relTL_one rx0) (RelTL.cons (relTL_one rx1) RelTL.nil))).mono fun e W1 ⟨he, hb⟩ => ?_
  subst he
  exact ⟨_, rfl, law_post Tryz.laidOut rfl Tryz.underlying4 (of_decide_eq_true (by kernel_rfl)) rfl hW' hb rfl⟩

theorem jf0 : (Rows.fnModelsRow.inPlace == Tryz.pinned.checked.prog.inPlace 4) = true := by kernel_rfl
theorem jf1 : (Rows.fnModelsRow.unfollowed == Tryz.pinned.checked.prog.unfollowed 4) = true := by kernel_rfl
theorem jf2 : (Rows.fnModelsRow.recurses == Tryz.pinned.checked.prog.recurses 4) = true := by kernel_rfl
theorem jf3 : (Rows.fnModelsRow.named == Tryz.pinned.checked.prog.varsNamed 4) = true := by kernel_rfl
theorem jf : joinedFacts Tryz.pinned.checked.prog 4 Tryz.f4 Rows.fnModelsSpec Rows.fnModelsRow = true := by
  unfold joinedFacts
  rw [jf0, jf1, jf2, jf3]
  kernel_rfl
theorem over : Rows.fnModelsRow.holds Tryz.pinned (OpenSpec.ofChange Rows.fnModelsSpec) :=
  OpenClaim.holds_of_wide 4 Tryz.f4 rfl rfl rfl rfl rfl rfl rfl ⟨rfl, rfl, rfl, rfl, rfl⟩ rfl rfl rfl rfl rfl (by kernel_rfl) Tryz.func4 jf
    (of_decide_eq_true (by kernel_rfl)) (by unfold Func.isWrapper; first | (rw [if_pos (by decide +kernel)]; kernel_rfl) | (rw [if_neg (by decide +kernel)]; exact ⟨rfl, rfl⟩))
    (fun os started H enc _ => lifted os started H enc)

theorem proved : Rows.FnModelsCardSaid :=
  Claim7.holds_tied_plain_at .later [] [.data, .data, .data, .data, .sentinel, .sentinel, .pinned] true (true, "e0ae5afe27e28ba2b29726a2d3bfb706da0e465470898b97cba4ce3d3a9db918") true over (fun _ h => by cases h) (by kernel_rfl) (fun _ h => by cases h) fnModels_row_tie rfl ⟨rfl, rfl⟩ (by kernel_rfl) rfl
    (fun f fn hf hfn => by
      obtain rfl : f = 4 := Option.some.inj ((show Tryz.prog.funcNamed "loop.example/g00918/laws.FnModels" = some 4 by kernel_rfl).symm.trans hf) |>.symm
      obtain rfl : fn = Tryz.f4 := (Option.some.inj (Tryz.func4.symm.trans hfn)).symm
      exact ⟨by kernel_rfl, fun j t ht => by
        rw [Tryz.params4] at ht
        have hm : t ∈ [22, 22] := by simpa using Array.mem_of_getElem? ht
        have hall : ([22, 22].all fun u => !Tryz.prog.wantsStandIn u) = true := by kernel_rfl
        exact (show Tryz.prog.wantsStandIn t = false by simpa using List.all_eq_true.1 hall t hm)⟩)
    (by kernel_rfl)
#print axioms proved
end fnModels

end Go.Proofs.YtecdjaknbiekkaaGreatDoor.Ax
