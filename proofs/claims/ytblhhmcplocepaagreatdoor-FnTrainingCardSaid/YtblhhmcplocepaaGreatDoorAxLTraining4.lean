/- Contracts that the statement FnTraining reaches, part 4. No conditions. -/
import Derived.Test.YtblhhmcplocepaaGreatDoorAxLTraining3
import Derived.LaidMore
import Derived.Lay
import Derived.Lib.IndexBytes
import Derived.Lib.ItoaNum
import Derived.Lib.ParseIntBCases
import Derived.Lib.ParseIntBTie
import Derived.Lib.SplitLaws
import Derived.OpenShut
import Derived.SevenTiedAt
import Derived.Stop.Joined
import Derived.Test.YtblhhmcplocepaaGreatDoorAxBd
import Derived.Test.YtblhhmcplocepaaGreatDoorAxQ
import Derived.Test.YtblhhmcplocepaaGreatDoorAxR
import Derived.Test.YtblhhmcplocepaaGreatDoorAxS
import Derived.Test.YtblhhmcplocepaaGreatDoorAxY
import Derived.Test.YtblhhmcplocepaaGreatDoorDelShelf
namespace Go.Proofs.YtblhhmcplocepaaGreatDoor.Ax
open Go.RowKit Go.ChangeShapes Go.WideShapes
set_option linter.unusedVariables false
set_option linter.unusedSimpArgs false
-- strings.TrimSuffix
theorem Zry (s p : ByteArray) (hs : s.size ≤ 9223372036854775807) : Con Tryz.prog 64 [Sv s, Sv p] true (Sv (Ztt s p)) := by
  refine Zfz (vals := [.string s, .string p]) fun w _ => ?_
  refine (Tryz.strings_TrimSuffix s p w hs).mono ?_
  rintro e w' ⟨rfl, rfl⟩
  exact ⟨rfl, Below.refl _ _⟩
-- strings.Split
set_option maxHeartbeats 2000000 in
set_option maxRecDepth 100000 in
theorem Zya (s sep : ByteArray) (hs : s.size ≤ 140737488 ∧ True) (h1 : sep.size = 1) : Con Tryz.prog 63 [Sv s, Sv sep] true (slS true (Zcq sep s)) := by
  obtain ⟨c, rfl⟩ := Lib.one_byte sep h1
  have hle := Lib.countB_le ⟨#[c]⟩ (by omega) s.size s (Nat.le_refl _)
  have hlen := Zkc (s := s) h1
  have hcell : ∀ i, i < Lib.countB s ⟨#[c]⟩ + 1 → (((Lib.splitB ⟨#[c]⟩ 0 (Lib.countB s ⟨#[c]⟩) s).map Value.string).toArray)[i]? = some (.string (at_ (Zcq ⟨#[c]⟩ s) i)) ∧ (Value.string (at_ (Zcq ⟨#[c]⟩ s) i)).oneCell' = true := fun i hi => by
    have hi2 : i < (Lib.splitB ⟨#[c]⟩ 0 (Lib.countB s ⟨#[c]⟩) s).length := by omega
    refine ⟨?_, rfl⟩
    have e : at_ (Zcq ⟨#[c]⟩ s) i = (Lib.splitB ⟨#[c]⟩ 0 (Lib.countB s ⟨#[c]⟩) s)[i] := Zex hi2
    rw [e]
    simp [List.getElem?_eq_getElem hi2]
  have hmain := Zoc (P := Tryz.prog) (f := 63) (vals := [.string s, .string ⟨#[c]⟩]) (n := Lib.countB s ⟨#[c]⟩ + 1) (T := 9) (cs := ((Lib.splitB ⟨#[c]⟩ 0 (Lib.countB s ⟨#[c]⟩) s).map Value.string).toArray) (g := fun i => .string (at_ (Zcq ⟨#[c]⟩ s) i)) (by unfold maxLen; omega) hcell ?_
  · have e : slS true (Zcq ⟨#[c]⟩ s) = .sl true 1 (Lib.countB s ⟨#[c]⟩ + 1) fun i => [Sv (at_ (Zcq ⟨#[c]⟩ s) i)] := by
      rw [← hlen]; rfl
    rw [e]
    exact hmain
  · intro w _
    have hI : ∀ (x : ByteArray) (d : Array Value), x.size ≤ s.size → Calls Tryz.prog 122 #[.string x, .string ⟨#[c]⟩] (w.alloc (.cells d 9)) fun e w' => e = .returned (.int .i64 (Lib.indexB x ⟨#[c]⟩)) ∧ w' = w.alloc (.cells d 9) := fun x d _ => by
      have := Tryz.strings_Index_one x c (w.alloc (.cells d 9))
      have e : Lib.indexB x ⟨#[c]⟩ = Lib.indexByte x.data.toList c := Lib.index_one _ _
      rw [e]
      exact this
    have hC : Calls Tryz.prog 121 #[.string s, .string ⟨#[c]⟩] w fun e w' => e = .returned (.int .i64 (Lib.countB s ⟨#[c]⟩)) ∧ w' = w := by
      have := Tryz.strings_Count_one s c w
      have e : Lib.countB s ⟨#[c]⟩ = Lib.countByte s.data.toList c := Lib.count_one c _
      rw [e]
      exact this
    have hcore := Any.strings_genSplit_core Tryz.lays221 (by kernel_rfl) s ⟨#[c]⟩ 0 (-1) (Lib.countB s ⟨#[c]⟩ + 1) w (by omega) (by omega) (Nat.zero_le _) hI hC (by decide) (by decide) (by rw [if_pos (by decide)]; omega)
    rw [Nat.add_sub_cancel, hlen] at hcore
    have e2 : Lib.cellsOf (Lib.splitB ⟨#[c]⟩ 0 (Lib.countB s ⟨#[c]⟩) s) (Lib.countB s ⟨#[c]⟩ + 1) = ((Lib.splitB ⟨#[c]⟩ 0 (Lib.countB s ⟨#[c]⟩) s).map Value.string).toArray := by rw [← hlen]; exact Lib.cellsOf_full _
    rw [e2] at hcore
    go_enter Tryz.func63, Tryz.ntmps63
    go_wp2_with (go_at_call 101; refine hcore.mono ?_; rintro e w' ⟨rfl, hw⟩; rw [hw])
    go_ret
    exact ⟨rfl, rfl⟩
def dcB (s : ByteArray) : Bool := match Lib.parseIntB 64 s.data.toList with | .ok n => decide ((1 ≤ (Lib.trimPrefix s.data.toList [45]).length ∧ (Lib.trimPrefix s.data.toList [45]).length ≤ 18) ∧ Zdz n = s) | _ => false
def dcN (s : ByteArray) : Int := if dcB s = true then dcV s else 0
theorem Zvs {s : ByteArray} (h : ¬ (1 ≤ (Lib.trimPrefix s.data.toList [45]).length ∧ (Lib.trimPrefix s.data.toList [45]).length ≤ 18)) : dcB s = false ∧ dcN s = 0 := by
  have e : dcB s = false := by
    unfold dcB
    split
    · exact decide_eq_false fun q => h q.1
    · rfl
  exact ⟨e, by rw [dcN, e]; rfl⟩
theorem Zod {s : ByteArray} {n : Int} (hp : Lib.parseIntB 64 s.data.toList = .ok n) (hl : 1 ≤ (Lib.trimPrefix s.data.toList [45]).length ∧ (Lib.trimPrefix s.data.toList [45]).length ≤ 18) (he : Zdz n = s) : dcB s = true ∧ dcN s = n := by
  have e : dcB s = true := by
    unfold dcB
    rw [hp]
    exact decide_eq_true ⟨hl, he⟩
  exact ⟨e, by rw [dcN, if_pos e]; unfold dcV; rw [hp]⟩
theorem Ybv {s : ByteArray} {n : Int} (hp : Lib.parseIntB 64 s.data.toList = .ok n) (he : ¬ Zdz n = s) : dcB s = false ∧ dcN s = 0 := by
  have e : dcB s = false := by
    unfold dcB
    rw [hp]
    exact decide_eq_false fun q => he q.2
  exact ⟨e, by rw [dcN, e]; rfl⟩
theorem Ybw {s : ByteArray} (hp : ∀ n, Lib.parseIntB 64 s.data.toList ≠ .ok n) : dcB s = false ∧ dcN s = 0 := by
  have e : dcB s = false := by
    unfold dcB
    split
    · rename_i n h; exact absurd h (hp n)
    · rfl
  exact ⟨e, by rw [dcN, e]; rfl⟩
theorem pI_bd {s : ByteArray} {n : Int} (hp : Lib.parseIntB 64 s.data.toList = .ok n) : -9223372036854775808 ≤ n ∧ n ≤ 9223372036854775807 := by
  have := Lib.parseIntB_bounds hp
  have e : ((2 ^ (64 - 1) : Nat) : Int) = 9223372036854775808 := by decide
  rw [e] at this
  omega
theorem Ztu (s : ByteArray) (j : Nat) : bAt s j = (((s.data.toList.getD j 0).toNat : Nat) : Int) := rfl
theorem Ybx {c : UInt8} {s : ByteArray} {a b : Nat} (hb : b ≤ s.size) (h : ∀ j, a ≤ j → j < b → ¬ bAt s j = ((c.toNat : Nat) : Int)) : noB c (s.extract a b) := fun hm => by
  rw [Lib.extract_data] at hm
  obtain ⟨i, hi, e⟩ := List.getElem_of_mem hm
  have hl : s.data.toList.length = s.size := by rw [Array.length_toList]; rfl
  simp only [List.length_take, List.length_drop] at hi
  refine h (a + i) (by omega) (by omega) ?_
  rw [Ztu, List.getD_eq_getElem?_getD, List.getElem?_eq_getElem (by omega)]
  have e2 : s.data.toList[a + i]'(by omega) = c := by rw [← e]; simp
  rw [e2]; rfl
theorem ext_cut {c : UInt8} {s : ByteArray} {a i : Nat} (h1 : a ≤ i) (h2 : i < s.size) (hb : bAt s i = ((c.toNat : Nat) : Int)) : s.extract a s.size = (s.extract a i ++ ⟨#[c]⟩) ++ s.extract (i + 1) s.size := by
  have hl : s.data.toList.length = s.size := by rw [Array.length_toList]; rfl
  have hc : s.data.toList[i]'(by omega) = c := by
    rw [Ztu, List.getD_eq_getElem?_getD, List.getElem?_eq_getElem (by omega)] at hb
    have hb : (s.data.toList[i]'(by omega)).toNat = c.toNat := by
      have : (((s.data.toList[i]'(by omega)).toNat : Nat) : Int) = ((c.toNat : Nat) : Int) := hb
      omega
    exact UInt8.toNat_inj.1 hb
  apply ByteArray.ext
  apply Array.ext'
  have e1 : ((s.extract a i ++ ⟨#[c]⟩) ++ s.extract (i + 1) s.size).data.toList = ((s.extract a i).data.toList ++ [c]) ++ (s.extract (i + 1) s.size).data.toList := by simp
  have hd : s.data.toList.drop a = (s.data.toList.drop a).take (i - a) ++ s.data.toList.drop i := by
    have q := List.take_append_drop (i - a) (s.data.toList.drop a)
    rw [List.drop_drop, show a + (i - a) = i from by omega] at q
    exact q.symm
  have hi : s.data.toList.drop i = c :: s.data.toList.drop (i + 1) := by rw [List.drop_eq_getElem_cons (by omega), hc]
  have t1 : (s.data.toList.drop a).take (s.size - a) = s.data.toList.drop a := List.take_of_length_le (by rw [List.length_drop]; omega)
  have t2 : (s.data.toList.drop (i + 1)).take (s.size - (i + 1)) = s.data.toList.drop (i + 1) := List.take_of_length_le (by rw [List.length_drop]; omega)
  rw [e1, Lib.extract_data, Lib.extract_data, Lib.extract_data, t1, t2, List.append_assoc]
  show _ = (s.data.toList.drop a).take (i - a) ++ (c :: s.data.toList.drop (i + 1))
  rw [← hi]
  exact hd
theorem spl_hit {c : UInt8} {s : ByteArray} {a i : Nat} (h1 : a ≤ i) (h2 : i < s.size) (hn : ∀ j, a ≤ j → j < i → ¬ bAt s j = ((c.toNat : Nat) : Int)) (hb : bAt s i = ((c.toNat : Nat) : Int)) : Zkd c (s.extract a s.size) = s.extract a i :: Zkd c (s.extract (i + 1) s.size) := by
  rw [ext_cut h1 h2 hb, Zmw (Ybx (by omega) hn)]
theorem spl_end {c : UInt8} {s : ByteArray} {a : Nat} (hn : ∀ j, a ≤ j → j < s.size → ¬ bAt s j = ((c.toNat : Nat) : Int)) : Zkd c (s.extract a s.size) = [s.extract a s.size] := Zjr (Ybx (Nat.le_refl _) hn)
theorem ext_all (s : ByteArray) : s.extract 0 s.size = s := by
  apply ByteArray.ext
  apply Array.ext'
  rw [Lib.extract_data]
  have hl : s.data.toList.length = s.size := by rw [Array.length_toList]; rfl
  rw [List.drop_zero, List.take_of_length_le (by omega)]
def Zsp (acc : Nat) (l : List UInt8) : Nat := l.foldl (fun a b => a * 10 + (b.toNat - 48)) acc
def Zjc (l : List UInt8) : Prop := ∀ b ∈ l, 48 ≤ b.toNat ∧ b.toNat ≤ 57
theorem Zoe : ∀ (l : List UInt8) (acc k : Nat), Zjc l → acc < 10 ^ k → Zsp acc l < 10 ^ (k + l.length)
  | [], acc, k, _, h => by simpa [Zsp] using h
  | c :: l, acc, k, hd, h => by
    have hc := hd c (by simp)
    have := Zoe l (acc * 10 + (c.toNat - 48)) (k + 1) (fun b hb => hd b (by simp [hb])) (by rw [Nat.pow_succ]; omega)
    rw [List.length_cons, show k + (l.length + 1) = k + 1 + l.length from by omega]
    exact this
theorem Zvt {M : Nat} (hM : 1000000000000000000 ≤ M) : ∀ (l : List UInt8) (acc k : Nat), Zjc l → acc < 10 ^ k → k + l.length ≤ 18 → Lib.parseUintM M acc l = .ok (Zsp acc l)
  | [], acc, k, _, _, _ => rfl
  | c :: l, acc, k, hd, h, hk => by
    have hc := hd c (by simp)
    rw [List.length_cons] at hk
    have h1 : acc * 10 + (c.toNat - 48) < 10 ^ (k + 1) := by rw [Nat.pow_succ]; omega
    have h2 : 10 ^ (k + 1) ≤ 10 ^ 18 := Nat.pow_le_pow_right (by decide) (by omega)
    have h3 : (10 : Nat) ^ 18 = 1000000000000000000 := by decide
    have h4 : 10 ^ k ≤ 10 ^ 17 := Nat.pow_le_pow_right (by decide) (by omega)
    have h5 : (10 : Nat) ^ 17 = 100000000000000000 := by decide
    rw [Lib.parseUintM, if_pos hc, if_neg (by omega), if_neg (by omega)]
    exact Zvt hM l _ (k + 1) (fun b hb => hd b (by simp [hb])) h1 (by omega)
theorem Yby {r : List UInt8} (hd : Zjc r) (h : 1 ≤ r.length ∧ r.length ≤ 18) : Lib.parseIntB 64 (45 :: r) = .ok (-((Zsp 0 r : Nat) : Int)) := by
  have hv := Zoe r 0 0 hd (by decide)
  have h2 : 10 ^ (0 + r.length) ≤ 10 ^ 18 := Nat.pow_le_pow_right (by decide) (by omega)
  have h3 : (10 : Nat) ^ 18 = 1000000000000000000 := by decide
  rw [Lib.parseIntB_minus]
  unfold Lib.parseUintB
  rw [if_neg (fun e => by rw [e] at h; exact absurd h.1 (by decide)), Zvt (by decide) r 0 0 hd (by decide) (by omega)]
  simp only [Lib.signedC]
  rw [if_neg (by omega)]
theorem Ybz {r : List UInt8} (hd : Zjc r) (h : 1 ≤ r.length ∧ r.length ≤ 18) : Lib.parseIntB 64 r = .ok ((Zsp 0 r : Nat) : Int) := by
  have hv := Zoe r 0 0 hd (by decide)
  have h2 : 10 ^ (0 + r.length) ≤ 10 ^ 18 := Nat.pow_le_pow_right (by decide) (by omega)
  have h3 : (10 : Nat) ^ 18 = 1000000000000000000 := by decide
  obtain ⟨c, q, rfl⟩ : ∃ c q, r = c :: q := by
    cases r with
    | nil => exact absurd h.1 (by decide)
    | cons c q => exact ⟨c, q, rfl⟩
  have hc := hd c (by simp)
  rw [Lib.parseIntB_plain 64 c q (by omega) (by omega)]
  unfold Lib.parseUintB
  rw [if_neg (by simp), Zvt (by decide) _ 0 0 hd (by decide) (by omega)]
  simp only [Lib.signlessC]
  rw [if_neg (by omega)]
def unS (s t : ByteArray) : Prop := s.data.toList = 45 :: t.data.toList ∨ (t = s ∧ ∀ r, s.data.toList ≠ 45 :: r)
theorem Zff (s : ByteArray) : s.data.toList.length = s.size := by rw [Array.length_toList]; rfl
theorem Zrz {s t : ByteArray} (h : unS s t) : Lib.trimPrefix s.data.toList [45] = t.data.toList := by
  rcases h with h | ⟨rfl, h⟩
  · rw [h]; simp [Lib.trimPrefix, Lib.hasPrefix]
  · cases hq : t.data.toList with
    | nil => simp [Lib.trimPrefix, Lib.hasPrefix]
    | cons c r =>
      have : ¬ (45 : UInt8) = c := fun e => h r (by rw [hq, e])
      simp [Lib.trimPrefix, Lib.hasPrefix, this]
theorem unS_size {s t : ByteArray} (h : unS s t) : (t.size < s.size ↔ s.data.toList = 45 :: t.data.toList) ∧ t.size ≤ s.size := by
  have e1 := Zff s
  have e2 := Zff t
  rcases h with h | ⟨rfl, h⟩
  · have := congrArg List.length h
    rw [List.length_cons] at this
    exact ⟨⟨fun _ => h, fun _ => by omega⟩, by omega⟩
  · exact ⟨⟨fun q => absurd q (Nat.lt_irrefl _), fun q => absurd q (h _)⟩, Nat.le_refl _⟩
theorem Zvu {s : ByteArray} (h0 : 0 < s.size) (h : bAt s 0 = 45) : unS s (s.extract 1 s.size) := by
  have hl := Zff s
  refine .inl ?_
  rw [Lib.extract_data, List.take_of_length_le (by rw [List.length_drop]; omega)]
  cases hq : s.data.toList with
  | nil => rw [hq] at hl; simp at hl; omega
  | cons c r =>
    have : c = 45 := by
      rw [Ztu, hq] at h
      have h : ((c.toNat : Nat) : Int) = 45 := h
      exact UInt8.toNat_inj.1 (show c.toNat = (45 : UInt8).toNat from by have : (45 : UInt8).toNat = 45 := rfl; omega)
    subst this
    rfl
theorem Zlv {s : ByteArray} (h : s.size = 0 ∨ ¬ bAt s 0 = 45) : unS s s := by
  refine .inr ⟨rfl, fun r hr => ?_⟩
  have hl := Zff s
  rcases h with h | h
  · rw [hr] at hl; simp at hl; omega
  · exact h (by rw [Ztu, hr]; rfl)
theorem Yca {l : List UInt8} {k : Nat} (h : k < l.length) : Zsp 0 (l.take (k + 1)) = Zsp 0 (l.take k) * 10 + ((l[k]).toNat - 48) := by
  rw [List.take_succ_eq_append_getElem h]
  unfold Zsp
  rw [List.foldl_append]
  rfl
theorem dcB_dig {s t : ByteArray} (hu : unS s t) (h : dcB s = true) : Zjc t.data.toList := by
  unfold dcB at h
  split at h
  · rename_i n hp
    have q := (of_decide_eq_true h).2
    have hs : s.data.toList = Lib.itoa n := by rw [← q]; simp [Zdz]
    unfold Lib.itoa at hs
    split at hs
    · rcases hu with hu | ⟨rfl, hu⟩
      · rw [hs] at hu
        have : t.data.toList = Lib.decDigits n.natAbs := (List.cons.inj hu).2.symm
        rw [this]; exact Zdv _ _ (Nat.lt_succ_self _)
      · exact absurd hs (hu _)
    · have hd : Zjc s.data.toList := by rw [hs]; exact Zdv _ _ (Nat.lt_succ_self _)
      rcases hu with hu | ⟨rfl, hu⟩
      · have := hd 45 (by rw [hu]; simp)
        exact absurd this (by decide)
      · exact hd
  · cases h
theorem Ycb {s t : ByteArray} (hu : unS s t) (h : ¬ Zjc t.data.toList) : dcB s = false ∧ dcN s = 0 := by
  have e : dcB s = false := by
    cases q : dcB s with
    | false => rfl
    | true => exact absurd (dcB_dig hu q) h
  exact ⟨e, by rw [dcN, e]; rfl⟩
theorem Ycc {s t : ByteArray} (hu : unS s t) (hd : Zjc t.data.toList) (hl : 1 ≤ t.size ∧ t.size ≤ 18) : Lib.parseIntB 64 s.data.toList = .ok (if t.size < s.size then -((Zsp 0 t.data.toList : Nat) : Int) else ((Zsp 0 t.data.toList : Nat) : Int)) := by
  have e2 := Zff t
  rcases hu with h | ⟨rfl, h⟩
  · rw [if_pos ((unS_size (.inl h)).1.2 h), h, Yby hd (by omega)]
  · rw [if_neg (Nat.lt_irrefl _), Ybz hd (by omega)]
theorem Zvv {t : ByteArray} {j : Nat} (h : j < t.size) : bAt t j = (((t.data.toList[j]'(by rw [Zff]; exact h)).toNat : Nat) : Int) := by
  rw [Ztu, List.getD_eq_getElem?_getD, List.getElem?_eq_getElem (by rw [Zff]; exact h)]
  rfl
theorem Zof {t : ByteArray} {k : Nat} (hk : k ≤ t.size) (h : ∀ j, j < k → 48 ≤ bAt t j ∧ bAt t j ≤ 57) : Zjc (t.data.toList.take k) := fun b hb => by
  obtain ⟨j, hj, e⟩ := List.getElem_of_mem hb
  have hl := Zff t
  simp only [List.length_take] at hj
  have q := h j (by omega)
  rw [Zvv (by omega)] at q
  have e2 : t.data.toList[j]'(by omega) = b := by rw [← e]; simp
  rw [e2] at q
  omega
theorem valL_bd {t : ByteArray} {k : Nat} (h : ∀ j, j < k → 48 ≤ bAt t j ∧ bAt t j ≤ 57) (hk : k < t.size) (hl : t.size ≤ 18) : Zsp 0 (t.data.toList.take k) < 100000000000000000 := by
  have q := Zoe _ 0 0 (Zof (by omega) h) (by decide)
  have hl2 := Zff t
  have h2 : 10 ^ (0 + (t.data.toList.take k).length) ≤ 10 ^ 17 := Nat.pow_le_pow_right (by decide) (by rw [List.length_take]; omega)
  have h3 : (10 : Nat) ^ 17 = 100000000000000000 := by decide
  omega
theorem valL_all {t : ByteArray} (h : Zjc t.data.toList) (hl : t.size ≤ 18) : Zsp 0 t.data.toList < 1000000000000000000 := by
  have q := Zoe _ 0 0 h (by decide)
  have hl2 := Zff t
  have h2 : 10 ^ (0 + t.data.toList.length) ≤ 10 ^ 18 := Nat.pow_le_pow_right (by decide) (by omega)
  have h3 : (10 : Nat) ^ 18 = 1000000000000000000 := by decide
  omega
theorem Ycd {t : ByteArray} {k : Nat} (hk : k < t.size) (hd : 48 ≤ bAt t k) : ((Zsp 0 (t.data.toList.take (k + 1)) : Nat) : Int) = 10 * ((Zsp 0 (t.data.toList.take k) : Nat) : Int) + (bAt t k - 48) := by
  rw [Yca (by rw [Zff]; exact hk)]
  rw [Zvv hk] at *
  omega
theorem Zsa {s : ByteArray} (h : s.size = 0) : s = ⟨#[]⟩ := by
  apply ByteArray.ext
  exact Array.eq_empty_of_size_eq_zero h
theorem Zvw (c : UInt8) (s : ByteArray) : Zkd c s ≠ [] := fun e => by
  have h := Zkc (sep := ⟨#[c]⟩) (s := s) rfl
  have h2 : (Lib.splitB ⟨#[c]⟩ 0 (Lib.countB s ⟨#[c]⟩) s).length = 0 := by show (Zkd c s).length = 0; rw [e]; rfl
  omega
theorem Zvx (c : UInt8) : ∀ (n : Nat) (s : ByteArray), s.size ≤ n → jnB ⟨#[c]⟩ (Zkd c s) = s := by
  intro n
  induction n with
  | zero => intro s h; have := Zsa (s := s) (by omega); subst this; rw [Zjr Zog, jnB, Zjd, Zje]
  | succ n ih =>
    intro s h
    by_cases hc : noB c s
    · rw [Zjr hc, jnB, Zjd, Zje]
    · obtain ⟨a, b, e, ha⟩ := List.eq_append_cons_of_mem (Classical.not_not.1 hc)
      have hs : s = ((⟨a.toArray⟩ : ByteArray) ++ ⟨#[c]⟩) ++ (⟨b.toArray⟩ : ByteArray) := by
        apply ByteArray.ext
        apply Array.ext'
        rw [e]; simp
      have hl := congrArg List.length e
      rw [Zff, List.length_append, List.length_cons] at hl
      have hb : (⟨b.toArray⟩ : ByteArray).size ≤ n := by show b.toArray.size ≤ n; rw [List.size_toArray]; omega
      have q := ih ⟨b.toArray⟩ hb
      have hx : Zkd c s = (⟨a.toArray⟩ : ByteArray) :: Zkd c ⟨b.toArray⟩ := by
        rw [hs]; exact Zmw (by unfold noB; simpa using ha)
      rw [hx]
      obtain ⟨y, l, hy⟩ : ∃ y l, Zkd c (⟨b.toArray⟩ : ByteArray) = y :: l := by
        cases hq : Zkd c (⟨b.toArray⟩ : ByteArray) with
        | nil => exact absurd hq (Zvw _ _)
        | cons y l => exact ⟨y, l, rfl⟩
      rw [hy] at q ⊢
      have e2 : jnB ⟨#[c]⟩ ((⟨a.toArray⟩ : ByteArray) :: y :: l) = ((⟨a.toArray⟩ : ByteArray) ++ ⟨#[c]⟩) ++ jnB ⟨#[c]⟩ (y :: l) := by simp only [jnB, Zjd, ByteArray.append_assoc]
      rw [e2, q, ← hs]
theorem Zmh (c : UInt8) : ∀ (k : Nat) (s : ByteArray), ∀ x ∈ Lib.splitB ⟨#[c]⟩ 0 k s, x.size ≤ s.size
  | 0, s, x, h => by rw [Lib.splitB_zero] at h; have := List.mem_singleton.1 h; subst this; exact Nat.le_refl _
  | k + 1, s, x, h => by
    rcases Lib.indexB_cases s ⟨#[c]⟩ with hi | ⟨i, hi, hr⟩
    · rw [Lib.splitB_miss _ _ _ _ hi] at h; have := List.mem_singleton.1 h; subst this; exact Nat.le_refl _
    · rw [Lib.splitB_hit _ _ _ _ _ hi] at h
      rcases List.mem_cons.1 h with h | h
      · subst h; rw [ByteArray.size_extract]; omega
      · have := Zmh c k _ x h
        rw [ByteArray.size_extract] at this
        omega
theorem Zgs {c : UInt8} {s x : ByteArray} (h : x ∈ Zcq ⟨#[c]⟩ s) : x.size ≤ s.size := Zmh c _ s x h
theorem dcB_dec {s : ByteArray} (h : dcB s = true) : Zdz (dcN s) = s := by
  have hN : dcN s = dcV s := if_pos h
  unfold dcB at h
  split at h
  · rename_i n hp
    have q := of_decide_eq_true h
    rw [hN]
    unfold dcV
    rw [hp]
    exact q.2
  · cases h
theorem dcB_num {n : Int} (h : -1000000000000000000 < n ∧ n < 1000000000000000000) : dcB (Zdz n) = true := (Zod (Ztv h) (Yce h) rfl).1
def lnR (s : ByteArray) : List ByteArray × Bool := if s = ⟨#[]⟩ then ([], true) else if sufB s ⟨#[10]⟩ = true then (Zcq ⟨#[10]⟩ (Ztt s ⟨#[10]⟩), true) else ([], false)
theorem Zjs (c : UInt8) (s : ByteArray) : 1 ≤ (Zcq ⟨#[c]⟩ s).length := List.length_pos_iff.2 (Zvw c s)
theorem Ycf (s : ByteArray) : (lnR s).1.length ≤ s.size + 1 ∧ ∀ l ∈ (lnR s).1, l.size ≤ s.size := by
  unfold lnR
  split
  · exact ⟨Nat.zero_le _, fun l h => by cases h⟩
  · split
    · have h1 := Zmx 10 (Ztt s ⟨#[10]⟩)
      have h2 := Ztw s ⟨#[10]⟩
      exact ⟨by show (Zcq _ _).length ≤ _; omega, fun l h => Nat.le_trans (Zgs h) h2⟩
    · exact ⟨Nat.zero_le _, fun l h => by cases h⟩
theorem dcN_num {n : Int} (h : -1000000000000000000 < n ∧ n < 1000000000000000000) : dcN (Zdz n) = n := (Zod (Ztv h) (Yce h) rfl).2
theorem Ycg {s : ByteArray} {c : UInt8} (h : sufB s ⟨#[c]⟩ = true) : ∃ t, s = t ++ (⟨#[c]⟩ : ByteArray) := by
  unfold sufB Lib.hasSuffix at h
  obtain ⟨t, ht⟩ := List.isSuffixOf_iff_suffix.1 h
  refine ⟨⟨t.toArray⟩, ?_⟩
  apply ByteArray.ext
  apply Array.ext'
  simpa using ht.symm
theorem Ztx {α : Type} [Inhabited α] (xs : List α) {k j : Nat} (h : j < k) : at_ (xs.take k) j = at_ xs j := by simp [at_, List.getElem?_take, h]
theorem splC_noB (c : UInt8) : ∀ (n : Nat) (s : ByteArray), s.size ≤ n → ∀ x ∈ Zkd c s, noB c x := by
  intro n
  induction n with
  | zero => intro s h x hx; have := Zsa (s := s) (by omega); subst this; rw [Zjr Zog] at hx; rw [List.mem_singleton.1 hx]; exact Zog
  | succ n ih =>
    intro s h x hx
    by_cases hc : noB c s
    · rw [Zjr hc] at hx; rw [List.mem_singleton.1 hx]; exact hc
    · obtain ⟨a, b, e, ha⟩ := List.eq_append_cons_of_mem (Classical.not_not.1 hc)
      have hs : s = ((⟨a.toArray⟩ : ByteArray) ++ ⟨#[c]⟩) ++ (⟨b.toArray⟩ : ByteArray) := by
        apply ByteArray.ext
        apply Array.ext'
        rw [e]; simp
      have hl := congrArg List.length e
      rw [Zff, List.length_append, List.length_cons] at hl
      have hb : (⟨b.toArray⟩ : ByteArray).size ≤ n := by show b.toArray.size ≤ n; rw [List.size_toArray]; omega
      have hx2 : Zkd c s = (⟨a.toArray⟩ : ByteArray) :: Zkd c ⟨b.toArray⟩ := by
        rw [hs]; exact Zmw (by unfold noB; simpa using ha)
      rw [hx2] at hx
      rcases List.mem_cons.1 hx with rfl | hx
      · unfold noB; simpa using ha
      · exact ih _ hb x hx
theorem Zvy (s : ByteArray) : (at_ (Zcq ⟨#[10]⟩ s) ((Zcq ⟨#[10]⟩ s).length - 1) = ⟨#[]⟩ ∧ lnR s = ((Zcq ⟨#[10]⟩ s).take ((Zcq ⟨#[10]⟩ s).length - 1), true)) ∨ (¬ at_ (Zcq ⟨#[10]⟩ s) ((Zcq ⟨#[10]⟩ s).length - 1) = ⟨#[]⟩ ∧ (lnR s).2 = false) := by
  have hp := Zjs 10 s
  have hj := Zvx 10 s.size s (Nat.le_refl _)
  have hn := splC_noB 10 s.size s (Nat.le_refl _)
  generalize hL : Zcq ⟨#[10]⟩ s = L at hp ⊢
  have hL' : Zkd 10 s = L := hL
  rw [hL'] at hj hn
  have hd : L = L.take (L.length - 1) ++ [at_ L (L.length - 1)] := by
    have h2 := List.take_succ_eq_append_getElem (l := L) (i := L.length - 1) (by omega)
    rw [show L.length - 1 + 1 = L.length from by omega, List.take_length, ← Zex (by omega)] at h2
    exact h2
  generalize at_ L (L.length - 1) = y at hd ⊢
  generalize L.take (L.length - 1) = T at hd ⊢
  subst hd
  have hnT : ∀ x ∈ T, noB 10 x := fun x hx => hn x (List.mem_append_left _ hx)
  have hny : noB 10 y := hn y (by simp)
  by_cases hT : T = []
  · subst hT
    have hs : s = y := by rw [← hj]; simp [jnB, Zjd, Zje]
    by_cases hy : y = ⟨#[]⟩
    · exact .inl ⟨hy, by unfold lnR; rw [if_pos (hs.trans hy)]⟩
    · refine .inr ⟨hy, ?_⟩
      unfold lnR
      rw [if_neg (fun q => hy (hs ▸ q)), if_neg]
      intro q
      obtain ⟨t, ht⟩ := Ycg q
      exact hny (by rw [← hs, ht]; simp)
  · have hs : s = (jnB ⟨#[10]⟩ T ++ ⟨#[10]⟩) ++ y := by rw [← hj]; exact Zsb hT
    by_cases hy : y = ⟨#[]⟩
    · subst hy
      have hs2 : s = jnB ⟨#[10]⟩ T ++ ⟨#[10]⟩ := by rw [hs]; exact Zje _
      refine .inl ⟨rfl, ?_⟩
      unfold lnR
      rw [if_neg (fun q => by have := congrArg ByteArray.size q; rw [hs2, ByteArray.size_append] at this; have h1 : (⟨#[10]⟩ : ByteArray).size = 1 := rfl; have h2 : (⟨#[]⟩ : ByteArray).size = 0 := rfl; omega), hs2, if_pos (Zsc _ _), Zsd]
      congr 1
      exact Zmy (c := 10) hT hnT
    · refine .inr ⟨hy, ?_⟩
      have hz : 0 < y.size := Nat.pos_of_ne_zero fun e => hy (Zsa e)
      unfold lnR
      rw [if_neg (fun q => by have := congrArg ByteArray.size q; rw [hs, ByteArray.size_append] at this; have h2 : (⟨#[]⟩ : ByteArray).size = 0 := rfl; omega), if_neg]
      intro q
      obtain ⟨t, ht⟩ := Ycg q
      have e := congrArg (fun z : ByteArray => z.data.toList) (hs.symm.trans ht)
      simp only [ByteArray.data_append, Array.toList_append] at e
      have hyl : y.data.toList ≠ [] := fun e2 => by have := Zff y; rw [e2] at this; simp at this; omega
      have e3 := congrArg List.getLast? e
      obtain ⟨z, hz2⟩ : ∃ z, y.data.toList.getLast? = some z := by
        cases hq : y.data.toList.getLast? with
        | none => exact absurd (List.getLast?_eq_none_iff.1 hq) hyl
        | some z => exact ⟨z, rfl⟩
      rw [List.getLast?_append, List.getLast?_append, hz2] at e3
      have e4 : z = 10 := by simpa using e3
      have : (10 : UInt8) ∈ y.data.toList := e4 ▸ List.mem_of_getLast? hz2
      exact hny this
theorem linesX_T {T : List ByteArray} {s : ByteArray} (h : lnR s = (T, true)) : Zei T T.length = s := by
  unfold lnR at h
  split at h
  · rename_i h0; have := congrArg Prod.fst h; simp only at this; subst this; rw [h0]; rfl
  · rename_i h0
    split at h
    · rename_i h1
      have hT := congrArg Prod.fst h
      simp only at hT
      obtain ⟨t, ht⟩ := Ycg h1
      rw [ht, Zsd] at hT
      obtain ⟨_, _, e⟩ := Zlw (ls := T) (by rw [← hT]; exact Zvw 10 t)
      rw [e, ← hT, ht]
      congr 1
      exact Zvx 10 t.size t (Nat.le_refl _)
    · have := congrArg Prod.snd h; simp at this
-- impl.linesOf
theorem Zvz (s : ByteArray) (hz : s.size ≤ 10000000) : ∃ (ls : List ByteArray) (k : Bool), (ls = (lnR s).1) ∧ (k = (lnR s).2) ∧ Con Tryz.prog 26 [Sv s] true (.tup [slS true ls, Bv k]) := by
  have hh : ∃ r : (List ByteArray) × Bool, ((r.1 = (lnR s).1) ∧ (r.2 = (lnR s).2) ∧ (True)) ∧ Zaz Tryz.prog 26 [Sv s] (Zaf []) true (.tup [slS true r.1, Bv r.2]) (Zaf []) := by
    refine Zdd (Φ := fun r : (List ByteArray) × Bool => (r.1 = (lnR s).1) ∧ (r.2 = (lnR s).2) ∧ (True)) [] (fun r => []) (fn := Tryz.f26) (nt := 12) Tryz.func26 rfl rfl (args := [Sv s]) rfl (Zbv (.inl ⟨rfl, trivial⟩) Zda) (res := fun r => .tup [slS true r.1, Bv r.2]) ?_
    refine xR [] [0] [] [Sv s] [] [] trivial ?_
    refine Zap ?_
    refine Zap ?_
    by_cases h1 : s = (⟨#[]⟩ : ByteArray)
    ·have hlb : lnR s = ([], true) := if_pos h1
     refine x_r [(1, .dec true)] [0, 5] [] [Sv s, Bv true] [] [s = (⟨#[]⟩ : ByteArray)] ⟨h1, trivial⟩ ?_
     refine Zab ?_
     refine Zbp rfl ?_
     refine xR [] [2, 3] [] [Zao, Bv true] [] [] trivial ?_
     refine Zcd ?_
     refine Zbd ?_
     refine Zbm (([] : List ByteArray), true) (show (([] : List ByteArray) = (lnR s).1) ∧ (true = (lnR s).2) ∧ (True) from ⟨(by first | (rw [hlb]; done)), (by first | (rw [hlb]; done)), trivial⟩) (trivial) (.tup [Zao, Bv true]) (by kernel_rfl) (.inr ⟨⟨rfl, rfl⟩, ⟨rfl, rfl⟩⟩) (fun _ => rfl) (fun _ => (by simp [Zak, Zah, Zep]))
    have hse := h1
    refine x_r [(1, .dec false)] [0, 5] [] [Sv s, Bv false] [] [¬ (s = (⟨#[]⟩ : ByteArray))] ⟨h1, trivial⟩ ?_
    refine Zab ?_
    refine Zbe rfl ?_
    refine Zbz ?_
    refine Zab ?_
    refine Zap ?_
    refine Zap ?_
    rcases Bool.eq_false_or_eq_true (sufB s (⟨#[10]⟩ : ByteArray)) with h2 | h2
    ·have hlb : lnR s = (Zcq ⟨#[10]⟩ (Ztt s ⟨#[10]⟩), true) := by unfold lnR; rw [if_neg hse, if_pos h2]
     refine x_r [(1, .call [(true, .any), (true, .any)] true (Bv true))] [0, 8] [] [Sv s, Bv false] [] [Con Tryz.prog 62 [Sv s, Sv (⟨#[10]⟩ : ByteArray)] true (Bv true) ∧ True] ⟨⟨(Zaq h2 (Zmi s (⟨#[10]⟩ : ByteArray) (by omega))), trivial⟩, trivial⟩ ?_
     refine Zab ?_
     refine Zbe rfl ?_
     refine Zbz ?_
     refine Zab ?_
     refine xR [(1, .call [(true, .any), (true, .any)] true (Sv (Ztt s (⟨#[10]⟩ : ByteArray)))), (2, .call [(true, .any), (true, .any)] true (slS true (Zcq (⟨#[10]⟩ : ByteArray) (Ztt s (⟨#[10]⟩ : ByteArray)))))] [2, 3] [] [slS true (Zcq (⟨#[10]⟩ : ByteArray) (Ztt s (⟨#[10]⟩ : ByteArray))), Bv true] [] [Con Tryz.prog 64 [Sv s, Sv (⟨#[10]⟩ : ByteArray)] true (Sv (Ztt s (⟨#[10]⟩ : ByteArray))) ∧ True, Con Tryz.prog 63 [Sv (Ztt s (⟨#[10]⟩ : ByteArray)), Sv (⟨#[10]⟩ : ByteArray)] true (slS true (Zcq (⟨#[10]⟩ : ByteArray) (Ztt s (⟨#[10]⟩ : ByteArray)))) ∧ True] ⟨⟨(Zry s (⟨#[10]⟩ : ByteArray) (by omega)), trivial⟩, ⟨(Zya (Ztt s (⟨#[10]⟩ : ByteArray)) (⟨#[10]⟩ : ByteArray) ⟨by have := Ztw s ⟨#[10]⟩; omega, trivial⟩ rfl), trivial⟩, trivial⟩ ?_
     refine Zcd ?_
     refine Zbm ((Zcq (⟨#[10]⟩ : ByteArray) (Ztt s (⟨#[10]⟩ : ByteArray))), true) (show ((Zcq (⟨#[10]⟩ : ByteArray) (Ztt s (⟨#[10]⟩ : ByteArray))) = (lnR s).1) ∧ (true = (lnR s).2) ∧ (True) from ⟨(by first | (rw [hlb]; done)), (by first | (rw [hlb]; done)), trivial⟩) (trivial) (.tup [slS true (Zcq (⟨#[10]⟩ : ByteArray) (Ztt s (⟨#[10]⟩ : ByteArray))), Bv true]) (by kernel_rfl) (.inl rfl) (fun _ => rfl) (fun _ => (by simp [Zak, Zah, Zep]))
    have hlb : lnR s = ([], false) := by unfold lnR; rw [if_neg hse, if_neg (by simp [*])]
    refine x_r [(1, .call [(true, .any), (true, .any)] true (Bv false))] [0, 8] [] [Sv s, Bv true] [] [Con Tryz.prog 62 [Sv s, Sv (⟨#[10]⟩ : ByteArray)] true (Bv false) ∧ True] ⟨⟨(Zaq h2 (Zmi s (⟨#[10]⟩ : ByteArray) (by omega))), trivial⟩, trivial⟩ ?_
    refine Zab ?_
    refine Zbp rfl ?_
    refine xR [] [2, 3] [] [Zao, Bv false] [] [] trivial ?_
    refine Zcd ?_
    refine Zbd ?_
    refine Zbm (([] : List ByteArray), false) (show (([] : List ByteArray) = (lnR s).1) ∧ (false = (lnR s).2) ∧ (True) from ⟨(by first | (rw [hlb]; done)), (by first | (rw [hlb]; done)), trivial⟩) (trivial) (.tup [Zao, Bv false]) (by kernel_rfl) (.inr ⟨⟨rfl, rfl⟩, ⟨rfl, rfl⟩⟩) (fun _ => rfl) (fun _ => (by simp [Zak, Zah, Zep]))
  obtain ⟨⟨ls, k⟩, ⟨hh0, hh1, _⟩, hc⟩ := hh
  exact ⟨ls, k, hh0, hh1, hc⟩
-- impl.wordsOf
theorem Zzj (s : ByteArray) (hz : s.size ≤ 10000000) : Con Tryz.prog 27 [Sv s] true (slS true (Zcq ⟨#[32]⟩ s)) := by
  refine Zdb (fn := Tryz.f27) (nt := 5) Tryz.func27 rfl rfl rfl rfl (by simp [Zah, Zak]) fun B hB => ?_
  refine aR [] [0] [] [Sv s] [] [] hB trivial ?_
  refine aR [(1, .call [(true, .any), (true, .any)] true (slS true (Zcq (⟨#[32]⟩ : ByteArray) s)))] [2] [] [slS true (Zcq (⟨#[32]⟩ : ByteArray) s)] [] [Con Tryz.prog 63 [Sv s, Sv (⟨#[32]⟩ : ByteArray)] true (slS true (Zcq (⟨#[32]⟩ : ByteArray) s)) ∧ True] hB ⟨⟨(Zya s (⟨#[32]⟩ : ByteArray) ⟨by omega, trivial⟩ rfl), trivial⟩, trivial⟩ ?_
  refine Zax ?_
  refine Zba hB (slS true (Zcq (⟨#[32]⟩ : ByteArray) s)) (by kernel_rfl) (.inr ⟨(fun _ => rfl), rfl, (by first | rfl | (simp; done) | (simp; omega) | omega), fun i_ hi_ => .inl (by first | rfl | fail)⟩) rfl (fun _ => (Zep true _))
-- impl.ReadDecimal
set_option maxHeartbeats 2000000 in
theorem Zty (n : Int) (h : -9223372036854775808 ≤ n ∧ n ≤ 9223372036854775807) (w : World) (hw : WX w) : Calls Tryz.prog 24 #[.int .i64 n] w fun e w' => e = .returned (.string (Zdz n)) ∧ Below w.heap.size w w' := by
  go_enter Tryz.func24, Tryz.ntmps24
  go_wp2_with (go_at_call 61; refine (Tryz.strconv_FormatInt_10 n h.1 h.2 w (WX_tab hw)).mono ?_; rintro e w' ⟨rfl, k, os, rfl⟩)
  go_ret
  exact ⟨rfl, Lib.below_grow _ _ (Nat.le_refl _) k os⟩
set_option maxHeartbeats 4000000 in
set_option maxRecDepth 100000 in
theorem Zpn (s : ByteArray) (hz : s.size ≤ 140737488 ∧ True) (w : World) (hw : WX w) : Calls Tryz.prog 28 #[.string s] w fun e w' => e = .returned (.tuple #[.int .i64 (dcN s), .bool (dcB s)]) ∧ Below w.heap.size w w' := by
  by_cases ht : 1 ≤ (Lib.trimPrefix s.data.toList [45]).length ∧ (Lib.trimPrefix s.data.toList [45]).length ≤ 18
  · cases hp : Lib.parseIntB 64 s.data.toList with
    | ok n =>
      have hn := pI_bd hp
      by_cases he : Zdz n = s
      · have hr := Zod hp ht he
        rw [hr.1, hr.2]
        go_enter Tryz.func28, Tryz.ntmps28
        go_wp2_with (go_at_call 65; refine (Tryz.strings_TrimPrefix s _ w).mono ?_; rintro e w' ⟨rfl, hw'⟩; rw [hw'])
        clear hw'
        go_wp2_with (go_at_call 66; refine (Tryz.strconv_ParseInt_10_at64_ok s (by omega) n hp w).mono ?_; rintro e w2 ⟨rfl, hw2⟩)
        have hb : Below w.heap.size w w2 := by
          rcases hw2 with rfl | ⟨t, rfl⟩
          · exact Below.refl _ _
          · exact Lib.bytesWorld_below _ _ _
        have hx := Zqt hw w2 hb
        clear hw2
        go_wp2_with (go_at_call 24; refine (Zty n (by omega) w2 hx).mono ?_; rintro e w3 ⟨rfl, hb3⟩)
        go_ret2
        exact ⟨rfl, hb.trans (hb3.mono hb.size)⟩
      · have hr := Ybv hp he
        rw [hr.1, hr.2]
        have hne : ¬ (Zdz n).toList = s.toList := fun q => he (by
          rw [Lib.toList_data, Lib.toList_data] at q
          apply ByteArray.ext
          exact Array.ext' q)
        have hne2 : ((Zdz n).toList == s.toList) = false := beq_eq_false_iff_ne.2 hne
        go_enter Tryz.func28, Tryz.ntmps28
        go_wp2_with (go_at_call 65; refine (Tryz.strings_TrimPrefix s _ w).mono ?_; rintro e w' ⟨rfl, hw'⟩; rw [hw'])
        clear hw'
        go_wp2_with (go_at_call 66; refine (Tryz.strconv_ParseInt_10_at64_ok s (by omega) n hp w).mono ?_; rintro e w2 ⟨rfl, hw2⟩)
        have hb : Below w.heap.size w w2 := by
          rcases hw2 with rfl | ⟨t, rfl⟩
          · exact Below.refl _ _
          · exact Lib.bytesWorld_below _ _ _
        have hx := Zqt hw w2 hb
        clear hw2
        go_wp2_with (go_at_call 24; refine (Zty n (by omega) w2 hx).mono ?_; rintro e w3 ⟨rfl, hb3⟩)
        go_ret2
        exact ⟨rfl, hb.trans (hb3.mono hb.size)⟩
        all_goals (exfalso; first | contradiction | (simp_all; done))
    | «syntax» =>
      have hr := Ybw (s := s) fun n => by rw [hp]; exact fun h => by cases h
      rw [hr.1, hr.2]
      obtain ⟨tp, p, hv⟩ := hw.2.1
      go_enter Tryz.func28, Tryz.ntmps28
      go_wp2_with (go_at_call 65; refine (Tryz.strings_TrimPrefix s _ w).mono ?_; rintro e w' ⟨rfl, hw'⟩; rw [hw'])
      clear hw'
      go_wp2_with (go_at_call 66; refine (Tryz.strconv_ParseInt_10_at64_syntax_var s (by omega) hp tp p w hv).mono ?_; rintro e w2 ⟨N, rfl, _, _, hb⟩)
      go_ret2
      exact ⟨rfl, hb⟩
    | range =>
      have hr := Ybw (s := s) fun n => by rw [hp]; exact fun h => by cases h
      rw [hr.1, hr.2]
      obtain ⟨tp, p, hv⟩ := hw.2.2
      go_enter Tryz.func28, Tryz.ntmps28
      go_wp2_with (go_at_call 65; refine (Tryz.strings_TrimPrefix s _ w).mono ?_; rintro e w' ⟨rfl, hw'⟩; rw [hw'])
      clear hw'
      go_wp2_with (go_at_call 66; refine (Tryz.strconv_ParseInt_10_at64_range_var s (by omega) hp tp p w hv).mono ?_; rintro e w2 ⟨N, rfl, _, _, hb⟩)
      go_ret2
      exact ⟨rfl, hb⟩
  · have hr := Zvs ht
    rw [hr.1, hr.2]
    by_cases h0 : (Lib.trimPrefix s.data.toList [45]).length < 1
    · go_enter Tryz.func28, Tryz.ntmps28
      go_wp2_with (go_at_call 65; refine (Tryz.strings_TrimPrefix s _ w).mono ?_; rintro e w' ⟨rfl, hw'⟩; rw [hw'])
      go_ret2
      exact ⟨rfl, Below.refl _ _⟩
    · have h18 : 18 < (Lib.trimPrefix s.data.toList [45]).length := by omega
      go_enter Tryz.func28, Tryz.ntmps28
      go_wp2_with (go_at_call 65; refine (Tryz.strings_TrimPrefix s _ w).mono ?_; rintro e w' ⟨rfl, hw'⟩; rw [hw'])
      go_ret2
      exact ⟨rfl, Below.refl _ _⟩
theorem Zwa (s : ByteArray) (hz : s.size ≤ 140737488 ∧ True) : Con Tryz.prog 28 [Sv s] true (.tup [I (dcN s), Bv (dcB s)]) :=
  Zse (vals := [.string s]) fun w hw => Zpn s hz w hw
def Zjf (l : ByteArray) : ByteArray := at_ (Zcq ⟨#[32]⟩ l) 0
def Zjg (l : ByteArray) : List Int := ((Zcq ⟨#[32]⟩ l).drop 1).map dcN
def Zlk (ls : List ByteArray) : Perceptron := ⟨ls.map Zjf, ls.map Zjg⟩
def rpI (s : ByteArray) : Perceptron × Bool := if (lnR s).2 = true ∧ Zbb (Zlk (lnR s).1) = true ∧ Zeo (Zlk (lnR s).1) = s then (Zlk (lnR s).1, true) else (⟨[], []⟩, false)
theorem Zqc {s : ByteArray} (h : ¬ ((lnR s).2 = true ∧ Zbb (Zlk (lnR s).1) = true ∧ Zeo (Zlk (lnR s).1) = s)) : rpI s = (⟨[], []⟩, false) := if_neg h
theorem Zwb {s : ByteArray} (h : (lnR s).2 = true ∧ Zbb (Zlk (lnR s).1) = true ∧ Zeo (Zlk (lnR s).1) = s) : rpI s = (Zlk (lnR s).1, true) := if_pos h
def Zoh (l : ByteArray) : Bool := Zik ((Zcq ⟨#[32]⟩ l).length - 1) fun j => dcB (at_ (Zcq ⟨#[32]⟩ l) (j + 1))
def rsC (L : List ByteArray) : Prop := at_ L (L.length - 1) = ⟨#[]⟩ ∧ L.length ≤ 13 ∧ (∀ i, i < L.length - 1 → Zoh (at_ L i) = true) ∧ Zbb (Zlk (L.take (L.length - 1))) = true
open Classical in
noncomputable def rsP (s : ByteArray) : Perceptron × Bool := if rsC (Zcq ⟨#[10]⟩ s) then (Zlk ((Zcq ⟨#[10]⟩ s).take ((Zcq ⟨#[10]⟩ s).length - 1)), true) else (⟨[], []⟩, false)
theorem Zqd {s : ByteArray} (h : ¬ rsC (Zcq ⟨#[10]⟩ s)) : rsP s = (⟨[], []⟩, false) := if_neg h
theorem Ych {s : ByteArray} (h : rsC (Zcq ⟨#[10]⟩ s)) : rsP s = (Zlk ((Zcq ⟨#[10]⟩ s).take ((Zcq ⟨#[10]⟩ s).length - 1)), true) := if_pos h
theorem Yci {ls : List ByteArray} {B : Nat} (h : ∀ l ∈ ls, l.size ≤ B) : ∀ y ∈ (Zlk ls).Labels, y.size ≤ B := fun y hy => by
  obtain ⟨l, hl, rfl⟩ := List.mem_map.1 hy
  exact Nat.le_trans (Zgs (Zcs (Zjs 32 l))) (h l hl)
-- impl.ReadPerceptron
theorem Zfy (s : ByteArray) (hz : s.size ≤ 100000) : ∃ (v : Perceptron) (c : Bool), (v = (rpI s).1) ∧ (c = (rpI s).2) ∧ Con Tryz.prog 9 [Sv s] true (.tup [Zan v, Bv c]) := by
  have hh : ∃ r : Perceptron × Bool, ((r.1 = (rpI s).1) ∧ (r.2 = (rpI s).2) ∧ (True)) ∧ Zaz Tryz.prog 9 [Sv s] (Zaf []) true (.tup [Zan r.1, Bv r.2]) (Zaf []) := by
    refine Zdd (Φ := fun r : Perceptron × Bool => (r.1 = (rpI s).1) ∧ (r.2 = (rpI s).2) ∧ (True)) [] (fun r => []) (fn := Tryz.f9) (nt := 74) Tryz.func9 rfl rfl (args := [Sv s]) rfl (Zbv (.inl ⟨rfl, trivial⟩) Zda) (res := fun r => .tup [Zan r.1, Bv r.2]) ?_
    refine xR [(0, .new 2)] [0, 2] [2] [Sv s, .ref 2 0] [some (.box [Zao, Zao])] [] trivial ?_
    refine Zap ?_
    obtain ⟨ls_1, k_1, hx1_0, hx1_1, hc1⟩ := Zvz s (by omega)
    have hlv : ls_1 = (lnR s).1 := hx1_0
    have hlc : k_1 = (lnR s).2 := hx1_1
    have hll := Ycf s
    rw [← hlv] at hll
    refine x_r [(1, .call [(true, .any)] true (.tup [slS true ls_1, Bv k_1]))] [0, 2, 4, 5] [2] [Sv s, .ref 2 0, slS true ls_1, Bv k_1] [some (.box [Zao, Zao])] [Con Tryz.prog 26 [Sv s] true (.tup [slS true ls_1, Bv k_1]) ∧ True] ⟨⟨hc1, trivial⟩, trivial⟩ ?_
    refine Zab ?_
    refine Zap ?_
    refine Zap ?_
    rcases Bool.eq_false_or_eq_true k_1 with h1 | h1
    ·subst h1
     have hc1 : (lnR s).2 = true := by first | exact hlc.symm | (rw [← hlc]; exact h1)
     refine x_r [] [0, 2, 4, 21] [2] [Sv s, .ref 2 0, slS true ls_1, Bv false] [some (.box [Zao, Zao])] [] trivial ?_
     refine Zab ?_
     refine Zbe rfl ?_
     refine Zbz ?_
     refine Zab ?_
     refine xR [(0, .new 6)] [0, 2, 4, 6] [2, 6] [Sv s, .ref 2 0, slS true ls_1, .ref 6 0] [some (.box [Zao, Zao]), some (.box [Zao, Zao])] [] trivial ?_
     refine Zap ?_
     refine xR [] [0, 2, 6, 23, 24, 25] [2, 6] [Sv s, .ref 2 0, .ref 6 0, slS true ls_1, I (ls_1.length : Int), I 0] [some (.box [Zao, Zao]), some (.box [Zao, Zao])] [] trivial ?_
     refine Zby ?_
     refine Zkk 6 0 760 1 (fun _ => []) rfl (by kernel_rfl) ?_
     refine Zkk 6 1 761 1 (fun _ => []) rfl (by kernel_rfl) ?_
     refine Zyt 9203 1 (fun _ => 0) (fun _ _ => []) (by kernel_rfl) ?_
     refine Zcy [] (T := [(0, Sv s), (2, .ref 2 0), (6, .ref 6 0), (23, slS true ls_1), (24, I (ls_1.length : Int)), (25, I 0)]) (O := [(2, .box [Zao, Zao]), (6, .box [.arr 760, .arr 761]), (760, tAS ([] : List ByteArray)), (761, Zbu 9203 ([] : List (List Int))), (9203, Zbl ([] : List (List Int)))]) rfl (⟨.inl rfl, .inl rfl, .inl rfl, .inl rfl, .inl rfl, .inl rfl, trivial⟩) (⟨.inl rfl, .inl rfl, .inr ⟨rfl, (by first | rfl | (simp; done) | (simp; omega) | omega), fun i_ hi_ => absurd hi_ (Nat.not_lt_zero _)⟩, .inr ⟨rfl, rfl, fun i hi => absurd hi (Nat.not_lt_zero _)⟩, .inr ⟨rfl, rfl, fun p hp => absurd hp (Nat.not_lt_zero _)⟩, trivial⟩) ?_
     refine Zef (X := Int × (List ByteArray) × (List (List Int))) (fun x => mkS [(0, Sv s), (2, .ref 2 0), (6, .ref 6 0), (23, slS true ls_1), (24, I (ls_1.length : Int)), (25, I x.1)] [(2, .box [Zao, Zao]), (6, .box [.arr 760, .arr 761]), (760, tAS x.2.1), (761, Zbu 9203 x.2.2), (9203, Zbl x.2.2)]) (fun x => (0 ≤ x.1 ∧ x.1 ≤ (ls_1.length : Int)) ∧ ((x.2.1.length : Int) = x.1) ∧ ((x.2.2.length : Int) = x.1) ∧ (x.2.1 = (ls_1.take x.1.toNat).map Zjf) ∧ (x.2.2 = (ls_1.take x.1.toNat).map Zjg) ∧ True) (fun x => ((ls_1.length : Int) - x.1).toNat) (0, ([] : List ByteArray), ([] : List (List Int))) rfl (show (0 ≤ (0 : Int) ∧ (0 : Int) ≤ (ls_1.length : Int)) ∧ ((([] : List ByteArray).length : Int) = (0 : Int)) ∧ ((([] : List (List Int)).length : Int) = (0 : Int)) ∧ (([] : List ByteArray) = (ls_1.take (0 : Int).toNat).map Zjf) ∧ (([] : List (List Int)) = (ls_1.take (0 : Int).toNat).map Zjg) ∧ True from ⟨(by omega), (by rfl), (by rfl), (by rfl), (by rfl), trivial⟩) (fun x hI => ?_)
     obtain ⟨k, ls, ws⟩ := x
     obtain ⟨hi0, hl1, hl2, hls, hws, _⟩ : (0 ≤ k ∧ k ≤ (ls_1.length : Int)) ∧ ((ls.length : Int) = k) ∧ ((ws.length : Int) = k) ∧ (ls = (ls_1.take k.toNat).map Zjf) ∧ (ws = (ls_1.take k.toNat).map Zjg) ∧ True := hI
     show XW _ _ _ _ (mkS [(0, Sv s), (2, .ref 2 0), (6, .ref 6 0), (23, slS true ls_1), (24, I (ls_1.length : Int)), (25, I k)] [(2, .box [Zao, Zao]), (6, .box [.arr 760, .arr 761]), (760, tAS ls), (761, Zbu 9203 ws), (9203, Zbl ws)]) _ _
     refine Zap ?_
     by_cases h2 : k < (ls_1.length : Int)
     ·have hi : k.toNat < ls_1.length := by omega
      have hlz := hll.2 _ (Zcs hi)
      have hwp := Zjs 32 (at_ ls_1 k.toNat)
      have hwl := Zmx 32 (at_ ls_1 k.toNat)
      refine x_r [(0, .dec true)] [0, 2, 6, 23, 24, 25, 26] [2, 6, 760, 761, 9203] [Sv s, .ref 2 0, .ref 6 0, slS true ls_1, I (ls_1.length : Int), I k, Bv true] [some (.box [Zao, Zao]), some (.box [.arr 760, .arr 761]), some (tAS ls), some (Zbu 9203 ws), some (Zbl ws)] [k < (ls_1.length : Int)] ⟨h2, trivial⟩ ?_
      refine Zab ?_
      refine Zap ?_
      refine Zbp rfl ?_
      refine Zbz ?_
      refine Zab ?_
      refine Zap ?_
      refine Zby ?_
      refine xR [] [0, 2, 6, 8, 23, 24, 25] [2, 6, 760, 761, 9203] [Sv s, .ref 2 0, .ref 6 0, Sv (at_ ls_1 k.toNat), slS true ls_1, I (ls_1.length : Int), I k] [some (.box [Zao, Zao]), some (.box [.arr 760, .arr 761]), some (tAS ls), some (Zbu 9203 ws), some (Zbl ws)] [(0 : Int) ≤ k ∧ k < (ls_1.length : Int)] ⟨⟨(by omega), (by omega)⟩, trivial⟩ ?_
      refine xR [(1, .call [(true, .any)] true (slS true (Zcq ⟨#[32]⟩ (at_ ls_1 k.toNat))))] [0, 2, 6, 9, 23, 24, 25] [2, 6, 760, 761, 9203] [Sv s, .ref 2 0, .ref 6 0, slS true (Zcq ⟨#[32]⟩ (at_ ls_1 k.toNat)), slS true ls_1, I (ls_1.length : Int), I k] [some (.box [Zao, Zao]), some (.box [.arr 760, .arr 761]), some (tAS ls), some (Zbu 9203 ws), some (Zbl ws)] [Con Tryz.prog 27 [Sv (at_ ls_1 k.toNat)] true (slS true (Zcq ⟨#[32]⟩ (at_ ls_1 k.toNat))) ∧ True] ⟨⟨(Zzj (at_ ls_1 k.toNat) (by first | omega | (refine ⟨?_, trivial⟩; first | omega | (simp only [Zku]; omega) | (rw [Nat.add_comm]; omega)))), trivial⟩, trivial⟩ ?_
      refine xR [] [0, 2, 6, 9, 10, 23, 24, 25] [2, 6, 760, 761, 9203] [Sv s, .ref 2 0, .ref 6 0, slS true (Zcq ⟨#[32]⟩ (at_ ls_1 k.toNat)), Zao, slS true ls_1, I (ls_1.length : Int), I k] [some (.box [Zao, Zao]), some (.box [.arr 760, .arr 761]), some (tAS ls), some (Zbu 9203 ws), some (Zbl ws)] [] trivial ?_
      refine Zap ?_
      refine xR [] [0, 2, 6, 9, 10, 23, 24, 25, 32, 33, 34] [2, 6, 760, 761, 9203] [Sv s, .ref 2 0, .ref 6 0, slS true (Zcq ⟨#[32]⟩ (at_ ls_1 k.toNat)), Zao, slS true ls_1, I (ls_1.length : Int), I k, .sl true 1 ((((Zcq ⟨#[32]⟩ (at_ ls_1 k.toNat)).length) : Int).toNat - 1) (Zpd 1 (fS (Zcq ⟨#[32]⟩ (at_ ls_1 k.toNat)))), I (((((Zcq ⟨#[32]⟩ (at_ ls_1 k.toNat)).length) : Int).toNat - 1 : Nat) : Int), I 0] [some (.box [Zao, Zao]), some (.box [.arr 760, .arr 761]), some (tAS ls), some (Zbu 9203 ws), some (Zbl ws)] [(0 : Int) ≤ 1 ∧ (1 : Int) ≤ (((Zcq ⟨#[32]⟩ (at_ ls_1 k.toNat)).length) : Int) ∧ (((Zcq ⟨#[32]⟩ (at_ ls_1 k.toNat)).length) : Int) ≤ (((Zcq ⟨#[32]⟩ (at_ ls_1 k.toNat)).length) : Int)] ⟨⟨(by omega), (by omega), (by omega)⟩, trivial⟩ ?_
      refine Zby ?_
      refine x_nil 10 710 1 (fun _ => []) (by kernel_rfl) ?_
      refine Zcy [] (T := [(0, Sv s), (2, .ref 2 0), (6, .ref 6 0), (9, slS true (Zcq ⟨#[32]⟩ (at_ ls_1 k.toNat))), (10, .arr 710), (23, slS true ls_1), (24, I (ls_1.length : Int)), (25, I k), (32, .sl true 1 ((((Zcq ⟨#[32]⟩ (at_ ls_1 k.toNat)).length) : Int).toNat - 1) (Zpd 1 (fS (Zcq ⟨#[32]⟩ (at_ ls_1 k.toNat))))), (33, I (((((Zcq ⟨#[32]⟩ (at_ ls_1 k.toNat)).length) : Int).toNat - 1 : Nat) : Int)), (34, I 0)]) (O := [(2, .box [Zao, Zao]), (6, .box [.arr 760, .arr 761]), (710, tAI ([] : List Int)), (760, tAS ls), (761, Zbu 9203 ws), (9203, Zbl ws)]) rfl (⟨.inl rfl, .inl rfl, .inl rfl, .inl rfl, .inl rfl, .inl rfl, .inl rfl, .inl rfl, .inl rfl, .inl rfl, .inl rfl, trivial⟩) (⟨.inl rfl, .inl rfl, .inr ⟨rfl, (by first | rfl | (simp; done) | (simp; omega) | omega), fun i_ hi_ => absurd hi_ (Nat.not_lt_zero _)⟩, .inl rfl, .inl rfl, .inl rfl, trivial⟩) ?_
      refine Zef (X := (List Int) × Int) (fun x => mkS [(0, Sv s), (2, .ref 2 0), (6, .ref 6 0), (9, slS true (Zcq ⟨#[32]⟩ (at_ ls_1 k.toNat))), (10, .arr 710), (23, slS true ls_1), (24, I (ls_1.length : Int)), (25, I k), (32, .sl true 1 ((((Zcq ⟨#[32]⟩ (at_ ls_1 k.toNat)).length) : Int).toNat - 1) (Zpd 1 (fS (Zcq ⟨#[32]⟩ (at_ ls_1 k.toNat))))), (33, I (((((Zcq ⟨#[32]⟩ (at_ ls_1 k.toNat)).length) : Int).toNat - 1 : Nat) : Int)), (34, I x.2)] [(2, .box [Zao, Zao]), (6, .box [.arr 760, .arr 761]), (710, tAI x.1), (760, tAS ls), (761, Zbu 9203 ws), (9203, Zbl ws)]) (fun x => (0 ≤ x.2 ∧ x.2 ≤ ((Zcq ⟨#[32]⟩ (at_ ls_1 k.toNat)).length : Int) - 1) ∧ (x.1 = (((Zcq ⟨#[32]⟩ (at_ ls_1 k.toNat)).drop 1).take x.2.toNat).map dcN) ∧ True) (fun x => (((Zcq ⟨#[32]⟩ (at_ ls_1 k.toNat)).length : Int) - x.2).toNat) (([] : List Int), 0) rfl (show (0 ≤ (0 : Int) ∧ (0 : Int) ≤ ((Zcq ⟨#[32]⟩ (at_ ls_1 k.toNat)).length : Int) - 1) ∧ (([] : List Int) = (((Zcq ⟨#[32]⟩ (at_ ls_1 k.toNat)).drop 1).take (0 : Int).toNat).map dcN) ∧ True from ⟨(by omega), (by rfl), trivial⟩) (fun x hI => ?_)
      obtain ⟨row, j⟩ := x
      obtain ⟨hj0, hrw, _⟩ : (0 ≤ j ∧ j ≤ ((Zcq ⟨#[32]⟩ (at_ ls_1 k.toNat)).length : Int) - 1) ∧ (row = (((Zcq ⟨#[32]⟩ (at_ ls_1 k.toNat)).drop 1).take j.toNat).map dcN) ∧ True := hI
      show XW _ _ _ _ (mkS [(0, Sv s), (2, .ref 2 0), (6, .ref 6 0), (9, slS true (Zcq ⟨#[32]⟩ (at_ ls_1 k.toNat))), (10, .arr 710), (23, slS true ls_1), (24, I (ls_1.length : Int)), (25, I k), (32, .sl true 1 ((((Zcq ⟨#[32]⟩ (at_ ls_1 k.toNat)).length) : Int).toNat - 1) (Zpd 1 (fS (Zcq ⟨#[32]⟩ (at_ ls_1 k.toNat))))), (33, I (((((Zcq ⟨#[32]⟩ (at_ ls_1 k.toNat)).length) : Int).toNat - 1 : Nat) : Int)), (34, I j)] [(2, .box [Zao, Zao]), (6, .box [.arr 760, .arr 761]), (710, tAI row), (760, tAS ls), (761, Zbu 9203 ws), (9203, Zbl ws)]) _ _
      refine Zap ?_
      by_cases h3 : j < (((((Zcq ⟨#[32]⟩ (at_ ls_1 k.toNat)).length) : Int).toNat - 1 : Nat) : Int)
      ·have hj : j.toNat + 1 < (Zcq ⟨#[32]⟩ (at_ ls_1 k.toNat)).length := by omega
       have hjz := Zgs (Zcs hj)
       have hrl : row.length = j.toNat := by rw [hrw]; simp only [List.length_map, List.length_take, List.length_drop]; omega
       refine x_r [(0, .dec true)] [0, 2, 6, 9, 10, 23, 24, 25, 32, 33, 34, 35] [2, 6, 710, 760, 761, 9203] [Sv s, .ref 2 0, .ref 6 0, slS true (Zcq ⟨#[32]⟩ (at_ ls_1 k.toNat)), .arr 710, slS true ls_1, I (ls_1.length : Int), I k, .sl true 1 ((((Zcq ⟨#[32]⟩ (at_ ls_1 k.toNat)).length) : Int).toNat - 1) (Zpd 1 (fS (Zcq ⟨#[32]⟩ (at_ ls_1 k.toNat)))), I (((((Zcq ⟨#[32]⟩ (at_ ls_1 k.toNat)).length) : Int).toNat - 1 : Nat) : Int), I j, Bv true] [some (.box [Zao, Zao]), some (.box [.arr 760, .arr 761]), some (tAI row), some (tAS ls), some (Zbu 9203 ws), some (Zbl ws)] [j < (((((Zcq ⟨#[32]⟩ (at_ ls_1 k.toNat)).length) : Int).toNat - 1 : Nat) : Int)] ⟨h3, trivial⟩ ?_
       refine Zab ?_
       refine Zap ?_
       refine Zbp rfl ?_
       refine Zbz ?_
       refine Zab ?_
       refine Zap ?_
       refine Zby ?_
       refine xR [] [0, 2, 6, 9, 10, 12, 23, 24, 25, 32, 33, 34] [2, 6, 710, 760, 761, 9203] [Sv s, .ref 2 0, .ref 6 0, slS true (Zcq ⟨#[32]⟩ (at_ ls_1 k.toNat)), .arr 710, Sv (at_ (Zcq ⟨#[32]⟩ (at_ ls_1 k.toNat)) (1 + j.toNat)), slS true ls_1, I (ls_1.length : Int), I k, .sl true 1 ((((Zcq ⟨#[32]⟩ (at_ ls_1 k.toNat)).length) : Int).toNat - 1) (Zpd 1 (fS (Zcq ⟨#[32]⟩ (at_ ls_1 k.toNat)))), I (((((Zcq ⟨#[32]⟩ (at_ ls_1 k.toNat)).length) : Int).toNat - 1 : Nat) : Int), I j] [some (.box [Zao, Zao]), some (.box [.arr 760, .arr 761]), some (tAI row), some (tAS ls), some (Zbu 9203 ws), some (Zbl ws)] [(0 : Int) ≤ j ∧ j < (((((Zcq ⟨#[32]⟩ (at_ ls_1 k.toNat)).length) : Int).toNat - 1 : Nat) : Int)] ⟨⟨(by omega), (by omega)⟩, trivial⟩ ?_
       refine xR [(1, .call [(true, .any)] true (.tup [I (dcN (at_ (Zcq ⟨#[32]⟩ (at_ ls_1 k.toNat)) (1 + j.toNat))), Bv (dcB (at_ (Zcq ⟨#[32]⟩ (at_ ls_1 k.toNat)) (1 + j.toNat)))]))] [0, 2, 6, 9, 10, 13, 23, 24, 25, 32, 33, 34] [2, 6, 710, 760, 761, 9203] [Sv s, .ref 2 0, .ref 6 0, slS true (Zcq ⟨#[32]⟩ (at_ ls_1 k.toNat)), .arr 710, I (dcN (at_ (Zcq ⟨#[32]⟩ (at_ ls_1 k.toNat)) (1 + j.toNat))), slS true ls_1, I (ls_1.length : Int), I k, .sl true 1 ((((Zcq ⟨#[32]⟩ (at_ ls_1 k.toNat)).length) : Int).toNat - 1) (Zpd 1 (fS (Zcq ⟨#[32]⟩ (at_ ls_1 k.toNat)))), I (((((Zcq ⟨#[32]⟩ (at_ ls_1 k.toNat)).length) : Int).toNat - 1 : Nat) : Int), I j] [some (.box [Zao, Zao]), some (.box [.arr 760, .arr 761]), some (tAI row), some (tAS ls), some (Zbu 9203 ws), some (Zbl ws)] [Con Tryz.prog 28 [Sv (at_ (Zcq ⟨#[32]⟩ (at_ ls_1 k.toNat)) (1 + j.toNat))] true (.tup [I (dcN (at_ (Zcq ⟨#[32]⟩ (at_ ls_1 k.toNat)) (1 + j.toNat))), Bv (dcB (at_ (Zcq ⟨#[32]⟩ (at_ ls_1 k.toNat)) (1 + j.toNat)))]) ∧ True] ⟨⟨(Zwa (at_ (Zcq ⟨#[32]⟩ (at_ ls_1 k.toNat)) (1 + j.toNat)) (by first | omega | (refine ⟨?_, trivial⟩; first | omega | (simp only [Zku]; omega) | (rw [Nat.add_comm]; omega)))), trivial⟩, trivial⟩ ?_
       refine x_r [(2, .new 45), (3, .new 46)] [0, 2, 6, 9, 10, 23, 24, 25, 32, 33, 34] [2, 6, 46, 760, 761, 9203] [Sv s, .ref 2 0, .ref 6 0, slS true (Zcq ⟨#[32]⟩ (at_ ls_1 k.toNat)), .arr 46, slS true ls_1, I (ls_1.length : Int), I k, .sl true 1 ((((Zcq ⟨#[32]⟩ (at_ ls_1 k.toNat)).length) : Int).toNat - 1) (Zpd 1 (fS (Zcq ⟨#[32]⟩ (at_ ls_1 k.toNat)))), I (((((Zcq ⟨#[32]⟩ (at_ ls_1 k.toNat)).length) : Int).toNat - 1 : Nat) : Int), I j] [some (.box [Zao, Zao]), some (.box [.arr 760, .arr 761]), some (.arr 1 (row.length + 1) (Zde row.length (fI row) (Zcv [I (dcN (at_ (Zcq ⟨#[32]⟩ (at_ ls_1 k.toNat)) (1 + j.toNat)))] 1))), some (tAS ls), some (Zbu 9203 ws), some (Zbl ws)] [(row.length + 1) * 8 ≤ 140737488355328] ⟨(by omega), trivial⟩ ?_
       refine Zbq 3 ?_
       refine Zab ?_
       refine x_r [] [0, 2, 6, 9, 10, 23, 24, 25, 32, 33, 34] [2, 6, 46, 760, 761, 9203] [Sv s, .ref 2 0, .ref 6 0, slS true (Zcq ⟨#[32]⟩ (at_ ls_1 k.toNat)), .arr 46, slS true ls_1, I (ls_1.length : Int), I k, .sl true 1 ((((Zcq ⟨#[32]⟩ (at_ ls_1 k.toNat)).length) : Int).toNat - 1) (Zpd 1 (fS (Zcq ⟨#[32]⟩ (at_ ls_1 k.toNat)))), I (((((Zcq ⟨#[32]⟩ (at_ ls_1 k.toNat)).length) : Int).toNat - 1 : Nat) : Int), I (j + 1)] [some (.box [Zao, Zao]), some (.box [.arr 760, .arr 761]), some (.arr 1 (row.length + 1) (Zde row.length (fI row) (Zcv [I (dcN (at_ (Zcq ⟨#[32]⟩ (at_ ls_1 k.toNat)) (1 + j.toNat)))] 1))), some (tAS ls), some (Zbu 9203 ws), some (Zbl ws)] [inR .i64 (j + 1)] ⟨(Zam (by omega) (by omega)), trivial⟩ ?_
       refine Zcw [(710, 46)] (T := [(0, Sv s), (2, .ref 2 0), (6, .ref 6 0), (9, slS true (Zcq ⟨#[32]⟩ (at_ ls_1 k.toNat))), (10, .arr 710), (23, slS true ls_1), (24, I (ls_1.length : Int)), (25, I k), (32, .sl true 1 ((((Zcq ⟨#[32]⟩ (at_ ls_1 k.toNat)).length) : Int).toNat - 1) (Zpd 1 (fS (Zcq ⟨#[32]⟩ (at_ ls_1 k.toNat))))), (33, I (((((Zcq ⟨#[32]⟩ (at_ ls_1 k.toNat)).length) : Int).toNat - 1 : Nat) : Int)), (34, I (j + 1))]) (O := [(2, .box [Zao, Zao]), (6, .box [.arr 760, .arr 761]), (710, tAI (row ++ [(dcN (at_ (Zcq ⟨#[32]⟩ (at_ ls_1 k.toNat)) (1 + j.toNat)))])), (760, tAS ls), (761, Zbu 9203 ws), (9203, Zbl ws)]) rfl (⟨.inl rfl, .inl rfl, .inl rfl, .inl rfl, .inl rfl, .inl rfl, .inl rfl, .inl rfl, .inl rfl, .inl rfl, .inl rfl, trivial⟩) (⟨.inl rfl, .inl rfl, .inr ⟨rfl, (by first | rfl | (simp; done) | (simp; omega) | omega), fun i_ hi_ => .inl (Zec (enc := cI) (xs := row) rfl i_ hi_)⟩, .inl rfl, .inl rfl, .inl rfl, trivial⟩) (Zch ((row ++ [(dcN (at_ (Zcq ⟨#[32]⟩ (at_ ls_1 k.toNat)) (1 + j.toNat)))]), (j + 1)) rfl (show (0 ≤ (j + 1) ∧ (j + 1) ≤ ((Zcq ⟨#[32]⟩ (at_ ls_1 k.toNat)).length : Int) - 1) ∧ ((row ++ [(dcN (at_ (Zcq ⟨#[32]⟩ (at_ ls_1 k.toNat)) (1 + j.toNat)))]) = (((Zcq ⟨#[32]⟩ (at_ ls_1 k.toNat)).drop 1).take (j + 1).toNat).map dcN) ∧ True from ⟨(by omega), (by rw [hrw]; exact (Zfg (by omega) (by rw [List.length_drop]; omega) (by first | rfl | (rw [Zku]; done) | (rw [Zku, Nat.add_comm]; done))).symm), trivial⟩) (by first | (show ((((Zcq ⟨#[32]⟩ (at_ ls_1 k.toNat)).length : Int) - (j + 1)).toNat : Nat) < (((Zcq ⟨#[32]⟩ (at_ ls_1 k.toNat)).length : Int) - j).toNat; omega) | (dsimp only; omega)))
      have hrf : row = Zjg (at_ ls_1 k.toNat) := by rw [hrw]; exact Ycj (by rw [List.length_drop]; omega)
      refine x_r [(0, .dec false)] [0, 2, 6, 9, 10, 23, 24, 25, 32, 33, 34, 35] [2, 6, 710, 760, 761, 9203] [Sv s, .ref 2 0, .ref 6 0, slS true (Zcq ⟨#[32]⟩ (at_ ls_1 k.toNat)), .arr 710, slS true ls_1, I (ls_1.length : Int), I k, .sl true 1 ((((Zcq ⟨#[32]⟩ (at_ ls_1 k.toNat)).length) : Int).toNat - 1) (Zpd 1 (fS (Zcq ⟨#[32]⟩ (at_ ls_1 k.toNat)))), I (((((Zcq ⟨#[32]⟩ (at_ ls_1 k.toNat)).length) : Int).toNat - 1 : Nat) : Int), I j, Bv false] [some (.box [Zao, Zao]), some (.box [.arr 760, .arr 761]), some (tAI row), some (tAS ls), some (Zbu 9203 ws), some (Zbl ws)] [¬ (j < (((((Zcq ⟨#[32]⟩ (at_ ls_1 k.toNat)).length) : Int).toNat - 1 : Nat) : Int))] ⟨h3, trivial⟩ ?_
      refine Zab ?_
      refine Zap ?_
      refine Zbe rfl ?_
      refine Zee ?_
      refine Zbr ?_
      refine Zbt ?_
      refine Zbs ?_
      refine Zab ?_
      refine xR [(5, .new 53), (6, .new 54)] [0, 2, 6, 10, 23, 24, 25] [2, 6, 54, 710, 761, 9203] [Sv s, .ref 2 0, .ref 6 0, .arr 710, slS true ls_1, I (ls_1.length : Int), I k] [some (.box [Zao, Zao]), some (.box [.arr 54, .arr 761]), some (.arr 1 (ls.length + 1) (Zde ls.length (fS ls) (Zcv [Sv (at_ (Zcq ⟨#[32]⟩ (at_ ls_1 k.toNat)) 0)] 1))), some (tAI row), some (Zbu 9203 ws), some (Zbl ws)] [(0 : Int) ≤ 0 ∧ 0 < (((Zcq ⟨#[32]⟩ (at_ ls_1 k.toNat)).length) : Int), (ls.length + 1) * 16 ≤ 140737488355328] ⟨⟨(by omega), (by omega)⟩, (by omega), trivial⟩ ?_
      refine x_r [(3, .new 59), (4, .new 60)] [0, 2, 6, 23, 24, 25] [2, 6, 54, 60, 710, 9203] [Sv s, .ref 2 0, .ref 6 0, slS true ls_1, I (ls_1.length : Int), I k] [some (.box [Zao, Zao]), some (.box [.arr 54, .arr 60]), some (.arr 1 (ls.length + 1) (Zde ls.length (fS ls) (Zcv [Sv (at_ (Zcq ⟨#[32]⟩ (at_ ls_1 k.toNat)) 0)] 1))), some (.oar [9203, 710] 1 (ws.length + 1) (Zde ws.length (oLI 9203 ws) (Zcv [.arr 710] 1))), some (tAI row), some (Zbl ws)] [(ws.length + 1) * 24 ≤ 140737488355328] ⟨(by omega), trivial⟩ ?_
      refine Zbq 1 ?_
      refine Zab ?_
      refine x_r [] [0, 2, 6, 23, 24, 25] [2, 6, 54, 60, 710, 9203] [Sv s, .ref 2 0, .ref 6 0, slS true ls_1, I (ls_1.length : Int), I (k + 1)] [some (.box [Zao, Zao]), some (.box [.arr 54, .arr 60]), some (.arr 1 (ls.length + 1) (Zde ls.length (fS ls) (Zcv [Sv (at_ (Zcq ⟨#[32]⟩ (at_ ls_1 k.toNat)) 0)] 1))), some (.oar [9203, 710] 1 (ws.length + 1) (Zde ws.length (oLI 9203 ws) (Zcv [.arr 710] 1))), some (tAI row), some (Zbl ws)] [inR .i64 (k + 1)] ⟨(Zam (by omega) (by omega)), trivial⟩ ?_
      refine Zll 710 9203 rfl rfl rfl ?_
      refine Zcw [(760, 54), (761, 60)] (T := [(0, Sv s), (2, .ref 2 0), (6, .ref 6 0), (23, slS true ls_1), (24, I (ls_1.length : Int)), (25, I (k + 1))]) (O := [(2, .box [Zao, Zao]), (6, .box [.arr 760, .arr 761]), (760, tAS (ls ++ [(at_ (Zcq ⟨#[32]⟩ (at_ ls_1 k.toNat)) 0)])), (761, Zbu 9203 (ws ++ [row])), (9203, Zbl (ws ++ [row]))]) rfl (⟨.inl rfl, .inl rfl, .inl rfl, .inl rfl, .inl rfl, .inl rfl, trivial⟩) (⟨.inl rfl, .inl rfl, .inr ⟨rfl, (by first | rfl | (simp; done) | (simp; omega) | omega), fun i_ hi_ => .inl (Zec (enc := cS) (xs := ls) rfl i_ hi_)⟩, .inr ⟨rfl, rfl, (by simp), fun i hi => .inl (Zqe rfl rfl rfl i hi)⟩, .inr (Zqf row (by first | rfl | (simp; done)) (fun i _ => rfl)), trivial⟩) (Zch ((k + 1), (ls ++ [(at_ (Zcq ⟨#[32]⟩ (at_ ls_1 k.toNat)) 0)]), (ws ++ [row])) rfl (show (0 ≤ (k + 1) ∧ (k + 1) ≤ (ls_1.length : Int)) ∧ (((ls ++ [(at_ (Zcq ⟨#[32]⟩ (at_ ls_1 k.toNat)) 0)]).length : Int) = (k + 1)) ∧ (((ws ++ [row]).length : Int) = (k + 1)) ∧ ((ls ++ [(at_ (Zcq ⟨#[32]⟩ (at_ ls_1 k.toNat)) 0)]) = (ls_1.take (k + 1).toNat).map Zjf) ∧ ((ws ++ [row]) = (ls_1.take (k + 1).toNat).map Zjg) ∧ True from ⟨(by omega), (by simp; omega), (by simp; omega), (by rw [hls]; exact (Zfg (by omega) hi rfl).symm), (by rw [hws]; exact (Zfg (by omega) hi hrf).symm), trivial⟩) (by first | (show (((ls_1.length : Int) - (k + 1)).toNat : Nat) < ((ls_1.length : Int) - k).toNat; omega) | (dsimp only; omega)))
     have hfin : Perceptron.mk ls ws = Zlk (lnR s).1 := by rw [hls, hws, List.take_of_length_le (by omega), hlv]; rfl
     have hsz9 : ∀ y ∈ ls, y.size ≤ 9223372036854775807 := fun y hy => by have q := Yci (Ycf s).2 y (by rw [← hfin]; exact hy); omega
     refine x_r [(0, .dec false)] [0, 2, 6, 23, 24, 25, 26] [2, 6, 760, 761, 9203] [Sv s, .ref 2 0, .ref 6 0, slS true ls_1, I (ls_1.length : Int), I k, Bv false] [some (.box [Zao, Zao]), some (.box [.arr 760, .arr 761]), some (tAS ls), some (Zbu 9203 ws), some (Zbl ws)] [¬ (k < (ls_1.length : Int))] ⟨h2, trivial⟩ ?_
     refine Zab ?_
     refine Zap ?_
     refine Zbe rfl ?_
     refine Zee ?_
     refine Zbr ?_
     refine Zbt ?_
     refine Zbs ?_
     refine Zab ?_
     refine Zap ?_
     refine Zap ?_
     rcases Bool.eq_false_or_eq_true (Zbb (Perceptron.mk ls ws)) with h4 | h4
     ·have hc2 : Zbb (Zlk (lnR s).1) = true := by rw [← hfin]; exact h4
      by_cases h5 : (Zeo (Perceptron.mk ls ws)) = s
      ·have hst := Zwb (s := s) ⟨hc1, hc2, by rw [← hfin]; exact h5⟩
       refine x_r [(1, .call [(false, .agg [slS false ls, Zbg false ws])] true (Bv true)), (5, .call [(false, .agg [slS false ls, Zbg false ws])] true (Sv (Zeo (Perceptron.mk ls ws)))), (7, .dec false)] [2, 6, 71] [2, 6, 760, 761, 9203] [.ref 2 0, .ref 6 0, Bv false] [some (.box [Zao, Zao]), some (.box [.arr 760, .arr 761]), some (tAS ls), some (Zbu 9203 ws), some (Zbl ws)] [Con Tryz.prog 14 [.agg [slS false ls, Zbg false ws]] true (Bv true) ∧ (((false = true → true = true) ∧ 1 = 1 ∧ ls.length = ls.length ∧ ∀ i_, i_ < ls.length → (fS ls) i_ = (fS ls) i_ ∨ (AV.idsL ((fS ls) i_) = [] ∧ leL (fun _ => none) false ((fS ls) i_) ((fS ls) i_))) ∧ ((false = true → true = true) ∧ 1 = 1 ∧ ws.length = ws.length ∧ ∀ i_, i_ < ws.length → AV.idsL ((fLI false ws) i_) = [] ∧ leL (Zaf [(9203, Zbl ws)]) true ((oLI 9203 ws) i_) ((fLI false ws) i_)) ∧ ([] : List AV) = []) ∧ True, Con Tryz.prog 8 [.agg [slS false ls, Zbg false ws]] true (Sv (Zeo (Perceptron.mk ls ws))) ∧ (((false = true → true = true) ∧ 1 = 1 ∧ ls.length = ls.length ∧ ∀ i_, i_ < ls.length → (fS ls) i_ = (fS ls) i_ ∨ (AV.idsL ((fS ls) i_) = [] ∧ leL (fun _ => none) false ((fS ls) i_) ((fS ls) i_))) ∧ ((false = true → true = true) ∧ 1 = 1 ∧ ws.length = ws.length ∧ ∀ i_, i_ < ws.length → AV.idsL ((fLI false ws) i_) = [] ∧ leL (Zaf [(9203, Zbl ws)]) true ((oLI 9203 ws) i_) ((fLI false ws) i_)) ∧ ([] : List AV) = []) ∧ True, ¬ ((Zeo (Perceptron.mk ls ws)) ≠ s)] ⟨⟨(Zaq h4 (Zbk (Perceptron.mk ls ws) hsz9)), ⟨⟨(fun h => by cases h), rfl, rfl, fun i _ => .inl rfl⟩, ⟨⟨(fun h => by cases h), rfl, rfl, Zfv _ _ rfl⟩, rfl⟩⟩, trivial⟩, ⟨(Zeq (Perceptron.mk ls ws) hsz9), ⟨⟨(fun h => by cases h), rfl, rfl, fun i _ => .inl rfl⟩, ⟨⟨(fun h => by cases h), rfl, rfl, Zfv _ _ rfl⟩, rfl⟩⟩, trivial⟩, (fun hq => hq h5), trivial⟩ ?_
       refine Zab ?_
       refine Zbe rfl ?_
       refine Zbz ?_
       refine Zab ?_
       refine xR [] [2, 3] [2, 760, 761, 9203] [.ref 2 0, Bv true] [some (.box [.arr 760, .arr 761]), some (tAS ls), some (Zbu 9203 ws), some (Zbl ws)] [] trivial ?_
       refine Zcd ?_
       refine Zbm ((Perceptron.mk ls ws), true) (show ((Perceptron.mk ls ws) = (rpI s).1) ∧ (true = (rpI s).2) ∧ (True) from ⟨(by first | (rw [hst]; done) | (rw [hst]; exact hfin) | (rw [hst, ← hfin]; done)), (by first | (rw [hst]; done) | (rw [hst]; exact hfin) | (rw [hst, ← hfin]; done)), trivial⟩) (trivial) (.tup [.agg [.arr 760, .arr 761], Bv true]) (by kernel_rfl) (.inr ⟨⟨⟨(fun _ => rfl), rfl, rfl, fun i _ => .inl rfl⟩, ⟨⟨(fun _ => rfl), rfl, rfl, Zfv _ _ rfl⟩, rfl⟩⟩, ⟨rfl, rfl⟩⟩) (fun _ => rfl) (fun _ => (by simp [Zak, Zah, Zdc, Zep]))
      have hst := Zqc (s := s) (fun q => by have q1 := q.2.2; rw [← hfin] at q1; exact h5 q1)
      refine x_r [(1, .call [(false, .agg [slS false ls, Zbg false ws])] true (Bv true)), (5, .call [(false, .agg [slS false ls, Zbg false ws])] true (Sv (Zeo (Perceptron.mk ls ws)))), (7, .dec true)] [2, 6, 71] [2, 6, 760, 761, 9203] [.ref 2 0, .ref 6 0, Bv true] [some (.box [Zao, Zao]), some (.box [.arr 760, .arr 761]), some (tAS ls), some (Zbu 9203 ws), some (Zbl ws)] [Con Tryz.prog 14 [.agg [slS false ls, Zbg false ws]] true (Bv true) ∧ (((false = true → true = true) ∧ 1 = 1 ∧ ls.length = ls.length ∧ ∀ i_, i_ < ls.length → (fS ls) i_ = (fS ls) i_ ∨ (AV.idsL ((fS ls) i_) = [] ∧ leL (fun _ => none) false ((fS ls) i_) ((fS ls) i_))) ∧ ((false = true → true = true) ∧ 1 = 1 ∧ ws.length = ws.length ∧ ∀ i_, i_ < ws.length → AV.idsL ((fLI false ws) i_) = [] ∧ leL (Zaf [(9203, Zbl ws)]) true ((oLI 9203 ws) i_) ((fLI false ws) i_)) ∧ ([] : List AV) = []) ∧ True, Con Tryz.prog 8 [.agg [slS false ls, Zbg false ws]] true (Sv (Zeo (Perceptron.mk ls ws))) ∧ (((false = true → true = true) ∧ 1 = 1 ∧ ls.length = ls.length ∧ ∀ i_, i_ < ls.length → (fS ls) i_ = (fS ls) i_ ∨ (AV.idsL ((fS ls) i_) = [] ∧ leL (fun _ => none) false ((fS ls) i_) ((fS ls) i_))) ∧ ((false = true → true = true) ∧ 1 = 1 ∧ ws.length = ws.length ∧ ∀ i_, i_ < ws.length → AV.idsL ((fLI false ws) i_) = [] ∧ leL (Zaf [(9203, Zbl ws)]) true ((oLI 9203 ws) i_) ((fLI false ws) i_)) ∧ ([] : List AV) = []) ∧ True, (Zeo (Perceptron.mk ls ws)) ≠ s] ⟨⟨(Zaq h4 (Zbk (Perceptron.mk ls ws) hsz9)), ⟨⟨(fun h => by cases h), rfl, rfl, fun i _ => .inl rfl⟩, ⟨⟨(fun h => by cases h), rfl, rfl, Zfv _ _ rfl⟩, rfl⟩⟩, trivial⟩, ⟨(Zeq (Perceptron.mk ls ws) hsz9), ⟨⟨(fun h => by cases h), rfl, rfl, fun i _ => .inl rfl⟩, ⟨⟨(fun h => by cases h), rfl, rfl, Zfv _ _ rfl⟩, rfl⟩⟩, trivial⟩, h5, trivial⟩ ?_
      refine Zab ?_
      refine Zbp rfl ?_
      refine xR [] [2, 3] [2] [.ref 2 0, Bv false] [some (.box [Zao, Zao])] [] trivial ?_
      refine Zcd ?_
      refine Zbd ?_
      refine Zbm ((Perceptron.mk ([] : List ByteArray) ([] : List (List Int))), false) (show ((Perceptron.mk ([] : List ByteArray) ([] : List (List Int))) = (rpI s).1) ∧ (false = (rpI s).2) ∧ (True) from ⟨(by first | (rw [hst]; done) | (rw [hst]; exact hfin) | (rw [hst, ← hfin]; done)), (by first | (rw [hst]; done) | (rw [hst]; exact hfin) | (rw [hst, ← hfin]; done)), trivial⟩) (trivial) (.tup [.agg [Zao, Zao], Bv false]) (by kernel_rfl) (.inr ⟨⟨⟨rfl, rfl⟩, ⟨⟨rfl, rfl⟩, rfl⟩⟩, ⟨rfl, rfl⟩⟩) (fun _ => rfl) (fun _ => (by simp [Zak, Zah, Zdc, Zep]))
     have hst := Zqc (s := s) (fun q => by have q1 := q.2.1; rw [← hfin] at q1; rw [h4] at q1; cases q1)
     refine x_r [(1, .call [(false, .agg [slS false ls, Zbg false ws])] true (Bv false))] [2, 6, 71] [2, 6, 760, 761, 9203] [.ref 2 0, .ref 6 0, Bv true] [some (.box [Zao, Zao]), some (.box [.arr 760, .arr 761]), some (tAS ls), some (Zbu 9203 ws), some (Zbl ws)] [Con Tryz.prog 14 [.agg [slS false ls, Zbg false ws]] true (Bv false) ∧ (((false = true → true = true) ∧ 1 = 1 ∧ ls.length = ls.length ∧ ∀ i_, i_ < ls.length → (fS ls) i_ = (fS ls) i_ ∨ (AV.idsL ((fS ls) i_) = [] ∧ leL (fun _ => none) false ((fS ls) i_) ((fS ls) i_))) ∧ ((false = true → true = true) ∧ 1 = 1 ∧ ws.length = ws.length ∧ ∀ i_, i_ < ws.length → AV.idsL ((fLI false ws) i_) = [] ∧ leL (Zaf [(9203, Zbl ws)]) true ((oLI 9203 ws) i_) ((fLI false ws) i_)) ∧ ([] : List AV) = []) ∧ True] ⟨⟨(Zaq h4 (Zbk (Perceptron.mk ls ws) hsz9)), ⟨⟨(fun h => by cases h), rfl, rfl, fun i _ => .inl rfl⟩, ⟨⟨(fun h => by cases h), rfl, rfl, Zfv _ _ rfl⟩, rfl⟩⟩, trivial⟩, trivial⟩ ?_
     refine Zab ?_
     refine Zbp rfl ?_
     refine xR [] [2, 3] [2] [.ref 2 0, Bv false] [some (.box [Zao, Zao])] [] trivial ?_
     refine Zcd ?_
     refine Zbd ?_
     refine Zbm ((Perceptron.mk ([] : List ByteArray) ([] : List (List Int))), false) (show ((Perceptron.mk ([] : List ByteArray) ([] : List (List Int))) = (rpI s).1) ∧ (false = (rpI s).2) ∧ (True) from ⟨(by first | (rw [hst]; done) | (rw [hst]; exact hfin) | (rw [hst, ← hfin]; done)), (by first | (rw [hst]; done) | (rw [hst]; exact hfin) | (rw [hst, ← hfin]; done)), trivial⟩) (trivial) (.tup [.agg [Zao, Zao], Bv false]) (by kernel_rfl) (.inr ⟨⟨⟨rfl, rfl⟩, ⟨⟨rfl, rfl⟩, rfl⟩⟩, ⟨rfl, rfl⟩⟩) (fun _ => rfl) (fun _ => (by simp [Zak, Zah, Zdc, Zep]))
    subst h1
    have hst := Zqc (s := s) (fun q => by have q1 := q.1; rw [← hlc] at q1; first | cases q1 | exact h1 q1)
    refine x_r [] [0, 2, 4, 21] [2] [Sv s, .ref 2 0, slS true ls_1, Bv true] [some (.box [Zao, Zao])] [] trivial ?_
    refine Zab ?_
    refine Zbp rfl ?_
    refine xR [] [2, 3] [2] [.ref 2 0, Bv false] [some (.box [Zao, Zao])] [] trivial ?_
    refine Zcd ?_
    refine Zbd ?_
    refine Zbm ((Perceptron.mk ([] : List ByteArray) ([] : List (List Int))), false) (show ((Perceptron.mk ([] : List ByteArray) ([] : List (List Int))) = (rpI s).1) ∧ (false = (rpI s).2) ∧ (True) from ⟨(by first | (rw [hst]; done) | (rw [hst]; exact hfin) | (rw [hst, ← hfin]; done)), (by first | (rw [hst]; done) | (rw [hst]; exact hfin) | (rw [hst, ← hfin]; done)), trivial⟩) (trivial) (.tup [.agg [Zao, Zao], Bv false]) (by kernel_rfl) (.inr ⟨⟨⟨rfl, rfl⟩, ⟨⟨rfl, rfl⟩, rfl⟩⟩, ⟨rfl, rfl⟩⟩) (fun _ => rfl) (fun _ => (by simp [Zak, Zah, Zdc, Zep]))
  obtain ⟨⟨v, c⟩, ⟨hh0, hh1, _⟩, hc⟩ := hh
  exact ⟨v, c, hh0, hh1, hc⟩
-- spec.l01Dec
theorem Zjh (n : Int) (hn : -9223372036854775808 ≤ n ∧ n ≤ 9223372036854775807) : Con Tryz.prog 70 [I n] true (Sv (Zdz n)) := by
  have hdl := Zyb 19 n.natAbs (by omega)
  refine Zdb (fn := Tryz.f70) (nt := 34) Tryz.func70 rfl rfl rfl rfl (by simp [Zah, Zak]) fun B hB => ?_
  refine aR [] [0] [] [I n] [] [] hB trivial ?_
  refine aR [(0, .new 6)] [0, 3] [6] [I n, .arr 6] [some (.arr 1 0 (Zcv [] 1))] [] hB trivial ?_
  refine Zal ?_
  refine aR [] [0, 3, 4] [6] [I n, .arr 6, I n] [some (.arr 1 0 (Zcv [] 1))] [] hB trivial ?_
  refine Zbn ?_
  refine Zqx hB [] (T := [(0, I n), (3, .arr 6), (4, I n)]) (O := [(6, Zmz ([] : List Int))]) rfl (⟨.inl rfl, .inl rfl, .inl rfl, trivial⟩) (⟨.inr ⟨rfl, (by first | rfl | (simp; done) | (simp; omega) | omega), fun i_ hi_ => absurd hi_ (Nat.not_lt_zero _)⟩, trivial⟩) ?_
  refine Zdk (fun gn gσ => ∃ (out : List Int) (k : Int), gn = k.natAbs ∧ (Zhl k.natAbs ++ out = Zhl n.natAbs) ∧ (k.natAbs ≤ n.natAbs) ∧ gσ = mkS [(0, I n), (3, .arr 6), (4, I k)] [(6, Zmz out)]) (n.natAbs) ⟨([] : List Int), n, rfl, (by simp), (by omega), rfl⟩ (fun gn gσ hI => ?_)
  obtain ⟨out, k, rfl, hd1, hd2, rfl⟩ := hI
  refine Zal ?_
  refine Zal ?_
  by_cases h1 : k = 0
  ·rw [h1] at hd1
   have hfin : out = Zhl n.natAbs := by simpa [Zhr] using hd1
   subst hfin
   refine Zbx [(1, .dec false)] [0, 3, 4, 9] [6] [I n, .arr 6, I k, Bv false] [some (Zmz (Zhl n.natAbs))] [¬ (k ≠ 0)] hB ⟨(fun hq => hq h1), trivial⟩ ?_
   refine Zac ?_
   refine Zay rfl ?_
   refine Zdl ?_
   refine Zas ?_
   refine Zas ?_
   refine Zbw ?_
   refine Zac ?_
   refine Zal ?_
   refine Zal ?_
   by_cases h2 : (((Zhl n.natAbs).length) : Int) = 0
   ·have hn0 : n = 0 := by have := digs_nil (u := n.natAbs) (by omega); omega
    refine Zbx [(2, .dec true)] [0, 3, 26] [6] [I n, .arr 6, Bv true] [some (Zmz (Zhl n.natAbs))] [(((Zhl n.natAbs).length) : Int) = 0] hB ⟨h2, trivial⟩ ?_
    refine Zac ?_
    refine Zbc rfl ?_
    refine aR [] [2] [] [Sv (⟨#[48]⟩ : ByteArray)] [] [] hB trivial ?_
    refine Zax ?_
    refine Zai ?_
    refine Zba hB (Sv (⟨#[48]⟩ : ByteArray)) (by kernel_rfl) (.inl (by first | (rw [hn0, Zkv]; done) | (rw [Zna (by omega)]; done) | (rw [Znb (by omega)]; done))) rfl (fun _ => trivial)
   have hn0 : n ≠ 0 := by rintro rfl; exact h2 (by simp [Zhr])
   refine Zbx [(2, .dec false)] [0, 3, 26] [6] [I n, .arr 6, Bv false] [some (Zmz (Zhl n.natAbs))] [¬ ((((Zhl n.natAbs).length) : Int) = 0)] hB ⟨h2, trivial⟩ ?_
   refine Zac ?_
   refine Zay rfl ?_
   refine Zbf ?_
   refine Zac ?_
   refine Zal ?_
   refine Zal ?_
   by_cases h3 : n < 0
   ·refine Zbx [(1, .dec true)] [3, 28] [6] [.arr 6, Bv true] [some (Zmz (Zhl n.natAbs))] [n < 0] hB ⟨h3, trivial⟩ ?_
    refine Zac ?_
    refine Zbc rfl ?_
    refine aR [(1, .as (Sv (Zgm (Zhl n.natAbs))))] [2] [] [Sv ((⟨#[45]⟩ : ByteArray) ++ (Zgm (Zhl n.natAbs)))] [] [(Zgm (Zhl n.natAbs)).size = (Zhl n.natAbs).length ∧ ∀ i_, i_ < (Zhl n.natAbs).length → (fU8 (Zhl n.natAbs)) i_ = Zhj (Zgm (Zhl n.natAbs)) i_, (⟨#[45]⟩ : ByteArray).size + (Zgm (Zhl n.natAbs)).size ≤ 9223372036854775807] hB ⟨(Zwc (Yck _)), (by have hq := Zhs (Zhl n.natAbs); have hq2 : (⟨#[45]⟩ : ByteArray).size = 1 := rfl; omega), trivial⟩ ?_
    refine Zax ?_
    refine Zai ?_
    refine Zba hB (Sv ((⟨#[45]⟩ : ByteArray) ++ (Zgm (Zhl n.natAbs)))) (by kernel_rfl) (.inl (by first | (rw [hn0, Zkv]; done) | (rw [Zna (by omega)]; done) | (rw [Znb (by omega)]; done))) rfl (fun _ => trivial)
   refine Zbx [(1, .dec false)] [3, 28] [6] [.arr 6, Bv false] [some (Zmz (Zhl n.natAbs))] [¬ (n < 0)] hB ⟨h3, trivial⟩ ?_
   refine Zac ?_
   refine Zay rfl ?_
   refine Zbf ?_
   refine Zac ?_
   refine aR [(1, .as (Sv (Zgm (Zhl n.natAbs))))] [2] [] [Sv (Zgm (Zhl n.natAbs))] [] [(Zgm (Zhl n.natAbs)).size = (Zhl n.natAbs).length ∧ ∀ i_, i_ < (Zhl n.natAbs).length → (fU8 (Zhl n.natAbs)) i_ = Zhj (Zgm (Zhl n.natAbs)) i_] hB ⟨(Zwc (Yck _)), trivial⟩ ?_
   refine Zax ?_
   refine Zba hB (Sv (Zgm (Zhl n.natAbs))) (by kernel_rfl) (.inl (by first | (rw [hn0, Zkv]; done) | (rw [Zna (by omega)]; done) | (rw [Znb (by omega)]; done))) rfl (fun _ => trivial)
  have hta := Zyc k
  have htb := tmod_abs k
  have hll := congrArg List.length hd1
  simp only [List.length_append] at hll
  have hst : Zhl (Int.tdiv k 10).natAbs ++ ([48 + ((k.natAbs % 10 : Nat) : Int)] ++ out) = Zhl n.natAbs := by rw [← hd1, Zkw (u := k.natAbs) (by omega), Zyc, List.append_assoc]
  refine Zbx [(1, .dec true)] [0, 3, 4, 9] [6] [I n, .arr 6, I k, Bv true] [some (Zmz out)] [k ≠ 0] hB ⟨h1, trivial⟩ ?_
  refine Zac ?_
  refine Zbc rfl ?_
  refine Zbf ?_
  refine Zac ?_
  refine Zal ?_
  refine Zbn ?_
  refine aR [] [0, 3, 4, 5] [6] [I n, .arr 6, I k, I (Int.tmod k 10)] [some (Zmz out)] [(10 : Int) ≠ 0] hB ⟨(by omega), trivial⟩ ?_
  refine Zal ?_
  refine Zal ?_
  by_cases h4 : (Int.tmod k 10) < 0
  ·refine Zbx [(1, .dec true)] [0, 3, 4, 5, 15] [6] [I n, .arr 6, I k, I (Int.tmod k 10), Bv true] [some (Zmz out)] [(Int.tmod k 10) < 0] hB ⟨h4, trivial⟩ ?_
   refine Zac ?_
   refine Zbc rfl ?_
   refine Zbx [] [0, 3, 4, 5] [6] [I n, .arr 6, I k, I (-(Int.tmod k 10))] [some (Zmz out)] [inR .i64 (-(Int.tmod k 10))] hB ⟨(Zam (by omega) (by omega)), trivial⟩ ?_
   refine Zac ?_
   refine Zbx [(3, .new 21), (5, .new 23)] [0, 3, 4] [23] [I n, .arr 23, I k] [some (.arr 1 (1 + out.length) (Zde 1 (Zcv [.val (.int .u8 (48 + (-(Int.tmod k 10))))] 1) (fU8 out)))] [inR .i64 (48 + (-(Int.tmod k 10))), inR .u8 (48 + (-(Int.tmod k 10))), (1 + out.length) * 1 ≤ 140737488355328] hB ⟨(Zam (by omega) (by omega)), (Zxb (by omega) (by omega)), (by omega), trivial⟩ ?_
   refine Zcm 1 ?_
   refine Zac ?_
   refine Zbx [] [0, 3, 4] [23] [I n, .arr 23, I (Int.tdiv k 10)] [some (.arr 1 (1 + out.length) (Zde 1 (Zcv [.val (.int .u8 (48 + (-(Int.tmod k 10))))] 1) (fU8 out)))] [(10 : Int) ≠ 0 ∧ inR .i64 (Int.tdiv k 10)] hB ⟨⟨by omega, (Zam (by omega) (by omega))⟩, trivial⟩ ?_
   refine Zfb hB [(6, 23)] (T := [(0, I n), (3, .arr 6), (4, I (Int.tdiv k 10))]) (O := [(6, Zmz ([(48 + (-(Int.tmod k 10)))] ++ out))]) rfl (⟨.inl rfl, .inl rfl, .inl rfl, trivial⟩) (⟨.inr ⟨rfl, (by first | rfl | (simp; done) | (simp; omega) | omega), fun i_ hi_ => .inl (Ycl (enc := cU8) rfl i_ hi_)⟩, trivial⟩) (Zcp _ (by omega) ⟨([(48 + (-(Int.tmod k 10)))] ++ out), (Int.tdiv k 10), rfl, (by first | (rw [show 48 + Int.tmod k 10 = 48 + ((k.natAbs % 10 : Nat) : Int) from by omega]; exact hst) | (rw [show 48 + -(Int.tmod k 10) = 48 + ((k.natAbs % 10 : Nat) : Int) from by omega]; exact hst)), (by omega), rfl⟩)
  refine Zbx [(1, .dec false)] [0, 3, 4, 5, 15] [6] [I n, .arr 6, I k, I (Int.tmod k 10), Bv false] [some (Zmz out)] [¬ ((Int.tmod k 10) < 0)] hB ⟨h4, trivial⟩ ?_
  refine Zac ?_
  refine Zay rfl ?_
  refine Zbf ?_
  refine Zac ?_
  refine Zbx [(3, .new 21), (5, .new 23)] [0, 3, 4] [23] [I n, .arr 23, I k] [some (.arr 1 (1 + out.length) (Zde 1 (Zcv [.val (.int .u8 (48 + (Int.tmod k 10)))] 1) (fU8 out)))] [inR .i64 (48 + (Int.tmod k 10)), inR .u8 (48 + (Int.tmod k 10)), (1 + out.length) * 1 ≤ 140737488355328] hB ⟨(Zam (by omega) (by omega)), (Zxb (by omega) (by omega)), (by omega), trivial⟩ ?_
  refine Zcm 1 ?_
  refine Zac ?_
  refine Zbx [] [0, 3, 4] [23] [I n, .arr 23, I (Int.tdiv k 10)] [some (.arr 1 (1 + out.length) (Zde 1 (Zcv [.val (.int .u8 (48 + (Int.tmod k 10)))] 1) (fU8 out)))] [(10 : Int) ≠ 0 ∧ inR .i64 (Int.tdiv k 10)] hB ⟨⟨by omega, (Zam (by omega) (by omega))⟩, trivial⟩ ?_
  refine Zfb hB [(6, 23)] (T := [(0, I n), (3, .arr 6), (4, I (Int.tdiv k 10))]) (O := [(6, Zmz ([(48 + (Int.tmod k 10))] ++ out))]) rfl (⟨.inl rfl, .inl rfl, .inl rfl, trivial⟩) (⟨.inr ⟨rfl, (by first | rfl | (simp; done) | (simp; omega) | omega), fun i_ hi_ => .inl (Ycl (enc := cU8) rfl i_ hi_)⟩, trivial⟩) (Zcp _ (by omega) ⟨([(48 + (Int.tmod k 10))] ++ out), (Int.tdiv k 10), rfl, (by first | (rw [show 48 + Int.tmod k 10 = 48 + ((k.natAbs % 10 : Nat) : Int) from by omega]; exact hst) | (rw [show 48 + -(Int.tmod k 10) = 48 + ((k.natAbs % 10 : Nat) : Int) from by omega]; exact hst)), (by omega), rfl⟩)
-- spec.l12Text
theorem Zqg (p : Perceptron) (hok : Zbb p = true) : Con Tryz.prog 30 [.ptr false [slS false p.Labels, Zbg false p.Weights]] true (Sv (Zeo p)) := by
  have hq := okPerc_iff.1 hok
  have hpn := Zki hok
  refine Zdb (fn := Tryz.f30) (nt := 58) Tryz.func30 rfl rfl rfl rfl (by simp [Zah, Zak, Zdc, Zep]) fun B hB => ?_
  refine Zce (x := .ptr false [slS false p.Labels, Zbg false p.Weights]) 0 rfl (fun len_p => ?_)
  simp [Zdr, Zgi, cI, cLI, cS, fI, fLI, fS, slI, Zbg, slS] at len_p
  refine aR [] [0] [] [.ptr false [slS false p.Labels, Zbg false p.Weights]] [] [] hB trivial ?_
  refine aR [(0, .new 6)] [0, 3] [6] [.ptr false [slS false p.Labels, Zbg false p.Weights], .arr 6] [some (.arr 1 0 (Zcv [] 1))] [] hB trivial ?_
  refine Zal ?_
  refine aR [] [0, 3, 4] [6] [.ptr false [slS false p.Labels, Zbg false p.Weights], .arr 6, I 0] [some (.arr 1 0 (Zcv [] 1))] [] hB trivial ?_
  refine Zbn ?_
  refine Zqx hB [] (T := [(0, .ptr false [slS false p.Labels, Zbg false p.Weights]), (3, .arr 6), (4, I 0)]) (O := [(6, Zmz ([] : List Int))]) rfl (⟨.inl rfl, .inl rfl, .inl rfl, trivial⟩) (⟨.inr ⟨rfl, (by first | rfl | (simp; done) | (simp; omega) | omega), fun i_ hi_ => absurd hi_ (Nat.not_lt_zero _)⟩, trivial⟩) ?_
  refine Zdk (fun gn gσ => ∃ (bs : List Int) (i : Int), gn = ((p.Labels.length : Int) - i).toNat ∧ (0 ≤ i ∧ i ≤ (p.Labels.length : Int)) ∧ (Zgm bs = Zei (Zfp p) i.toNat) ∧ (∀ x_ ∈ bs, 0 ≤ x_ ∧ x_ ≤ 255) ∧ gσ = mkS [(0, .ptr false [slS false p.Labels, Zbg false p.Weights]), (3, .arr 6), (4, I i)] [(6, Zmz bs)]) (((p.Labels.length : Int) - 0).toNat) ⟨([] : List Int), 0, rfl, (by omega), (by rfl), (by intro x_ h_; cases h_), rfl⟩ (fun gn gσ hI => ?_)
  obtain ⟨bs, i, rfl, hi0, htx, hbb, rfl⟩ := hI
  refine Zal ?_
  refine Zal ?_
  by_cases h1 : i < (p.Labels.length : Int)
  ·have hi : i.toNat < p.Labels.length := by omega
   have hks : (i + 1).toNat = i.toNat + 1 := by omega
   have hrow := Zct hq.2.2 (j := i.toNat) (by omega)
   have hl1 := lab1 (Zek hq.1 hi)
   have hzl := Zic hok (k := i.toNat) (by omega)
   have hsz := fun j_ : Nat => Zoi (k := j_) (l := at_ p.Labels i.toNat) (by omega) (Zqh hrow) (by omega)
   rw [← htx, Zhs] at hzl
   refine Zbx [(6, .dec true)] [0, 3, 4, 13] [6] [.ptr false [slS false p.Labels, Zbg false p.Weights], .arr 6, I i, Bv true] [some (Zmz bs)] [i < (p.Labels.length : Int)] hB ⟨h1, trivial⟩ ?_
   refine Zac ?_
   refine Zbc rfl ?_
   refine Zbf ?_
   refine Zac ?_
   refine Zal ?_
   refine Zbn ?_
   refine aR [(8, .new 24)] [0, 3, 4] [24] [.ptr false [slS false p.Labels, Zbg false p.Weights], .arr 24, I i] [some (.arr 1 (bs.length + ((at_ p.Labels i.toNat).size)) (Zde bs.length (fU8 bs) (Zhj (at_ p.Labels i.toNat))))] [(0 : Int) ≤ i ∧ i < (p.Labels.length : Int), (bs.length + ((at_ p.Labels i.toNat).size)) * 1 ≤ 140737488355328] hB ⟨⟨(by omega), (by omega)⟩, (by omega), trivial⟩ ?_
   refine Zal ?_
   refine aR [] [0, 3, 4, 5] [24] [.ptr false [slS false p.Labels, Zbg false p.Weights], .arr 24, I i, I 0] [some (.arr 1 (bs.length + ((at_ p.Labels i.toNat).size)) (Zde bs.length (fU8 bs) (Zhj (at_ p.Labels i.toNat))))] [] hB trivial ?_
   refine Zbn ?_
   refine Zqx hB [] (T := [(0, .ptr false [slS false p.Labels, Zbg false p.Weights]), (3, .arr 24), (4, I i), (5, I 0)]) (O := [(24, Zmz (bs ++ (Zgx (at_ p.Labels i.toNat))))]) rfl (⟨.inl rfl, .inl rfl, .inl rfl, .inl rfl, trivial⟩) (⟨.inr ⟨rfl, (by first | rfl | (simp; done) | (simp; omega) | omega), fun i_ hi_ => .inl (Ybu (enc := cU8) (xs := bs) (ys := (Zgx (at_ p.Labels i.toNat))) (by first | rfl | (simp; done) | (simp; omega)) (fun i _ => rfl) (fun i_ hi_ => (Ztz i_ hi_)) i_ hi_)⟩, trivial⟩) ?_
   refine Zdk (fun gn gσ => ∃ (cs : List Int) (k : Int), gn = (((at_ p.Weights i.toNat).length : Int) - k).toNat ∧ (0 ≤ k ∧ k ≤ ((at_ p.Weights i.toNat).length : Int)) ∧ (Zgm cs = Zei (Zfp p) i.toNat ++ jnB ⟨#[32]⟩ (at_ p.Labels i.toNat :: ((at_ p.Weights i.toNat).take k.toNat).map Zdz)) ∧ (∀ x_ ∈ cs, 0 ≤ x_ ∧ x_ ≤ 255) ∧ gσ = mkS [(0, .ptr false [slS false p.Labels, Zbg false p.Weights]), (3, .arr 24), (4, I i), (5, I k)] [(24, Zmz cs)]) ((((at_ p.Weights i.toNat).length : Int) - 0).toNat) ⟨(bs ++ (Zgx (at_ p.Labels i.toNat))), 0, rfl, (by omega), (by rw [Znc, Zoj, htx]; exact congrArg (Zei (Zfp p) i.toNat ++ ·) (pcLn_0 _ _).symm), (by exact Zyd hbb (Zua _)), rfl⟩ (fun gn gσ hI => ?_)
   obtain ⟨cs, k, rfl, hj0, hty, hcb, rfl⟩ := hI
   refine Zal ?_
   refine Zal ?_
   by_cases h2 : k < (((at_ p.Weights i.toNat).length) : Int)
   ·have hzy := congrArg ByteArray.size hty
    rw [ByteArray.size_append] at hzy
    have hzz := hsz k.toNat
    have hzq := Zic hok (k := i.toNat) (by omega)
    rw [Zhs] at hzy
    have hj : k.toNat < (at_ p.Weights i.toNat).length := by omega
    have hwb := hrow.2 k.toNat (by omega)
    have hj1 : (k + 1).toNat = k.toNat + 1 := by omega
    have hpl := pcLn_1 (at_ p.Labels i.toNat) hj
    have hdz := Zok (n := at_ (at_ p.Weights i.toNat) k.toNat) (by omega)
    refine Zbx [(9, .dec true)] [0, 3, 4, 5, 34] [24] [.ptr false [slS false p.Labels, Zbg false p.Weights], .arr 24, I i, I k, Bv true] [some (Zmz cs)] [(0 : Int) ≤ i ∧ i < (p.Weights.length : Int), k < (((at_ p.Weights i.toNat).length) : Int)] hB ⟨⟨(by omega), (by omega)⟩, h2, trivial⟩ ?_
    refine Zac ?_
    refine Zbc rfl ?_
    refine Zbf ?_
    refine Zac ?_
    refine Zal ?_
    refine Zbn ?_
    refine aR [(1, .new 38), (2, .new 39)] [0, 3, 4, 5] [39] [.ptr false [slS false p.Labels, Zbg false p.Weights], .arr 39, I i, I k] [some (.arr 1 (cs.length + 1) (Zde cs.length (fU8 cs) (Zcv [.val (.int .u8 32)] 1)))] [(cs.length + 1) * 1 ≤ 140737488355328] hB ⟨(by omega), trivial⟩ ?_
    refine Zbx [(11, .call [(true, .any)] true (Sv (Zdz (at_ (at_ p.Weights i.toNat) k.toNat)))), (12, .new 52)] [0, 3, 4, 5] [52] [.ptr false [slS false p.Labels, Zbg false p.Weights], .arr 52, I i, I k] [some (.arr 1 ((cs.length + 1) + ((Zdz (at_ (at_ p.Weights i.toNat) k.toNat)).size)) (Zde (cs.length + 1) (Zde cs.length (fU8 cs) (Zcv [.val (.int .u8 32)] 1)) (Zhj (Zdz (at_ (at_ p.Weights i.toNat) k.toNat)))))] [(0 : Int) ≤ i ∧ i < (p.Weights.length : Int), (0 : Int) ≤ k ∧ k < (((at_ p.Weights i.toNat).length) : Int), Con Tryz.prog 70 [I (at_ (at_ p.Weights i.toNat) k.toNat)] true (Sv (Zdz (at_ (at_ p.Weights i.toNat) k.toNat))) ∧ True, ((cs.length + 1) + ((Zdz (at_ (at_ p.Weights i.toNat) k.toNat)).size)) * 1 ≤ 140737488355328] hB ⟨⟨(by omega), (by omega)⟩, ⟨(by omega), (by omega)⟩, ⟨(Zjh (at_ (at_ p.Weights i.toNat) k.toNat) (by omega)), trivial⟩, (by omega), trivial⟩ ?_
    refine Zcm 3 ?_
    refine Zac ?_
    refine Zbx [] [0, 3, 4, 5] [52] [.ptr false [slS false p.Labels, Zbg false p.Weights], .arr 52, I i, I (k + 1)] [some (.arr 1 ((cs.length + 1) + ((Zdz (at_ (at_ p.Weights i.toNat) k.toNat)).size)) (Zde (cs.length + 1) (Zde cs.length (fU8 cs) (Zcv [.val (.int .u8 32)] 1)) (Zhj (Zdz (at_ (at_ p.Weights i.toNat) k.toNat)))))] [inR .i64 (k + 1)] hB ⟨(Zam (by omega) (by omega)), trivial⟩ ?_
    refine Zfb hB [(24, 52)] (T := [(0, .ptr false [slS false p.Labels, Zbg false p.Weights]), (3, .arr 24), (4, I i), (5, I (k + 1))]) (O := [(24, Zmz ((cs ++ [32]) ++ (Zgx (Zdz (at_ (at_ p.Weights i.toNat) k.toNat)))))]) rfl (⟨.inl rfl, .inl rfl, .inl rfl, .inl rfl, trivial⟩) (⟨.inr ⟨rfl, (by first | rfl | (simp; done) | (simp; omega) | omega), fun i_ hi_ => .inl (Ybu (enc := cU8) (xs := (cs ++ [32])) (ys := (Zgx (Zdz (at_ (at_ p.Weights i.toNat) k.toNat)))) (by first | rfl | (simp; done) | (simp; omega)) (fun i_ hi_ => (Zec (enc := cU8) (xs := cs) rfl i_ hi_)) (fun i_ hi_ => (Ztz i_ hi_)) i_ hi_)⟩, trivial⟩) (Zcp _ (by omega) ⟨((cs ++ [32]) ++ (Zgx (Zdz (at_ (at_ p.Weights i.toNat) k.toNat)))), (k + 1), rfl, (by omega), (by rw [hj1, hpl, Znc, Znc, Zoj, hty]; simp only [ByteArray.append_assoc]; rfl), (by exact Zyd (Zyd hcb (fun x_ h_ => by rw [List.mem_singleton] at h_; omega)) (Zua _)), rfl⟩)
   have hzy := congrArg ByteArray.size hty
   rw [ByteArray.size_append] at hzy
   have hzz := hsz k.toNat
   have hzq := Zic hok (k := i.toNat) (by omega)
   rw [Zhs] at hzy
   have hje : Zgm cs = Zei (Zfp p) i.toNat ++ Zzy (at_ p.Labels i.toNat) (at_ p.Weights i.toNat) := by rw [hty, Zsf _ (by omega)]
   refine Zbx [(9, .dec false)] [0, 3, 4, 5, 34] [24] [.ptr false [slS false p.Labels, Zbg false p.Weights], .arr 24, I i, I k, Bv false] [some (Zmz cs)] [(0 : Int) ≤ i ∧ i < (p.Weights.length : Int), ¬ (k < (((at_ p.Weights i.toNat).length) : Int))] hB ⟨⟨(by omega), (by omega)⟩, h2, trivial⟩ ?_
   refine Zac ?_
   refine Zay rfl ?_
   refine Zdl ?_
   refine Zas ?_
   refine Zas ?_
   refine Zbw ?_
   refine Zac ?_
   refine Zbx [(1, .new 54), (2, .new 55)] [0, 3, 4] [55] [.ptr false [slS false p.Labels, Zbg false p.Weights], .arr 55, I i] [some (.arr 1 (cs.length + 1) (Zde cs.length (fU8 cs) (Zcv [.val (.int .u8 10)] 1)))] [(cs.length + 1) * 1 ≤ 140737488355328] hB ⟨(by omega), trivial⟩ ?_
   refine Zcm 1 ?_
   refine Zac ?_
   refine Zbx [] [0, 3, 4] [55] [.ptr false [slS false p.Labels, Zbg false p.Weights], .arr 55, I (i + 1)] [some (.arr 1 (cs.length + 1) (Zde cs.length (fU8 cs) (Zcv [.val (.int .u8 10)] 1)))] [inR .i64 (i + 1)] hB ⟨(Zam (by omega) (by omega)), trivial⟩ ?_
   refine Zfb hB [(6, 55)] (T := [(0, .ptr false [slS false p.Labels, Zbg false p.Weights]), (3, .arr 6), (4, I (i + 1))]) (O := [(6, Zmz (cs ++ [10]))]) rfl (⟨.inl rfl, .inl rfl, .inl rfl, trivial⟩) (⟨.inr ⟨rfl, (by first | rfl | (simp; done) | (simp; omega) | omega), fun i_ hi_ => .inl (Zec (enc := cU8) (xs := cs) rfl i_ hi_)⟩, trivial⟩) (Zcp _ (by omega) ⟨(cs ++ [10]), (i + 1), rfl, (by omega), (by rw [hks, Zei, Zkx hi, Znc, hje]; simp only [ByteArray.append_assoc]; rfl), (by exact Zyd hcb (fun x_ h_ => by rw [List.mem_singleton] at h_; omega)), rfl⟩)
  have hke : i.toNat = p.Labels.length := by omega
  rw [hke] at htx
  refine Zbx [(6, .dec false)] [0, 3, 4, 13] [6] [.ptr false [slS false p.Labels, Zbg false p.Weights], .arr 6, I i, Bv false] [some (Zmz bs)] [¬ (i < (p.Labels.length : Int))] hB ⟨h1, trivial⟩ ?_
  refine Zac ?_
  refine Zay rfl ?_
  refine Zdl ?_
  refine Zas ?_
  refine Zas ?_
  refine Zbw ?_
  refine Zac ?_
  refine aR [(1, .as (Sv (Zgm bs)))] [2] [] [Sv (Zgm bs)] [] [(Zgm bs).size = bs.length ∧ ∀ i_, i_ < bs.length → (fU8 bs) i_ = Zhj (Zgm bs) i_] hB ⟨(Zwc (by first | assumption)), trivial⟩ ?_
  refine Zax ?_
  refine Zba hB (Sv (Zgm bs)) (by kernel_rfl) (.inl (by (rw [Zeo, if_pos hok, htx]))) rfl (fun _ => trivial)
-- spec.l01Spoil
theorem Zwd (s : l00Src) (t : ByteArray) (hs : Zbi s) (ha : s.atx ≤ 3999999999999999000) (ht : t.size ≤ 100000) : ∃ (v : ByteArray) (s' : l00Src), (Zbi s') ∧ (s'.code = s.code) ∧ (s.atx + 0 ≤ s'.atx ∧ s'.atx ≤ s.atx + 200) ∧ (v.size ≤ t.size + 64) ∧ Zaz Tryz.prog 32 [.ref 7001 0, Sv t] (Zaf [(7001, Zaa s)]) true (Sv v) (Zaf [(7001, Zaa s')]) := by
  have hh : ∃ r : ByteArray × l00Src, ((Zbi r.2) ∧ (r.2.code = s.code) ∧ (s.atx + 0 ≤ r.2.atx ∧ r.2.atx ≤ s.atx + 200) ∧ (r.1.size ≤ t.size + 64) ∧ (True)) ∧ Zaz Tryz.prog 32 [.ref 7001 0, Sv t] (Zaf [(7001, Zaa s)]) true (Sv r.1) (Zaf [(7001, Zaa r.2)]) := by
    refine Zdd (Φ := fun r : ByteArray × l00Src => (Zbi r.2) ∧ (r.2.code = s.code) ∧ (s.atx + 0 ≤ r.2.atx ∧ r.2.atx ≤ s.atx + 200) ∧ (r.1.size ≤ t.size + 64) ∧ (True)) [(7001, Zaa s)] (fun r => [(7001, Zaa r.2)]) (fn := Tryz.f32) (nt := 44) Tryz.func32 rfl rfl (args := [.ref 7001 0, Sv t]) rfl (Zbv (.inr trivial) (Zbv (.inl ⟨rfl, trivial⟩) Zda)) (res := fun r => Sv r.1) ?_
    refine xR [] [0, 1] [7001] [.ref 7001 0, Sv t] [some (Zaa s)] [] trivial ?_
    refine Zap ?_
    refine Zap ?_
    obtain ⟨v_1, s'_1, hx1_0, hx1_1, hx1_2, hx1_3, hc1⟩ := Zds s 5 (by first | assumption | (simp only [Zbi] at *; simp_all; done)) (by omega)
    refine x_r [(1, .lend [(7001, Zaa s, Zaa s'_1)] [] [(true, .any), (true, .any)] true (I v_1))] [0, 1, 8] [7001] [.ref 7001 0, Sv t, I v_1] [some (Zaa s'_1)] [Zaz Tryz.prog 48 [.ref 7001 0, I 5] (Zaf [(7001, Zaa s)]) true (I v_1) (Zaf [(7001, Zaa s'_1)]) ∧ (((Zaa s : Ob) = Zaa s ∨ Zes Zej true (Zaa s) (Zaa s)) ∧ Zar false (Zaa s)) ∧ True] ⟨⟨hc1, ⟨.inl rfl, (by simp [Zar, Zah, Zak, Zdh])⟩, trivial⟩, trivial⟩ ?_
    refine Zab ?_
    refine Zby ?_
    refine Zap ?_
    by_cases h1 : v_1 = 0
    ·refine x_r [(0, .dec true)] [0, 1, 8, 9] [7001] [.ref 7001 0, Sv t, I v_1, Bv true] [some (Zaa s'_1)] [v_1 = 0] ⟨h1, trivial⟩ ?_
     refine Zab ?_
     refine Zbp rfl ?_
     refine Zap ?_
     obtain ⟨v_2, s'_2, hx2_0, hx2_1, hx2_2, hx2_3, hc2⟩ := Zds s'_1 ((t.size : Int) + 1) (by first | assumption | (simp only [Zbi] at *; simp_all; done)) (by omega)
     refine x_r [(4, .lend [(7001, Zaa s'_1, Zaa s'_2)] [] [(true, .any), (true, .any)] true (I v_2))] [0, 1, 5] [7001] [.ref 7001 0, Sv t, I v_2] [some (Zaa s'_2)] [inR .i64 ((t.size : Int) + 1), Zaz Tryz.prog 48 [.ref 7001 0, I ((t.size : Int) + 1)] (Zaf [(7001, Zaa s'_1)]) true (I v_2) (Zaf [(7001, Zaa s'_2)]) ∧ (((Zaa s'_1 : Ob) = Zaa s'_1 ∨ Zes Zej true (Zaa s'_1) (Zaa s'_1)) ∧ Zar false (Zaa s'_1)) ∧ True] ⟨(Zam (by omega) (by omega)), ⟨hc2, ⟨.inl rfl, (by simp [Zar, Zah, Zak, Zdh])⟩, trivial⟩, trivial⟩ ?_
     refine Zab ?_
     obtain ⟨v_3, s'_3, hx3_0, hx3_1, hx3_2, hx3_3, hx3_4, hc3⟩ := Ycm s'_2 ([(⟨#[32]⟩ : ByteArray), (⟨#[48]⟩ : ByteArray), (⟨#[45]⟩ : ByteArray), (⟨#[120]⟩ : ByteArray), (⟨#[49]⟩ : ByteArray), (⟨#[57]⟩ : ByteArray), (⟨#[46]⟩ : ByteArray)]) (by first | assumption | (simp only [Zbi] at *; simp_all; done)) (by omega) (by decide)
     refine x_r [(4, .new 20), (5, .lend [(7001, Zaa s'_2, Zaa s'_3)] [] [(true, .any), (false, slS false ([(⟨#[32]⟩ : ByteArray), (⟨#[48]⟩ : ByteArray), (⟨#[45]⟩ : ByteArray), (⟨#[120]⟩ : ByteArray), (⟨#[49]⟩ : ByteArray), (⟨#[57]⟩ : ByteArray), (⟨#[46]⟩ : ByteArray)]))] true (Sv v_3))] [1] [7001] [Sv (((t.extract 0 v_2.toNat) ++ v_3) ++ (t.extract v_2.toNat (t.size : Int).toNat))] [some (Zaa s'_3)] [(0 : Int) ≤ 0 ∧ (0 : Int) ≤ v_2 ∧ v_2 ≤ (t.size : Int), Zaz Tryz.prog 71 [.ref 7001 0, slS false ([(⟨#[32]⟩ : ByteArray), (⟨#[48]⟩ : ByteArray), (⟨#[45]⟩ : ByteArray), (⟨#[120]⟩ : ByteArray), (⟨#[49]⟩ : ByteArray), (⟨#[57]⟩ : ByteArray), (⟨#[46]⟩ : ByteArray)])] (Zaf [(7001, Zaa s'_2)]) true (Sv v_3) (Zaf [(7001, Zaa s'_3)]) ∧ ((false = true → true = true) ∧ 1 = 1 ∧ 7 = (([(⟨#[32]⟩ : ByteArray), (⟨#[48]⟩ : ByteArray), (⟨#[45]⟩ : ByteArray), (⟨#[120]⟩ : ByteArray), (⟨#[49]⟩ : ByteArray), (⟨#[57]⟩ : ByteArray), (⟨#[46]⟩ : ByteArray)]).length) ∧ ∀ i_, i_ < (([(⟨#[32]⟩ : ByteArray), (⟨#[48]⟩ : ByteArray), (⟨#[45]⟩ : ByteArray), (⟨#[120]⟩ : ByteArray), (⟨#[49]⟩ : ByteArray), (⟨#[57]⟩ : ByteArray), (⟨#[46]⟩ : ByteArray)]).length) → (Zcv [Sv (⟨#[32]⟩ : ByteArray), Sv (⟨#[48]⟩ : ByteArray), Sv (⟨#[45]⟩ : ByteArray), Sv (⟨#[120]⟩ : ByteArray), Sv (⟨#[49]⟩ : ByteArray), Sv (⟨#[57]⟩ : ByteArray), Sv (⟨#[46]⟩ : ByteArray)] 1) i_ = (fS ([(⟨#[32]⟩ : ByteArray), (⟨#[48]⟩ : ByteArray), (⟨#[45]⟩ : ByteArray), (⟨#[120]⟩ : ByteArray), (⟨#[49]⟩ : ByteArray), (⟨#[57]⟩ : ByteArray), (⟨#[46]⟩ : ByteArray)])) i_ ∨ (AV.idsL ((fS ([(⟨#[32]⟩ : ByteArray), (⟨#[48]⟩ : ByteArray), (⟨#[45]⟩ : ByteArray), (⟨#[120]⟩ : ByteArray), (⟨#[49]⟩ : ByteArray), (⟨#[57]⟩ : ByteArray), (⟨#[46]⟩ : ByteArray)])) i_) = [] ∧ leL (fun _ => none) false ((Zcv [Sv (⟨#[32]⟩ : ByteArray), Sv (⟨#[48]⟩ : ByteArray), Sv (⟨#[45]⟩ : ByteArray), Sv (⟨#[120]⟩ : ByteArray), Sv (⟨#[49]⟩ : ByteArray), Sv (⟨#[57]⟩ : ByteArray), Sv (⟨#[46]⟩ : ByteArray)] 1) i_) ((fS ([(⟨#[32]⟩ : ByteArray), (⟨#[48]⟩ : ByteArray), (⟨#[45]⟩ : ByteArray), (⟨#[120]⟩ : ByteArray), (⟨#[49]⟩ : ByteArray), (⟨#[57]⟩ : ByteArray), (⟨#[46]⟩ : ByteArray)])) i_))) ∧ (((Zaa s'_2 : Ob) = Zaa s'_2 ∨ Zes Zej true (Zaa s'_2) (Zaa s'_2)) ∧ Zar false (Zaa s'_2)) ∧ True, (t.extract 0 v_2.toNat).size + v_3.size ≤ 9223372036854775807, (0 : Int) ≤ v_2 ∧ v_2 ≤ (t.size : Int) ∧ (t.size : Int) ≤ (t.size : Int), ((t.extract 0 v_2.toNat) ++ v_3).size + (t.extract v_2.toNat (t.size : Int).toNat).size ≤ 9223372036854775807] ⟨⟨(by omega), (by omega), (by omega)⟩, ⟨hc3, ⟨(fun h => by cases h), rfl, (by first | rfl | (simp; done) | (simp; omega) | omega), fun i_ hi_ => .inl (match i_, hi_ with | 0, _ => rfl | 1, _ => rfl | 2, _ => rfl | 3, _ => rfl | 4, _ => rfl | 5, _ => rfl | 6, _ => rfl | (i + 7), h => absurd h (by simp))⟩, ⟨.inl rfl, (by simp [Zar, Zah, Zak, Zdh])⟩, trivial⟩, (by (try simp only [ByteArray.size_append, ByteArray.size_extract]); omega), ⟨(by omega), (by omega), (by omega)⟩, (by (try simp only [ByteArray.size_append, ByteArray.size_extract]); omega), trivial⟩ ?_
     refine Zbq 0 ?_
     refine Zab ?_
     refine xR [] [4] [7001] [Sv (((t.extract 0 v_2.toNat) ++ v_3) ++ (t.extract v_2.toNat (t.size : Int).toNat))] [some (Zaa s'_3)] [] trivial ?_
     refine Zcd ?_
     refine Zbm ((((t.extract 0 v_2.toNat) ++ v_3) ++ (t.extract v_2.toNat (t.size : Int).toNat)), s'_3) (show (Zbi s'_3) ∧ (s'_3.code = s.code) ∧ (s.atx + 0 ≤ s'_3.atx ∧ s'_3.atx ≤ s.atx + 200) ∧ ((((t.extract 0 v_2.toNat) ++ v_3) ++ (t.extract v_2.toNat (t.size : Int).toNat)).size ≤ t.size + 64) ∧ (True) from ⟨(by first | omega | assumption | rfl | (simp only [ByteArray.size_append, ByteArray.size_extract]; omega) | (simp; done) | (simp; omega) | (simp_all; done)), (by first | omega | assumption | rfl | (simp only [ByteArray.size_append, ByteArray.size_extract]; omega) | (simp; done) | (simp; omega) | (simp_all; done)), (by first | omega | assumption | rfl | (simp only [ByteArray.size_append, ByteArray.size_extract]; omega) | (simp; done) | (simp; omega) | (simp_all; done)), (by first | omega | assumption | rfl | (simp only [ByteArray.size_append, ByteArray.size_extract]; omega) | (simp; done) | (simp; omega) | (simp_all; done)), trivial⟩) (⟨.inl rfl, trivial⟩) (Sv (((t.extract 0 v_2.toNat) ++ v_3) ++ (t.extract v_2.toNat (t.size : Int).toNat))) (by kernel_rfl) (.inl rfl) (fun _ => rfl) (fun _ => trivial)
    refine x_r [(0, .dec false)] [0, 1, 8, 9] [7001] [.ref 7001 0, Sv t, I v_1, Bv false] [some (Zaa s'_1)] [¬ (v_1 = 0)] ⟨h1, trivial⟩ ?_
    refine Zab ?_
    refine Zbe rfl ?_
    refine Zap ?_
    by_cases h2 : v_1 = 1
    ·refine x_r [(0, .dec true)] [0, 1, 27] [7001] [.ref 7001 0, Sv t, Bv true] [some (Zaa s'_1)] [v_1 = 1] ⟨h2, trivial⟩ ?_
     refine Zab ?_
     refine Zbp rfl ?_
     refine Zap ?_
     by_cases h3 : t = (⟨#[]⟩ : ByteArray)
     ·refine x_r [(1, .dec false)] [0, 1, 30] [7001] [.ref 7001 0, Sv t, Bv false] [some (Zaa s'_1)] [¬ (t ≠ (⟨#[]⟩ : ByteArray))] ⟨(fun hq => hq h3), trivial⟩ ?_
      refine Zab ?_
      refine Zbe rfl ?_
      refine Zbz ?_
      refine Zbq 0 ?_
      refine Zab ?_
      refine xR [] [4] [7001] [Sv t] [some (Zaa s'_1)] [] trivial ?_
      refine Zcd ?_
      refine Zbm (t, s'_1) (show (Zbi s'_1) ∧ (s'_1.code = s.code) ∧ (s.atx + 0 ≤ s'_1.atx ∧ s'_1.atx ≤ s.atx + 200) ∧ (t.size ≤ t.size + 64) ∧ (True) from ⟨(by first | omega | assumption | rfl | (simp only [ByteArray.size_append, ByteArray.size_extract]; omega) | (simp; done) | (simp; omega) | (simp_all; done)), (by first | omega | assumption | rfl | (simp only [ByteArray.size_append, ByteArray.size_extract]; omega) | (simp; done) | (simp; omega) | (simp_all; done)), (by first | omega | assumption | rfl | (simp only [ByteArray.size_append, ByteArray.size_extract]; omega) | (simp; done) | (simp; omega) | (simp_all; done)), (by first | omega | assumption | rfl | (simp only [ByteArray.size_append, ByteArray.size_extract]; omega) | (simp; done) | (simp; omega) | (simp_all; done)), trivial⟩) (⟨.inl rfl, trivial⟩) (Sv t) (by kernel_rfl) (.inl rfl) (fun _ => rfl) (fun _ => trivial)
     have hs0 : 0 < t.size := Nat.pos_of_ne_zero (fun q => h3 (ByteArray.ext (Array.eq_empty_of_size_eq_zero q)))
     refine x_r [(1, .dec true)] [0, 1, 30] [7001] [.ref 7001 0, Sv t, Bv true] [some (Zaa s'_1)] [t ≠ (⟨#[]⟩ : ByteArray)] ⟨h3, trivial⟩ ?_
     refine Zab ?_
     refine Zbp rfl ?_
     refine Zap ?_
     obtain ⟨v_4, s'_4, hx4_0, hx4_1, hx4_2, hx4_3, hc4⟩ := Zds s'_1 (t.size : Int) (by first | assumption | (simp only [Zbi] at *; simp_all; done)) (by omega)
     refine x_r [(3, .lend [(7001, Zaa s'_1, Zaa s'_4)] [] [(true, .any), (true, .any)] true (I v_4))] [1, 6] [7001] [Sv t, I v_4] [some (Zaa s'_4)] [Zaz Tryz.prog 48 [.ref 7001 0, I (t.size : Int)] (Zaf [(7001, Zaa s'_1)]) true (I v_4) (Zaf [(7001, Zaa s'_4)]) ∧ (((Zaa s'_1 : Ob) = Zaa s'_1 ∨ Zes Zej true (Zaa s'_1) (Zaa s'_1)) ∧ Zar false (Zaa s'_1)) ∧ True] ⟨⟨hc4, ⟨.inl rfl, (by simp [Zar, Zah, Zak, Zdh])⟩, trivial⟩, trivial⟩ ?_
     refine Zab ?_
     refine x_r [] [1] [7001] [Sv ((t.extract 0 v_4.toNat) ++ (t.extract (v_4 + 1).toNat (t.size : Int).toNat))] [some (Zaa s'_4)] [(0 : Int) ≤ 0 ∧ (0 : Int) ≤ v_4 ∧ v_4 ≤ (t.size : Int), inR .i64 (v_4 + 1), (0 : Int) ≤ (v_4 + 1) ∧ (v_4 + 1) ≤ (t.size : Int) ∧ (t.size : Int) ≤ (t.size : Int), (t.extract 0 v_4.toNat).size + (t.extract (v_4 + 1).toNat (t.size : Int).toNat).size ≤ 9223372036854775807] ⟨⟨(by omega), (by omega), (by omega)⟩, (Zam (by omega) (by omega)), ⟨(by omega), (by omega), (by omega)⟩, (by (try simp only [ByteArray.size_append, ByteArray.size_extract]); omega), trivial⟩ ?_
     refine Zbq 0 ?_
     refine Zab ?_
     refine xR [] [4] [7001] [Sv ((t.extract 0 v_4.toNat) ++ (t.extract (v_4 + 1).toNat (t.size : Int).toNat))] [some (Zaa s'_4)] [] trivial ?_
     refine Zcd ?_
     refine Zbm (((t.extract 0 v_4.toNat) ++ (t.extract (v_4 + 1).toNat (t.size : Int).toNat)), s'_4) (show (Zbi s'_4) ∧ (s'_4.code = s.code) ∧ (s.atx + 0 ≤ s'_4.atx ∧ s'_4.atx ≤ s.atx + 200) ∧ (((t.extract 0 v_4.toNat) ++ (t.extract (v_4 + 1).toNat (t.size : Int).toNat)).size ≤ t.size + 64) ∧ (True) from ⟨(by first | omega | assumption | rfl | (simp only [ByteArray.size_append, ByteArray.size_extract]; omega) | (simp; done) | (simp; omega) | (simp_all; done)), (by first | omega | assumption | rfl | (simp only [ByteArray.size_append, ByteArray.size_extract]; omega) | (simp; done) | (simp; omega) | (simp_all; done)), (by first | omega | assumption | rfl | (simp only [ByteArray.size_append, ByteArray.size_extract]; omega) | (simp; done) | (simp; omega) | (simp_all; done)), (by first | omega | assumption | rfl | (simp only [ByteArray.size_append, ByteArray.size_extract]; omega) | (simp; done) | (simp; omega) | (simp_all; done)), trivial⟩) (⟨.inl rfl, trivial⟩) (Sv ((t.extract 0 v_4.toNat) ++ (t.extract (v_4 + 1).toNat (t.size : Int).toNat))) (by kernel_rfl) (.inl rfl) (fun _ => rfl) (fun _ => trivial)
    refine x_r [(0, .dec false)] [0, 1, 27] [7001] [.ref 7001 0, Sv t, Bv false] [some (Zaa s'_1)] [¬ (v_1 = 1)] ⟨h2, trivial⟩ ?_
    refine Zab ?_
    refine Zbe rfl ?_
    refine Zbz ?_
    refine Zbq 0 ?_
    refine Zab ?_
    refine xR [] [4] [7001] [Sv t] [some (Zaa s'_1)] [] trivial ?_
    refine Zcd ?_
    refine Zbm (t, s'_1) (show (Zbi s'_1) ∧ (s'_1.code = s.code) ∧ (s.atx + 0 ≤ s'_1.atx ∧ s'_1.atx ≤ s.atx + 200) ∧ (t.size ≤ t.size + 64) ∧ (True) from ⟨(by first | omega | assumption | rfl | (simp only [ByteArray.size_append, ByteArray.size_extract]; omega) | (simp; done) | (simp; omega) | (simp_all; done)), (by first | omega | assumption | rfl | (simp only [ByteArray.size_append, ByteArray.size_extract]; omega) | (simp; done) | (simp; omega) | (simp_all; done)), (by first | omega | assumption | rfl | (simp only [ByteArray.size_append, ByteArray.size_extract]; omega) | (simp; done) | (simp; omega) | (simp_all; done)), (by first | omega | assumption | rfl | (simp only [ByteArray.size_append, ByteArray.size_extract]; omega) | (simp; done) | (simp; omega) | (simp_all; done)), trivial⟩) (⟨.inl rfl, trivial⟩) (Sv t) (by kernel_rfl) (.inl rfl) (fun _ => rfl) (fun _ => trivial)
  obtain ⟨⟨v, s'⟩, ⟨hh0, hh1, hh2, hh3, _⟩, hc⟩ := hh
  exact ⟨v, s', hh0, hh1, hh2, hh3, hc⟩
-- spec.DrawReadPerceptron
theorem Zin (code : List Int) (hc : (∀ j, j < code.length → 0 ≤ at_ code j ∧ at_ code j ≤ 255) ∧ code.length ≤ 4611686018427387904) : ∃ (v : ByteArray), (v.size ≤ 50000) ∧ Con Tryz.prog 10 [Zgj false code] true (Sv v) := by
  have hh : ∃ r : ByteArray, ((r.size ≤ 50000) ∧ (True)) ∧ Zaz Tryz.prog 10 [Zgj false code] (Zaf []) true (Sv r) (Zaf []) := by
    refine Zdd (Φ := fun r : ByteArray => (r.size ≤ 50000) ∧ (True)) [] (fun r => []) (fn := Tryz.f10) (nt := 17) Tryz.func10 rfl rfl (args := [Zgj false code]) rfl (Zbv (.inl ⟨rfl, Zdh false _⟩) Zda) (res := fun r => Sv r) ?_
    refine xR [] [0] [] [Zgj false code] [] [] trivial ?_
    refine Zap ?_
    obtain ⟨s'_1, hx1_0, hc1⟩ := Zqi code
    have hsrc : Zbi s'_1 := ⟨by rw [hx1_0.1]; exact hc.1, by rw [hx1_0.2]; decide, by rw [hx1_0.1]; exact hc.2⟩
    have hat0 := hx1_0.2
    refine x_r [(1, .lend [] [(7001, Zaa s'_1)] [(true, .any)] false (.ref 7001 0))] [3] [7001] [.ref 7001 0] [some (Zaa s'_1)] [Zaz Tryz.prog 17 [Zgj false code] (Zaf []) false (.ref 7001 0) (Zaf [(7001, Zaa s'_1)]) ∧ True] ⟨⟨hc1, trivial⟩, trivial⟩ ?_
    refine Zab ?_
    refine Zap ?_
    obtain ⟨s'_2, ls_2, ws_2, hx2_0, hx2_1, hx2_2, hx2_3, hc2⟩ := Zqj s'_1 (by first | assumption | (simp only [Zbi] at *; simp_all; done)) (by omega)
    have hok := hx2_3
    have hpz := Zfl (p := Perceptron.mk ls_2 ws_2)
    refine x_r [(1, .lend [(7001, Zaa s'_1, Zaa s'_2)] [(9231, tAS ls_2), (9203, Zbl ws_2), (9232, Zbu 9203 ws_2)] [(true, .any)] false (.agg [.arr 9231, .arr 9232])), (2, .new 4)] [3, 4] [4, 7001, 9203, 9231, 9232] [.ref 7001 0, .ref 4 0] [some (.box [.arr 9231, .arr 9232]), some (Zaa s'_2), some (Zbl ws_2), some (tAS ls_2), some (Zbu 9203 ws_2)] [Zaz Tryz.prog 29 [.ref 7001 0] (Zaf [(7001, Zaa s'_1)]) false (.agg [.arr 9231, .arr 9232]) (Zaf [(7001, Zaa s'_2), (9231, tAS ls_2), (9203, Zbl ws_2), (9232, Zbu 9203 ws_2)]) ∧ (((Zaa s'_1 : Ob) = Zaa s'_1 ∨ Zes Zej true (Zaa s'_1) (Zaa s'_1)) ∧ Zar false (Zaa s'_1)) ∧ True] ⟨⟨hc2, ⟨.inl rfl, (by simp [Zar, Zah, Zak, Zdh])⟩, trivial⟩, trivial⟩ ?_
    refine Zab ?_
    refine xR [(0, .call [(false, .ptr false [slS false ls_2, Zbg false ws_2])] true (Sv (Zeo (Perceptron.mk ls_2 ws_2))))] [3, 5] [7001] [.ref 7001 0, Sv (Zeo (Perceptron.mk ls_2 ws_2))] [some (Zaa s'_2)] [Con Tryz.prog 30 [.ptr false [slS false ls_2, Zbg false ws_2]] true (Sv (Zeo (Perceptron.mk ls_2 ws_2))) ∧ ((false = true → true = true) ∧ AV.idsL [slS false ls_2, Zbg false ws_2] = [] ∧ ((false = true → true = true) ∧ 1 = 1 ∧ ls_2.length = ls_2.length ∧ ∀ i_, i_ < ls_2.length → (fS ls_2) i_ = (fS ls_2) i_ ∨ (AV.idsL ((fS ls_2) i_) = [] ∧ leL (fun _ => none) false ((fS ls_2) i_) ((fS ls_2) i_))) ∧ ((false = true → true = true) ∧ 1 = 1 ∧ ws_2.length = ws_2.length ∧ ∀ i_, i_ < ws_2.length → AV.idsL ((fLI false ws_2) i_) = [] ∧ leL (Zaf [(9203, Zbl ws_2)]) true ((oLI 9203 ws_2) i_) ((fLI false ws_2) i_)) ∧ ([] : List AV) = []) ∧ True] ⟨⟨(Zqg (Perceptron.mk ls_2 ws_2) (by assumption)), ⟨(fun h => by cases h), rfl, ⟨⟨(fun h => by cases h), rfl, rfl, fun i _ => .inl rfl⟩, ⟨⟨(fun h => by cases h), rfl, rfl, Zfv _ _ rfl⟩, rfl⟩⟩⟩, trivial⟩, trivial⟩ ?_
    refine Zap ?_
    refine Zap ?_
    obtain ⟨v_3, s'_3, hx3_0, hx3_1, hx3_2, hc3⟩ := Zye s'_2 3 (by first | assumption | (simp only [Zbi] at *; simp_all; done)) (by omega)
    rcases Bool.eq_false_or_eq_true v_3 with h1 | h1
    ·subst h1
     refine x_r [(1, .lend [(7001, Zaa s'_2, Zaa s'_3)] [] [(true, .any), (true, .any)] true (Bv true))] [3, 5, 12] [7001] [.ref 7001 0, Sv (Zeo (Perceptron.mk ls_2 ws_2)), Bv true] [some (Zaa s'_3)] [Zaz Tryz.prog 31 [.ref 7001 0, I 3] (Zaf [(7001, Zaa s'_2)]) true (Bv true) (Zaf [(7001, Zaa s'_3)]) ∧ (((Zaa s'_2 : Ob) = Zaa s'_2 ∨ Zes Zej true (Zaa s'_2) (Zaa s'_2)) ∧ Zar false (Zaa s'_2)) ∧ True] ⟨⟨hc3, ⟨.inl rfl, (by simp [Zar, Zah, Zak, Zdh])⟩, trivial⟩, trivial⟩ ?_
     refine Zab ?_
     refine Zbp rfl ?_
     refine Zap ?_
     obtain ⟨v_4, s'_4, hx4_0, hx4_1, hx4_2, hx4_3, hc4⟩ := Zwd s'_3 (Zeo (Perceptron.mk ls_2 ws_2)) (by first | assumption | (simp only [Zbi] at *; simp_all; done)) (by omega) (Nat.le_trans Zfl (by decide))
     refine x_r [(2, .lend [(7001, Zaa s'_3, Zaa s'_4)] [] [(true, .any), (true, .any)] true (Sv v_4))] [2] [] [Sv v_4] [] [Zaz Tryz.prog 32 [.ref 7001 0, Sv (Zeo (Perceptron.mk ls_2 ws_2))] (Zaf [(7001, Zaa s'_3)]) true (Sv v_4) (Zaf [(7001, Zaa s'_4)]) ∧ (((Zaa s'_3 : Ob) = Zaa s'_3 ∨ Zes Zej true (Zaa s'_3) (Zaa s'_3)) ∧ Zar false (Zaa s'_3)) ∧ True] ⟨⟨hc4, ⟨.inl rfl, (by simp [Zar, Zah, Zak, Zdh])⟩, trivial⟩, trivial⟩ ?_
     refine Zab ?_
     refine Zcd ?_
     refine Zbd ?_
     refine Zbm v_4 (show (v_4.size ≤ 50000) ∧ (True) from ⟨(by first | omega | (exact Nat.le_trans Zfl (by decide)) | (have q := Zfl (p := _); omega)), trivial⟩) (trivial) (Sv v_4) (by kernel_rfl) (.inl rfl) (fun _ => rfl) (fun _ => trivial)
    subst h1
    refine x_r [(1, .lend [(7001, Zaa s'_2, Zaa s'_3)] [] [(true, .any), (true, .any)] true (Bv false))] [3, 5, 12] [7001] [.ref 7001 0, Sv (Zeo (Perceptron.mk ls_2 ws_2)), Bv false] [some (Zaa s'_3)] [Zaz Tryz.prog 31 [.ref 7001 0, I 3] (Zaf [(7001, Zaa s'_2)]) true (Bv false) (Zaf [(7001, Zaa s'_3)]) ∧ (((Zaa s'_2 : Ob) = Zaa s'_2 ∨ Zes Zej true (Zaa s'_2) (Zaa s'_2)) ∧ Zar false (Zaa s'_2)) ∧ True] ⟨⟨hc3, ⟨.inl rfl, (by simp [Zar, Zah, Zak, Zdh])⟩, trivial⟩, trivial⟩ ?_
    refine Zab ?_
    refine Zbe rfl ?_
    refine Zbz ?_
    refine Zab ?_
    refine xR [] [2] [] [Sv (Zeo (Perceptron.mk ls_2 ws_2))] [] [] trivial ?_
    refine Zcd ?_
    refine Zbm (Zeo (Perceptron.mk ls_2 ws_2)) (show ((Zeo (Perceptron.mk ls_2 ws_2)).size ≤ 50000) ∧ (True) from ⟨(by first | omega | (exact Nat.le_trans Zfl (by decide)) | (have q := Zfl (p := _); omega)), trivial⟩) (trivial) (Sv (Zeo (Perceptron.mk ls_2 ws_2))) (by kernel_rfl) (.inl rfl) (fun _ => rfl) (fun _ => trivial)
  obtain ⟨v, ⟨hh0, _⟩, hc⟩ := hh
  exact ⟨v, hh0, hc⟩
-- spec.l01Split
theorem Zol (s : ByteArray) (by_ : Int) (hz : s.size ≤ 1000000) (hby : 0 ≤ by_ ∧ by_ ≤ 255) : ∃ (v : List ByteArray), (v = Zcq (⟨#[UInt8.ofNat by_.toNat]⟩ : ByteArray) s) ∧ Con Tryz.prog 33 [Sv s, .val (.int .u8 by_)] true (slS true v) := by
  have hcu : ((UInt8.ofNat by_.toNat).toNat : Int) = by_ := by rw [UInt8.toNat_ofNat']; omega
  have hh : ∃ r : (List ByteArray), ((r = Zcq (⟨#[UInt8.ofNat by_.toNat]⟩ : ByteArray) s) ∧ (True)) ∧ Zaz Tryz.prog 33 [Sv s, .val (.int .u8 by_)] (Zaf []) true (slS true r) (Zaf []) := by
    refine Zdd (Φ := fun r : (List ByteArray) => (r = Zcq (⟨#[UInt8.ofNat by_.toNat]⟩ : ByteArray) s) ∧ (True)) [] (fun r => []) (fn := Tryz.f33) (nt := 35) Tryz.func33 rfl rfl (args := [Sv s, .val (.int .u8 by_)]) rfl (Zbv (.inl ⟨rfl, trivial⟩) (Zbv (.inl ⟨rfl, trivial⟩) Zda)) (res := fun r => slS true r) ?_
    refine xR [] [0, 1] [] [Sv s, .val (.int .u8 by_)] [] [] trivial ?_
    refine xR [(0, .new 8)] [0, 1, 5] [8] [Sv s, .val (.int .u8 by_), .arr 8] [some (.arr 1 0 (Zcv [] 1))] [] trivial ?_
    refine xR [] [0, 1, 5, 6] [8] [Sv s, .val (.int .u8 by_), .arr 8, I 0] [some (.arr 1 0 (Zcv [] 1))] [] trivial ?_
    refine Zap ?_
    refine xR [] [0, 1, 5, 6, 7] [8] [Sv s, .val (.int .u8 by_), .arr 8, I 0, I 0] [some (.arr 1 0 (Zcv [] 1))] [] trivial ?_
    refine Zby ?_
    refine Zcy [] (T := [(0, Sv s), (1, .val (.int .u8 by_)), (5, .arr 8), (6, I 0), (7, I 0)]) (O := [(8, tAS ([] : List ByteArray))]) rfl (⟨.inl rfl, .inl rfl, .inl rfl, .inl rfl, .inl rfl, trivial⟩) (⟨.inr ⟨rfl, (by first | rfl | (simp; done) | (simp; omega) | omega), fun i_ hi_ => absurd hi_ (Nat.not_lt_zero _)⟩, trivial⟩) ?_
    refine Zef (X := (List ByteArray) × Int × Int) (fun x => mkS [(0, Sv s), (1, .val (.int .u8 by_)), (5, .arr 8), (6, I x.2.1), (7, I x.2.2)] [(8, tAS x.1)]) (fun x => (0 ≤ x.2.2 ∧ x.2.2 ≤ (s.size : Int)) ∧ (0 ≤ x.2.1 ∧ x.2.1 ≤ x.2.2) ∧ (Zkd (UInt8.ofNat by_.toNat) s = x.1 ++ Zkd (UInt8.ofNat by_.toNat) (s.extract x.2.1.toNat s.size)) ∧ (∀ j, x.2.1.toNat ≤ j → j < x.2.2.toNat → ¬ bAt s j = ((UInt8.ofNat by_.toNat).toNat : Int)) ∧ (x.1.length ≤ x.2.2.toNat) ∧ True) (fun x => ((s.size : Int) - x.2.2).toNat) (([] : List ByteArray), 0, 0) rfl (show (0 ≤ (0 : Int) ∧ (0 : Int) ≤ (s.size : Int)) ∧ (0 ≤ (0 : Int) ∧ (0 : Int) ≤ (0 : Int)) ∧ (Zkd (UInt8.ofNat by_.toNat) s = ([] : List ByteArray) ++ Zkd (UInt8.ofNat by_.toNat) (s.extract (0 : Int).toNat s.size)) ∧ (∀ j, (0 : Int).toNat ≤ j → j < (0 : Int).toNat → ¬ bAt s j = ((UInt8.ofNat by_.toNat).toNat : Int)) ∧ (([] : List ByteArray).length ≤ (0 : Int).toNat) ∧ True from ⟨(by omega), (by omega), (by rw [show (0 : Int).toNat = 0 from rfl, ext_all]; rfl), (by intro j h1 h2; omega), (by simp), trivial⟩) (fun x hI => ?_)
    obtain ⟨out, from_, i⟩ := x
    obtain ⟨hi0, hf0, hsp, hns, hol, _⟩ : (0 ≤ i ∧ i ≤ (s.size : Int)) ∧ (0 ≤ from_ ∧ from_ ≤ i) ∧ (Zkd (UInt8.ofNat by_.toNat) s = out ++ Zkd (UInt8.ofNat by_.toNat) (s.extract from_.toNat s.size)) ∧ (∀ j, from_.toNat ≤ j → j < i.toNat → ¬ bAt s j = ((UInt8.ofNat by_.toNat).toNat : Int)) ∧ (out.length ≤ i.toNat) ∧ True := hI
    show XW _ _ _ _ (mkS [(0, Sv s), (1, .val (.int .u8 by_)), (5, .arr 8), (6, I from_), (7, I i)] [(8, tAS out)]) _ _
    refine Zap ?_
    refine Zap ?_
    by_cases h1 : i < (s.size : Int)
    ·have hi : i.toNat < s.size := by omega
     refine x_r [(3, .dec true)] [0, 1, 5, 6, 7, 12] [8] [Sv s, .val (.int .u8 by_), .arr 8, I from_, I i, Bv true] [some (tAS out)] [i < (s.size : Int)] ⟨h1, trivial⟩ ?_
     refine Zab ?_
     refine Zbp rfl ?_
     refine Zbz ?_
     refine Zab ?_
     refine Zap ?_
     refine Zby ?_
     refine Zap ?_
     by_cases h2 : (bAt s i.toNat) = by_
     ·have hq : bAt s i.toNat = ((UInt8.ofNat by_.toNat).toNat : Int) := by rw [hcu]; exact h2
      have hcut := spl_hit (c := UInt8.ofNat by_.toNat) (s := s) (a := from_.toNat) (i := i.toNat) (by omega) hi (fun j h1 h2 => hns j h1 h2) hq
      refine x_r [(4, .dec true)] [0, 1, 5, 6, 7, 19] [8] [Sv s, .val (.int .u8 by_), .arr 8, I from_, I i, Bv true] [some (tAS out)] [(0 : Int) ≤ i ∧ i < (s.size : Int), (bAt s i.toNat) = by_] ⟨⟨(by omega), (by omega)⟩, h2, trivial⟩ ?_
      refine Zab ?_
      refine Zbp rfl ?_
      refine xR [(5, .new 25), (6, .new 26)] [0, 1, 5, 7] [26] [Sv s, .val (.int .u8 by_), .arr 26, I i] [some (.arr 1 (out.length + 1) (Zde out.length (fS out) (Zcv [Sv (s.extract from_.toNat i.toNat)] 1)))] [(0 : Int) ≤ from_ ∧ from_ ≤ i ∧ i ≤ (s.size : Int), (out.length + 1) * 16 ≤ 140737488355328] ⟨⟨(by omega), (by omega), (by omega)⟩, (by omega), trivial⟩ ?_
      refine x_r [] [0, 1, 5, 6, 7] [26] [Sv s, .val (.int .u8 by_), .arr 26, I (i + 1), I i] [some (.arr 1 (out.length + 1) (Zde out.length (fS out) (Zcv [Sv (s.extract from_.toNat i.toNat)] 1)))] [inR .i64 (i + 1)] ⟨(Zam (by omega) (by omega)), trivial⟩ ?_
      refine Zbq 1 ?_
      refine Zab ?_
      refine x_r [] [0, 1, 5, 6, 7] [26] [Sv s, .val (.int .u8 by_), .arr 26, I (i + 1), I (i + 1)] [some (.arr 1 (out.length + 1) (Zde out.length (fS out) (Zcv [Sv (s.extract from_.toNat i.toNat)] 1)))] [inR .i64 (i + 1)] ⟨(Zam (by omega) (by omega)), trivial⟩ ?_
      refine Zcw [(8, 26)] (T := [(0, Sv s), (1, .val (.int .u8 by_)), (5, .arr 8), (6, I (i + 1)), (7, I (i + 1))]) (O := [(8, tAS (out ++ [(s.extract from_.toNat i.toNat)]))]) rfl (⟨.inl rfl, .inl rfl, .inl rfl, .inl rfl, .inl rfl, trivial⟩) (⟨.inr ⟨rfl, (by first | rfl | (simp; done) | (simp; omega) | omega), fun i_ hi_ => .inl (Zec (enc := cS) (xs := out) rfl i_ hi_)⟩, trivial⟩) (Zch ((out ++ [(s.extract from_.toNat i.toNat)]), (i + 1), (i + 1)) rfl (show (0 ≤ (i + 1) ∧ (i + 1) ≤ (s.size : Int)) ∧ (0 ≤ (i + 1) ∧ (i + 1) ≤ (i + 1)) ∧ (Zkd (UInt8.ofNat by_.toNat) s = (out ++ [(s.extract from_.toNat i.toNat)]) ++ Zkd (UInt8.ofNat by_.toNat) (s.extract (i + 1).toNat s.size)) ∧ (∀ j, (i + 1).toNat ≤ j → j < (i + 1).toNat → ¬ bAt s j = ((UInt8.ofNat by_.toNat).toNat : Int)) ∧ ((out ++ [(s.extract from_.toNat i.toNat)]).length ≤ (i + 1).toNat) ∧ True from ⟨(by omega), (by omega), (by first | exact hsp | (rw [hsp, hcut, show (i + 1).toNat = i.toNat + 1 from by omega]; simp; done)), (by intro j h1 h2; by_cases ej : j = i.toNat; (subst ej; first | exact hq | omega); exact hns j (by omega) (by omega)), (by first | omega | (simp; omega)), trivial⟩) (by first | (show (((s.size : Int) - (i + 1)).toNat : Nat) < ((s.size : Int) - i).toNat; omega) | (dsimp only; omega)))
     have hq : ¬ bAt s i.toNat = ((UInt8.ofNat by_.toNat).toNat : Int) := by rw [hcu]; exact h2
     refine x_r [(4, .dec false)] [0, 1, 5, 6, 7, 19] [8] [Sv s, .val (.int .u8 by_), .arr 8, I from_, I i, Bv false] [some (tAS out)] [(0 : Int) ≤ i ∧ i < (s.size : Int), ¬ ((bAt s i.toNat) = by_)] ⟨⟨(by omega), (by omega)⟩, h2, trivial⟩ ?_
     refine Zab ?_
     refine Zbe rfl ?_
     refine Zbz ?_
     refine Zbq 1 ?_
     refine Zab ?_
     refine x_r [] [0, 1, 5, 6, 7] [8] [Sv s, .val (.int .u8 by_), .arr 8, I from_, I (i + 1)] [some (tAS out)] [inR .i64 (i + 1)] ⟨(Zam (by omega) (by omega)), trivial⟩ ?_
     exact Zch (out, from_, (i + 1)) rfl (show (0 ≤ (i + 1) ∧ (i + 1) ≤ (s.size : Int)) ∧ (0 ≤ from_ ∧ from_ ≤ (i + 1)) ∧ (Zkd (UInt8.ofNat by_.toNat) s = out ++ Zkd (UInt8.ofNat by_.toNat) (s.extract from_.toNat s.size)) ∧ (∀ j, from_.toNat ≤ j → j < (i + 1).toNat → ¬ bAt s j = ((UInt8.ofNat by_.toNat).toNat : Int)) ∧ (out.length ≤ (i + 1).toNat) ∧ True from ⟨(by omega), (by omega), (by first | exact hsp | (rw [hsp, hcut, show (i + 1).toNat = i.toNat + 1 from by omega]; simp; done)), (by intro j h1 h2; by_cases ej : j = i.toNat; (subst ej; first | exact hq | omega); exact hns j (by omega) (by omega)), (by first | omega | (simp; omega)), trivial⟩) (by first | (show (((s.size : Int) - (i + 1)).toNat : Nat) < ((s.size : Int) - i).toNat; omega) | (dsimp only; omega))
    have hie : i.toNat = s.size := by omega
    refine x_r [(3, .dec false)] [0, 1, 5, 6, 7, 12] [8] [Sv s, .val (.int .u8 by_), .arr 8, I from_, I i, Bv false] [some (tAS out)] [¬ (i < (s.size : Int))] ⟨h1, trivial⟩ ?_
    refine Zab ?_
    refine Zbe rfl ?_
    refine Zee ?_
    refine Zbr ?_
    refine Zbt ?_
    refine Zbs ?_
    refine Zab ?_
    refine xR [(4, .new 33), (5, .new 34)] [4] [34] [.arr 34] [some (.arr 1 (out.length + 1) (Zde out.length (fS out) (Zcv [Sv (s.extract from_.toNat (s.size : Int).toNat)] 1)))] [(0 : Int) ≤ from_ ∧ from_ ≤ (s.size : Int) ∧ (s.size : Int) ≤ (s.size : Int), (out.length + 1) * 16 ≤ 140737488355328] ⟨⟨(by omega), (by omega), (by omega)⟩, (by omega), trivial⟩ ?_
    refine Zcd ?_
    refine Zbm (out ++ [(s.extract from_.toNat (s.size : Int).toNat)]) (show ((out ++ [(s.extract from_.toNat (s.size : Int).toNat)]) = Zcq (⟨#[UInt8.ofNat by_.toNat]⟩ : ByteArray) s) ∧ (True) from ⟨(by (show _ = Zkd _ s; rw [hsp, spl_end (fun j h1 h2 => hns j h1 (by omega))]; first | rfl | (rw [Int.toNat_natCast]; done))), trivial⟩) (trivial) (.arr 34) (by kernel_rfl) (.inr ⟨(fun _ => rfl), rfl, (by first | rfl | (simp; done) | (simp; omega) | omega), fun i_ hi_ => .inl (Zec (enc := cS) (xs := out) rfl i_ hi_)⟩) (fun _ => rfl) (fun _ => (Zep true _))
  obtain ⟨v, ⟨hh0, _⟩, hc⟩ := hh
  exact ⟨v, hh0, hc⟩
-- spec.l01Digit
theorem Zom (c : Int) : Con Tryz.prog 72 [.val (.int .u8 c)] true (Bv (inB c 48 57)) := by
  refine Zdb (fn := Tryz.f72) (nt := 9) Tryz.func72 rfl rfl rfl rfl (by simp [Zah, Zak]) fun B hB => ?_
  refine aR [] [0] [] [.val (.int .u8 c)] [] [] hB trivial ?_
  refine Zal ?_
  by_cases h1 : 48 ≤ c
  ·refine Zbx [(1, .dec true)] [2] [] [Bv (decide (c ≤ 57))] [] [48 ≤ c] hB ⟨h1, trivial⟩ ?_
   refine Zac ?_
   refine Zax ?_
   refine Zba hB (Bv (decide (c ≤ 57))) (by kernel_rfl) (.inl (by first | rfl | (refine congrArg Bv ?_; simp [inB, *]; done) | (refine congrArg Bv ?_; simp [inB, *]; omega) | (refine congrArg Bv ?_; simp_all [inB]; done) | (refine congrArg Bv ?_; simp_all [inB]; omega))) rfl (fun _ => trivial)
  refine Zbx [(1, .dec false)] [2] [] [Bv false] [] [¬ (48 ≤ c)] hB ⟨h1, trivial⟩ ?_
  refine Zac ?_
  refine Zax ?_
  refine Zba hB (Bv false) (by kernel_rfl) (.inl (by first | rfl | (refine congrArg Bv ?_; simp [inB, *]; done) | (refine congrArg Bv ?_; simp [inB, *]; omega) | (refine congrArg Bv ?_; simp_all [inB]; done) | (refine congrArg Bv ?_; simp_all [inB]; omega))) rfl (fun _ => trivial)
-- spec.l01Number
theorem Zub (s : ByteArray) (hz : s.size ≤ 1000000) : ∃ (v : Int) (c : Bool), (v = dcN s) ∧ (c = dcB s) ∧ Con Tryz.prog 34 [Sv s] true (.tup [I v, Bv c]) := by
  have hh : ∃ r : Int × Bool, ((r.1 = dcN s) ∧ (r.2 = dcB s) ∧ (True)) ∧ Zaz Tryz.prog 34 [Sv s] (Zaf []) true (.tup [I r.1, Bv r.2]) (Zaf []) := by
    refine Zdd (Φ := fun r : Int × Bool => (r.1 = dcN s) ∧ (r.2 = dcB s) ∧ (True)) [] (fun r => []) (fn := Tryz.f34) (nt := 56) Tryz.func34 rfl rfl (args := [Sv s]) rfl (Zbv (.inl ⟨rfl, trivial⟩) Zda) (res := fun r => .tup [I r.1, Bv r.2]) ?_
    refine xR [] [0] [] [Sv s] [] [] trivial ?_
    refine xR [] [0, 4] [] [Sv s, Sv s] [] [] trivial ?_
    refine x_cut (X := ByteArray) (fun x => mkS [(0, Sv s), (4, Sv x)] []) (fun x => (unS s x) ∧ (x.size ≤ s.size) ∧ True) ?_ (fun x hI => ?_)
    ·refine Zap ?_
     by_cases h1 : s = (⟨#[]⟩ : ByteArray)
     ·have hs0 : s.size = 0 := by rw [h1]; rfl
      refine x_r [(1, .dec false)] [0, 4, 14] [] [Sv s, Sv s, Bv false] [] [¬ (s ≠ (⟨#[]⟩ : ByteArray))] ⟨(fun hq => hq h1), trivial⟩ ?_
      refine Zab ?_
      refine Zbe rfl ?_
      refine Zbz ?_
      refine Zcw [] (T := [(0, Sv s), (4, Sv s)]) (O := []) rfl (⟨.inl rfl, .inl rfl, trivial⟩) (trivial) (Yad s rfl (show (unS s s) ∧ (s.size ≤ s.size) ∧ True from ⟨(by first | exact Zvu (by omega) (by assumption) | exact Zlv (.inl (by omega)) | exact Zlv (.inr (by assumption))), (by first | omega | (rw [ByteArray.size_extract]; omega)), trivial⟩))
     have hs0 : 0 < s.size := Nat.pos_of_ne_zero (fun q => h1 (Zsa q))
     by_cases h2 : (bAt s 0) = 45
     ·refine x_r [(1, .dec true), (5, .dec true)] [0, 4, 14] [] [Sv s, Sv s, Bv true] [] [s ≠ (⟨#[]⟩ : ByteArray), (0 : Int) ≤ 0 ∧ 0 < (s.size : Int), (bAt s 0) = 45] ⟨h1, ⟨(by omega), (by omega)⟩, h2, trivial⟩ ?_
      refine Zab ?_
      refine Zbp rfl ?_
      refine x_r [] [0, 4] [] [Sv s, Sv (s.extract 1 (s.size : Int).toNat)] [] [(0 : Int) ≤ 1 ∧ (1 : Int) ≤ (s.size : Int) ∧ (s.size : Int) ≤ (s.size : Int)] ⟨⟨(by omega), (by omega), (by omega)⟩, trivial⟩ ?_
      exact Yad (s.extract 1 (s.size : Int).toNat) rfl (show (unS s (s.extract 1 (s.size : Int).toNat)) ∧ ((s.extract 1 (s.size : Int).toNat).size ≤ s.size) ∧ True from ⟨(by first | exact Zvu (by omega) (by assumption) | exact Zlv (.inl (by omega)) | exact Zlv (.inr (by assumption))), (by first | omega | (rw [ByteArray.size_extract]; omega)), trivial⟩)
     refine x_r [(1, .dec true), (5, .dec false)] [0, 4, 14] [] [Sv s, Sv s, Bv false] [] [s ≠ (⟨#[]⟩ : ByteArray), (0 : Int) ≤ 0 ∧ 0 < (s.size : Int), ¬ ((bAt s 0) = 45)] ⟨h1, ⟨(by omega), (by omega)⟩, h2, trivial⟩ ?_
     refine Zab ?_
     refine Zbe rfl ?_
     refine Zbz ?_
     refine Zcw [] (T := [(0, Sv s), (4, Sv s)]) (O := []) rfl (⟨.inl rfl, .inl rfl, trivial⟩) (trivial) (Yad s rfl (show (unS s s) ∧ (s.size ≤ s.size) ∧ True from ⟨(by first | exact Zvu (by omega) (by assumption) | exact Zlv (.inl (by omega)) | exact Zlv (.inr (by assumption))), (by first | omega | (rw [ByteArray.size_extract]; omega)), trivial⟩))
    obtain ⟨t, hxx⟩ : ∃ t : ByteArray, t = x := ⟨x, rfl⟩
    subst hxx
    obtain ⟨hu, htz, _⟩ : (unS s t) ∧ (t.size ≤ s.size) ∧ True := hI
    show XW _ _ _ _ (mkS [(0, Sv s), (4, Sv t)] []) _ _
    refine Zap ?_
    refine Zap ?_
    by_cases h3 : (t.size : Int) < 1
    ·have hst := Zvs (s := s) (by rw [Zrz hu, Zff]; omega)
     refine x_r [(2, .dec true)] [0, 4, 24] [] [Sv s, Sv t, Bv true] [] [(t.size : Int) < 1] ⟨h3, trivial⟩ ?_
     refine Zab ?_
     refine Zbp rfl ?_
     refine xR [] [2, 3] [] [I 0, Bv false] [] [] trivial ?_
     refine Zcd ?_
     refine Zbd ?_
     refine Zbm (0, false) (show (0 = dcN s) ∧ (false = dcB s) ∧ (True) from ⟨(by first | (rw [hst.2]; done) | (rw [hst.1]; done) | exact hst.2.symm | exact hst.1.symm), (by first | (rw [hst.2]; done) | (rw [hst.1]; done) | exact hst.2.symm | exact hst.1.symm), trivial⟩) (trivial) (.tup [I 0, Bv false]) (by kernel_rfl) (.inl rfl) (fun _ => rfl) (fun _ => (by simp [Zak, Zah]))
    by_cases h4 : 18 < (t.size : Int)
    ·have hst := Zvs (s := s) (by rw [Zrz hu, Zff]; omega)
     refine x_r [(2, .dec false), (6, .dec true)] [0, 4, 24] [] [Sv s, Sv t, Bv true] [] [¬ ((t.size : Int) < 1), 18 < (t.size : Int)] ⟨h3, h4, trivial⟩ ?_
     refine Zab ?_
     refine Zbp rfl ?_
     refine xR [] [2, 3] [] [I 0, Bv false] [] [] trivial ?_
     refine Zcd ?_
     refine Zbd ?_
     refine Zbm (0, false) (show (0 = dcN s) ∧ (false = dcB s) ∧ (True) from ⟨(by first | (rw [hst.2]; done) | (rw [hst.1]; done) | exact hst.2.symm | exact hst.1.symm), (by first | (rw [hst.2]; done) | (rw [hst.1]; done) | exact hst.2.symm | exact hst.1.symm), trivial⟩) (trivial) (.tup [I 0, Bv false]) (by kernel_rfl) (.inl rfl) (fun _ => rfl) (fun _ => (by simp [Zak, Zah]))
    refine x_r [(2, .dec false), (6, .dec false)] [0, 4, 24] [] [Sv s, Sv t, Bv false] [] [¬ ((t.size : Int) < 1), ¬ (18 < (t.size : Int))] ⟨h3, h4, trivial⟩ ?_
    refine Zab ?_
    refine Zbe rfl ?_
    refine Zbz ?_
    refine Zab ?_
    refine xR [] [0, 4, 5] [] [Sv s, Sv t, I 0] [] [] trivial ?_
    refine Zap ?_
    refine xR [] [0, 4, 5, 6] [] [Sv s, Sv t, I 0, I 0] [] [] trivial ?_
    refine Zby ?_
    refine Zef (X := Int × Int) (fun x => mkS [(0, Sv s), (4, Sv t), (5, I x.1), (6, I x.2)] []) (fun x => (0 ≤ x.2 ∧ x.2 ≤ (t.size : Int)) ∧ (x.1 = ((Zsp 0 (t.data.toList.take x.2.toNat) : Nat) : Int)) ∧ (∀ j, j < x.2.toNat → 48 ≤ bAt t j ∧ bAt t j ≤ 57) ∧ True) (fun x => ((t.size : Int) - x.2).toNat) (0, 0) rfl (show (0 ≤ (0 : Int) ∧ (0 : Int) ≤ (t.size : Int)) ∧ ((0 : Int) = ((Zsp 0 (t.data.toList.take (0 : Int).toNat) : Nat) : Int)) ∧ (∀ j, j < (0 : Int).toNat → 48 ≤ bAt t j ∧ bAt t j ≤ 57) ∧ True from ⟨(by omega), (by rfl), (by intro j hj; omega), trivial⟩) (fun x hI => ?_)
    obtain ⟨n, i⟩ := x
    obtain ⟨hi0, hnv, hdg, _⟩ : (0 ≤ i ∧ i ≤ (t.size : Int)) ∧ (n = ((Zsp 0 (t.data.toList.take i.toNat) : Nat) : Int)) ∧ (∀ j, j < i.toNat → 48 ≤ bAt t j ∧ bAt t j ≤ 57) ∧ True := hI
    show XW _ _ _ _ (mkS [(0, Sv s), (4, Sv t), (5, I n), (6, I i)] []) _ _
    refine Zap ?_
    refine Zap ?_
    by_cases h5 : i < (t.size : Int)
    ·have hi : i.toNat < t.size := by omega
     have hbd := valL_bd hdg hi (by omega)
     have hi1 : (i + 1).toNat = i.toNat + 1 := by omega
     refine x_r [(3, .dec true)] [0, 4, 5, 6, 28] [] [Sv s, Sv t, I n, I i, Bv true] [] [i < (t.size : Int)] ⟨h5, trivial⟩ ?_
     refine Zab ?_
     refine Zbp rfl ?_
     refine Zbz ?_
     refine Zab ?_
     refine Zap ?_
     refine Zby ?_
     refine Zap ?_
     refine Zap ?_
     rcases Bool.eq_false_or_eq_true (inB (bAt t i.toNat) 48 57) with h6 | h6
     ·have hdq := inB_iff.1 h6
      have hvs := Ycd hi hdq.1
      refine x_r [(3, .call [(true, .any)] true (Bv true))] [0, 4, 5, 6, 35] [] [Sv s, Sv t, I n, I i, Bv false] [] [(0 : Int) ≤ i ∧ i < (t.size : Int), Con Tryz.prog 72 [.val (.int .u8 (bAt t i.toNat))] true (Bv true) ∧ True] ⟨⟨(by omega), (by omega)⟩, ⟨(Zaq h6 (Zom (bAt t i.toNat))), trivial⟩, trivial⟩ ?_
      refine Zab ?_
      refine Zbe rfl ?_
      refine Zbz ?_
      refine Zab ?_
      refine x_r [] [0, 4, 5, 6] [] [Sv s, Sv t, I ((10 * n) + ((bAt t i.toNat) - 48)), I i] [] [inR .i64 (10 * n), (0 : Int) ≤ i ∧ i < (t.size : Int), inR .u8 ((bAt t i.toNat) - 48), inR .i64 ((bAt t i.toNat) - 48), inR .i64 ((10 * n) + ((bAt t i.toNat) - 48))] ⟨(Zam (by omega) (by omega)), ⟨(by omega), (by omega)⟩, (Zxb (by omega) (by omega)), (Zam (by omega) (by omega)), (Zam (by omega) (by omega)), trivial⟩ ?_
      refine Zbq 1 ?_
      refine Zab ?_
      refine x_r [] [0, 4, 5, 6] [] [Sv s, Sv t, I ((10 * n) + ((bAt t i.toNat) - 48)), I (i + 1)] [] [inR .i64 (i + 1)] ⟨(Zam (by omega) (by omega)), trivial⟩ ?_
      exact Zch (((10 * n) + ((bAt t i.toNat) - 48)), (i + 1)) rfl (show (0 ≤ (i + 1) ∧ (i + 1) ≤ (t.size : Int)) ∧ (((10 * n) + ((bAt t i.toNat) - 48)) = ((Zsp 0 (t.data.toList.take (i + 1).toNat) : Nat) : Int)) ∧ (∀ j, j < (i + 1).toNat → 48 ≤ bAt t j ∧ bAt t j ≤ 57) ∧ True from ⟨(by omega), (by rw [hi1, hvs, ← hnv]), (by intro j hj; by_cases ej : j = i.toNat; (subst ej; exact hdq); exact hdg j (by omega)), trivial⟩) (by first | (show (((t.size : Int) - (i + 1)).toNat : Nat) < ((t.size : Int) - i).toNat; omega) | (dsimp only; omega))
     have hst := Ycb hu (fun q => by have z := q (t.data.toList[i.toNat]'(by rw [Zff]; exact hi)) (List.getElem_mem _); have y := Zvv hi; have w : inB (bAt t i.toNat) 48 57 = true := inB_iff.2 (by omega); rw [h6] at w; cases w)
     refine x_r [(3, .call [(true, .any)] true (Bv false))] [0, 4, 5, 6, 35] [] [Sv s, Sv t, I n, I i, Bv true] [] [(0 : Int) ≤ i ∧ i < (t.size : Int), Con Tryz.prog 72 [.val (.int .u8 (bAt t i.toNat))] true (Bv false) ∧ True] ⟨⟨(by omega), (by omega)⟩, ⟨(Zaq h6 (Zom (bAt t i.toNat))), trivial⟩, trivial⟩ ?_
     refine Zab ?_
     refine Zbp rfl ?_
     refine xR [] [2, 3] [] [I 0, Bv false] [] [] trivial ?_
     refine Zcd ?_
     refine Zbd (Zdg (Zbd (Zfs (Zdg (Zbd ?_)))))
     refine Zbm (0, false) (show (0 = dcN s) ∧ (false = dcB s) ∧ (True) from ⟨(by first | (rw [hst.2]; done) | (rw [hst.1]; done) | exact hst.2.symm | exact hst.1.symm), (by first | (rw [hst.2]; done) | (rw [hst.1]; done) | exact hst.2.symm | exact hst.1.symm), trivial⟩) (trivial) (.tup [I 0, Bv false]) (by kernel_rfl) (.inl rfl) (fun _ => rfl) (fun _ => (by simp [Zak, Zah]))
    have hie : i.toNat = t.size := by omega
    have hall : Zjc t.data.toList := by have q := Zof (k := t.size) (Nat.le_refl _) (fun j hj => hdg j (by omega)); rwa [← Zff, List.take_length] at q
    have hav := valL_all hall (by omega)
    rw [hie, ← Zff, List.take_length] at hnv
    have hp := Ycc hu hall ⟨by omega, by omega⟩
    have hlt : 1 ≤ (Lib.trimPrefix s.data.toList [45]).length ∧ (Lib.trimPrefix s.data.toList [45]).length ≤ 18 := by rw [Zrz hu, Zff]; omega
    refine x_r [(3, .dec false)] [0, 4, 5, 6, 28] [] [Sv s, Sv t, I n, I i, Bv false] [] [¬ (i < (t.size : Int))] ⟨h5, trivial⟩ ?_
    refine Zab ?_
    refine Zbe rfl ?_
    refine Zee ?_
    refine Zbr ?_
    refine Zbt ?_
    refine Zbs ?_
    refine Zab ?_
    refine Zap ?_
    refine Zap ?_
    by_cases h7 : (t.size : Int) < (s.size : Int)
    ·rw [if_pos (by omega), ← hnv] at hp
     refine x_r [(4, .dec true)] [0, 5, 48] [] [Sv s, I n, Bv true] [] [(t.size : Int) < (s.size : Int)] ⟨h7, trivial⟩ ?_
     refine Zab ?_
     refine Zbp rfl ?_
     refine x_r [] [0, 5] [] [Sv s, I (-n)] [] [inR .i64 (-n)] ⟨(Zam (by omega) (by omega)), trivial⟩ ?_
     refine Zab ?_
     refine Zap ?_
     refine Zap ?_
     by_cases h8 : (Zdz (-n)) = s
     ·have hst := Zod hp hlt h8
      refine x_r [(1, .call [(true, .any)] true (Sv (Zdz (-n)))), (3, .dec false)] [5, 54] [] [I (-n), Bv false] [] [Con Tryz.prog 70 [I (-n)] true (Sv (Zdz (-n))) ∧ True, ¬ ((Zdz (-n)) ≠ s)] ⟨⟨(Zjh (-n) (by omega)), trivial⟩, (fun hq => hq h8), trivial⟩ ?_
      refine Zab ?_
      refine Zbe rfl ?_
      refine Zbz ?_
      refine Zab ?_
      refine xR [] [2, 3] [] [I (-n), Bv true] [] [] trivial ?_
      refine Zcd ?_
      refine Zbm ((-n), true) (show ((-n) = dcN s) ∧ (true = dcB s) ∧ (True) from ⟨(by first | (rw [hst.2]; done) | (rw [hst.1]; done) | exact hst.2.symm | exact hst.1.symm), (by first | (rw [hst.2]; done) | (rw [hst.1]; done) | exact hst.2.symm | exact hst.1.symm), trivial⟩) (trivial) (.tup [I (-n), Bv true]) (by kernel_rfl) (.inl rfl) (fun _ => rfl) (fun _ => (by simp [Zak, Zah]))
     have hst := Ybv hp h8
     refine x_r [(1, .call [(true, .any)] true (Sv (Zdz (-n)))), (3, .dec true)] [5, 54] [] [I (-n), Bv true] [] [Con Tryz.prog 70 [I (-n)] true (Sv (Zdz (-n))) ∧ True, (Zdz (-n)) ≠ s] ⟨⟨(Zjh (-n) (by omega)), trivial⟩, h8, trivial⟩ ?_
     refine Zab ?_
     refine Zbp rfl ?_
     refine xR [] [2, 3] [] [I 0, Bv false] [] [] trivial ?_
     refine Zcd ?_
     refine Zbd ?_
     refine Zbm (0, false) (show (0 = dcN s) ∧ (false = dcB s) ∧ (True) from ⟨(by first | (rw [hst.2]; done) | (rw [hst.1]; done) | exact hst.2.symm | exact hst.1.symm), (by first | (rw [hst.2]; done) | (rw [hst.1]; done) | exact hst.2.symm | exact hst.1.symm), trivial⟩) (trivial) (.tup [I 0, Bv false]) (by kernel_rfl) (.inl rfl) (fun _ => rfl) (fun _ => (by simp [Zak, Zah]))
    rw [if_neg (by omega), ← hnv] at hp
    refine x_r [(4, .dec false)] [0, 5, 48] [] [Sv s, I n, Bv false] [] [¬ ((t.size : Int) < (s.size : Int))] ⟨h7, trivial⟩ ?_
    refine Zab ?_
    refine Zbe rfl ?_
    refine Zbz ?_
    refine Zab ?_
    refine Zap ?_
    refine Zap ?_
    by_cases h9 : (Zdz n) = s
    ·have hst := Zod hp hlt h9
     refine x_r [(1, .call [(true, .any)] true (Sv (Zdz n))), (3, .dec false)] [5, 54] [] [I n, Bv false] [] [Con Tryz.prog 70 [I n] true (Sv (Zdz n)) ∧ True, ¬ ((Zdz n) ≠ s)] ⟨⟨(Zjh n (by omega)), trivial⟩, (fun hq => hq h9), trivial⟩ ?_
     refine Zab ?_
     refine Zbe rfl ?_
     refine Zbz ?_
     refine Zab ?_
     refine xR [] [2, 3] [] [I n, Bv true] [] [] trivial ?_
     refine Zcd ?_
     refine Zbm (n, true) (show (n = dcN s) ∧ (true = dcB s) ∧ (True) from ⟨(by first | (rw [hst.2]; done) | (rw [hst.1]; done) | exact hst.2.symm | exact hst.1.symm), (by first | (rw [hst.2]; done) | (rw [hst.1]; done) | exact hst.2.symm | exact hst.1.symm), trivial⟩) (trivial) (.tup [I n, Bv true]) (by kernel_rfl) (.inl rfl) (fun _ => rfl) (fun _ => (by simp [Zak, Zah]))
    have hst := Ybv hp h9
    refine x_r [(1, .call [(true, .any)] true (Sv (Zdz n))), (3, .dec true)] [5, 54] [] [I n, Bv true] [] [Con Tryz.prog 70 [I n] true (Sv (Zdz n)) ∧ True, (Zdz n) ≠ s] ⟨⟨(Zjh n (by omega)), trivial⟩, h9, trivial⟩ ?_
    refine Zab ?_
    refine Zbp rfl ?_
    refine xR [] [2, 3] [] [I 0, Bv false] [] [] trivial ?_
    refine Zcd ?_
    refine Zbd ?_
    refine Zbm (0, false) (show (0 = dcN s) ∧ (false = dcB s) ∧ (True) from ⟨(by first | (rw [hst.2]; done) | (rw [hst.1]; done) | exact hst.2.symm | exact hst.1.symm), (by first | (rw [hst.2]; done) | (rw [hst.1]; done) | exact hst.2.symm | exact hst.1.symm), trivial⟩) (trivial) (.tup [I 0, Bv false]) (by kernel_rfl) (.inl rfl) (fun _ => rfl) (fun _ => (by simp [Zak, Zah]))
  obtain ⟨⟨v, c⟩, ⟨hh0, hh1, _⟩, hc⟩ := hh
  exact ⟨v, c, hh0, hh1, hc⟩
-- spec.ReadPerceptron
theorem Zio (s : ByteArray) (hz : s.size ≤ 100000) : ∃ (v : Perceptron) (c : Bool), (v = (rsP s).1) ∧ (c = (rsP s).2) ∧ Con Tryz.prog 11 [Sv s] true (.tup [Zan v, Bv c]) := by
  have hh : ∃ r : Perceptron × Bool, ((r.1 = (rsP s).1) ∧ (r.2 = (rsP s).2) ∧ (True)) ∧ Zaz Tryz.prog 11 [Sv s] (Zaf []) true (.tup [Zan r.1, Bv r.2]) (Zaf []) := by
    refine Zdd (Φ := fun r : Perceptron × Bool => (r.1 = (rsP s).1) ∧ (r.2 = (rsP s).2) ∧ (True)) [] (fun r => []) (fn := Tryz.f11) (nt := 80) Tryz.func11 rfl rfl (args := [Sv s]) rfl (Zbv (.inl ⟨rfl, trivial⟩) Zda) (res := fun r => .tup [Zan r.1, Bv r.2]) ?_
    refine xR [(0, .new 2)] [0, 2] [2] [Sv s, .ref 2 0] [some (.box [Zao, Zao])] [] trivial ?_
    refine Zap ?_
    obtain ⟨v_1, hx1_0, hc1⟩ := Zol s 10 (by omega) (by omega)
    have hlv : v_1 = Zcq ⟨#[10]⟩ s := by rw [hx1_0]; rfl
    have hlp := Zjs 10 s
    have hlz := Zmx 10 s
    rw [← hlv] at hlp hlz
    refine x_r [(1, .call [(true, .any), (true, .any)] true (slS true v_1))] [2, 4] [2] [.ref 2 0, slS true v_1] [some (.box [Zao, Zao])] [Con Tryz.prog 33 [Sv s, .val (.int .u8 10)] true (slS true v_1) ∧ True] ⟨⟨hc1, trivial⟩, trivial⟩ ?_
    refine Zab ?_
    refine xR [(1, .new 5)] [2, 4, 5] [2, 5] [.ref 2 0, slS true v_1, .ref 5 0] [some (.box [Zao, Zao]), some (.box [Zao, Zao])] [] trivial ?_
    refine Zap ?_
    refine Zap ?_
    by_cases h1 : (at_ v_1 (((v_1.length : Int) - 1).toNat)) = (⟨#[]⟩ : ByteArray)
    ·have hc1 : at_ v_1 (v_1.length - 1) = ⟨#[]⟩ := by rw [show v_1.length - 1 = ((v_1.length : Int) - 1).toNat from by omega]; exact h1
     by_cases h2 : 13 < (v_1.length : Int)
     ·have hst := Zqd (s := s) (fun q => by have q1 := q.2.1; rw [← hlv] at q1; omega)
      refine x_r [(6, .dec false), (10, .dec true)] [2, 4, 5, 26] [2, 5] [.ref 2 0, slS true v_1, .ref 5 0, Bv true] [some (.box [Zao, Zao]), some (.box [Zao, Zao])] [inR .i64 ((v_1.length : Int) - 1), (0 : Int) ≤ ((v_1.length : Int) - 1) ∧ ((v_1.length : Int) - 1) < (v_1.length : Int), ¬ ((at_ v_1 (((v_1.length : Int) - 1).toNat)) ≠ (⟨#[]⟩ : ByteArray)), 13 < (v_1.length : Int)] ⟨(Zam (by omega) (by omega)), ⟨(by omega), (by omega)⟩, (fun hq => hq h1), h2, trivial⟩ ?_
      refine Zab ?_
      refine Zbp rfl ?_
      refine xR [] [2, 3] [2] [.ref 2 0, Bv false] [some (.box [Zao, Zao])] [] trivial ?_
      refine Zcd ?_
      refine Zbd ?_
      refine Zbm ((Perceptron.mk ([] : List ByteArray) ([] : List (List Int))), false) (show ((Perceptron.mk ([] : List ByteArray) ([] : List (List Int))) = (rsP s).1) ∧ (false = (rsP s).2) ∧ (True) from ⟨(by first | (rw [hst]; done) | (rw [hst, ← hlv]; exact hfin) | (rw [hst, ← hlv, ← hfin]; done)), (by first | (rw [hst]; done) | (rw [hst, ← hlv]; exact hfin) | (rw [hst, ← hlv, ← hfin]; done)), trivial⟩) (trivial) (.tup [.agg [Zao, Zao], Bv false]) (by kernel_rfl) (.inr ⟨⟨⟨rfl, rfl⟩, ⟨⟨rfl, rfl⟩, rfl⟩⟩, ⟨rfl, rfl⟩⟩) (fun _ => rfl) (fun _ => (by simp [Zak, Zah, Zdc, Zep]))
     have hc2 : v_1.length ≤ 13 := by omega
     refine x_r [(6, .dec false), (10, .dec false)] [2, 4, 5, 26] [2, 5] [.ref 2 0, slS true v_1, .ref 5 0, Bv false] [some (.box [Zao, Zao]), some (.box [Zao, Zao])] [inR .i64 ((v_1.length : Int) - 1), (0 : Int) ≤ ((v_1.length : Int) - 1) ∧ ((v_1.length : Int) - 1) < (v_1.length : Int), ¬ ((at_ v_1 (((v_1.length : Int) - 1).toNat)) ≠ (⟨#[]⟩ : ByteArray)), ¬ (13 < (v_1.length : Int))] ⟨(Zam (by omega) (by omega)), ⟨(by omega), (by omega)⟩, (fun hq => hq h1), h2, trivial⟩ ?_
     refine Zab ?_
     refine Zbe rfl ?_
     refine Zbz ?_
     refine Zab ?_
     refine Zap ?_
     refine xR [] [2, 4, 5, 6] [2, 5] [.ref 2 0, slS true v_1, .ref 5 0, I 0] [some (.box [Zao, Zao]), some (.box [Zao, Zao])] [] trivial ?_
     refine Zby ?_
     refine Zkk 5 0 750 1 (fun _ => []) rfl (by kernel_rfl) ?_
     refine Zkk 5 1 751 1 (fun _ => []) rfl (by kernel_rfl) ?_
     refine Zyt 9203 1 (fun _ => 0) (fun _ _ => []) (by kernel_rfl) ?_
     refine Zcy [] (T := [(2, .ref 2 0), (4, slS true v_1), (5, .ref 5 0), (6, I 0)]) (O := [(2, .box [Zao, Zao]), (5, .box [.arr 750, .arr 751]), (750, tAS ([] : List ByteArray)), (751, Zbu 9203 ([] : List (List Int))), (9203, Zbl ([] : List (List Int)))]) rfl (⟨.inl rfl, .inl rfl, .inl rfl, .inl rfl, trivial⟩) (⟨.inl rfl, .inl rfl, .inr ⟨rfl, (by first | rfl | (simp; done) | (simp; omega) | omega), fun i_ hi_ => absurd hi_ (Nat.not_lt_zero _)⟩, .inr ⟨rfl, rfl, fun i hi => absurd hi (Nat.not_lt_zero _)⟩, .inr ⟨rfl, rfl, fun p hp => absurd hp (Nat.not_lt_zero _)⟩, trivial⟩) ?_
     refine Zef (X := Int × (List ByteArray) × (List (List Int))) (fun x => mkS [(2, .ref 2 0), (4, slS true v_1), (5, .ref 5 0), (6, I x.1)] [(2, .box [Zao, Zao]), (5, .box [.arr 750, .arr 751]), (750, tAS x.2.1), (751, Zbu 9203 x.2.2), (9203, Zbl x.2.2)]) (fun x => (0 ≤ x.1 ∧ x.1 ≤ (v_1.length : Int) - 1) ∧ ((x.2.1.length : Int) = x.1) ∧ ((x.2.2.length : Int) = x.1) ∧ (x.2.1 = (v_1.take x.1.toNat).map Zjf) ∧ (x.2.2 = (v_1.take x.1.toNat).map Zjg) ∧ (∀ j_ : Nat, (j_ : Int) < x.1 → Zoh (at_ v_1 j_) = true) ∧ True) (fun x => ((v_1.length : Int) - x.1).toNat) (0, ([] : List ByteArray), ([] : List (List Int))) rfl (show (0 ≤ (0 : Int) ∧ (0 : Int) ≤ (v_1.length : Int) - 1) ∧ ((([] : List ByteArray).length : Int) = (0 : Int)) ∧ ((([] : List (List Int)).length : Int) = (0 : Int)) ∧ (([] : List ByteArray) = (v_1.take (0 : Int).toNat).map Zjf) ∧ (([] : List (List Int)) = (v_1.take (0 : Int).toNat).map Zjg) ∧ (∀ j_ : Nat, (j_ : Int) < (0 : Int) → Zoh (at_ v_1 j_) = true) ∧ True from ⟨(by omega), (by rfl), (by rfl), (by rfl), (by rfl), (by intro j_ hj_; omega), trivial⟩) (fun x hI => ?_)
     obtain ⟨i, ls, ws⟩ := x
     obtain ⟨hi0, hl1, hl2, hls, hws, hall0, _⟩ : (0 ≤ i ∧ i ≤ (v_1.length : Int) - 1) ∧ ((ls.length : Int) = i) ∧ ((ws.length : Int) = i) ∧ (ls = (v_1.take i.toNat).map Zjf) ∧ (ws = (v_1.take i.toNat).map Zjg) ∧ (∀ j_ : Nat, (j_ : Int) < i → Zoh (at_ v_1 j_) = true) ∧ True := hI
     show XW _ _ _ _ (mkS [(2, .ref 2 0), (4, slS true v_1), (5, .ref 5 0), (6, I i)] [(2, .box [Zao, Zao]), (5, .box [.arr 750, .arr 751]), (750, tAS ls), (751, Zbu 9203 ws), (9203, Zbl ws)]) _ _
     refine Zap ?_
     refine Zap ?_
     by_cases h3 : i < ((v_1.length : Int) - 1)
     ·have hi : i.toNat < v_1.length := by omega
      have hliz : (at_ v_1 i.toNat).size ≤ s.size := by have q := Zcs hi; rw [hlv] at q ⊢; exact Zgs q
      refine x_r [(4, .dec true)] [2, 4, 5, 6, 32] [2, 5, 750, 751, 9203] [.ref 2 0, slS true v_1, .ref 5 0, I i, Bv true] [some (.box [Zao, Zao]), some (.box [.arr 750, .arr 751]), some (tAS ls), some (Zbu 9203 ws), some (Zbl ws)] [inR .i64 ((v_1.length : Int) - 1), i < ((v_1.length : Int) - 1)] ⟨(Zam (by omega) (by omega)), h3, trivial⟩ ?_
      refine Zab ?_
      refine Zbp rfl ?_
      refine Zbz ?_
      refine Zab ?_
      refine Zap ?_
      refine Zby ?_
      refine Zap ?_
      obtain ⟨v_2, hx2_0, hc2⟩ := Zol (at_ v_1 i.toNat) 32 (by omega) (by omega)
      have hwv : v_2 = Zcq ⟨#[32]⟩ (at_ v_1 i.toNat) := by rw [hx2_0]; rfl
      have hwp := Zjs 32 (at_ v_1 i.toNat)
      have hwl := Zmx 32 (at_ v_1 i.toNat)
      rw [← hwv] at hwp hwl
      refine x_r [(4, .call [(true, .any), (true, .any)] true (slS true v_2))] [2, 4, 5, 6, 7] [2, 5, 750, 751, 9203] [.ref 2 0, slS true v_1, .ref 5 0, I i, slS true v_2] [some (.box [Zao, Zao]), some (.box [.arr 750, .arr 751]), some (tAS ls), some (Zbu 9203 ws), some (Zbl ws)] [(0 : Int) ≤ i ∧ i < (v_1.length : Int), Con Tryz.prog 33 [Sv (at_ v_1 i.toNat), .val (.int .u8 32)] true (slS true v_2) ∧ True] ⟨⟨(by omega), (by omega)⟩, ⟨hc2, trivial⟩, trivial⟩ ?_
      refine Zab ?_
      refine xR [(0, .new 40)] [2, 4, 5, 6, 7, 8] [2, 5, 40, 750, 751, 9203] [.ref 2 0, slS true v_1, .ref 5 0, I i, slS true v_2, .arr 40] [some (.box [Zao, Zao]), some (.box [.arr 750, .arr 751]), some (.arr 1 0 (Zcv [] 1)), some (tAS ls), some (Zbu 9203 ws), some (Zbl ws)] [] trivial ?_
      refine Zap ?_
      refine xR [] [2, 4, 5, 6, 7, 8, 9] [2, 5, 40, 750, 751, 9203] [.ref 2 0, slS true v_1, .ref 5 0, I i, slS true v_2, .arr 40, I 1] [some (.box [Zao, Zao]), some (.box [.arr 750, .arr 751]), some (.arr 1 0 (Zcv [] 1)), some (tAS ls), some (Zbu 9203 ws), some (Zbl ws)] [] trivial ?_
      refine Zby ?_
      refine Zcy [] (T := [(2, .ref 2 0), (4, slS true v_1), (5, .ref 5 0), (6, I i), (7, slS true v_2), (8, .arr 40), (9, I 1)]) (O := [(2, .box [Zao, Zao]), (5, .box [.arr 750, .arr 751]), (40, tAI ([] : List Int)), (750, tAS ls), (751, Zbu 9203 ws), (9203, Zbl ws)]) rfl (⟨.inl rfl, .inl rfl, .inl rfl, .inl rfl, .inl rfl, .inl rfl, .inl rfl, trivial⟩) (⟨.inl rfl, .inl rfl, .inr ⟨rfl, (by first | rfl | (simp; done) | (simp; omega) | omega), fun i_ hi_ => absurd hi_ (Nat.not_lt_zero _)⟩, .inl rfl, .inl rfl, .inl rfl, trivial⟩) ?_
      refine Zef (X := (List Int) × Int) (fun x => mkS [(2, .ref 2 0), (4, slS true v_1), (5, .ref 5 0), (6, I i), (7, slS true v_2), (8, .arr 40), (9, I x.2)] [(2, .box [Zao, Zao]), (5, .box [.arr 750, .arr 751]), (40, tAI x.1), (750, tAS ls), (751, Zbu 9203 ws), (9203, Zbl ws)]) (fun x => (1 ≤ x.2 ∧ x.2 ≤ (v_2.length : Int)) ∧ (x.1 = ((v_2.drop 1).take (x.2 - 1).toNat).map dcN) ∧ (∀ j_ : Nat, (j_ : Int) < x.2 - 1 → dcB (at_ v_2 (j_ + 1)) = true) ∧ True) (fun x => ((v_2.length : Int) - x.2).toNat) (([] : List Int), 1) rfl (show (1 ≤ (1 : Int) ∧ (1 : Int) ≤ (v_2.length : Int)) ∧ (([] : List Int) = ((v_2.drop 1).take ((1 : Int) - 1).toNat).map dcN) ∧ (∀ j_ : Nat, (j_ : Int) < (1 : Int) - 1 → dcB (at_ v_2 (j_ + 1)) = true) ∧ True from ⟨(by omega), (by rfl), (by intro j_ hj_; omega), trivial⟩) (fun x hI => ?_)
      obtain ⟨row, k⟩ := x
      obtain ⟨hk0, hrw, hnum0, _⟩ : (1 ≤ k ∧ k ≤ (v_2.length : Int)) ∧ (row = ((v_2.drop 1).take (k - 1).toNat).map dcN) ∧ (∀ j_ : Nat, (j_ : Int) < k - 1 → dcB (at_ v_2 (j_ + 1)) = true) ∧ True := hI
      show XW _ _ _ _ (mkS [(2, .ref 2 0), (4, slS true v_1), (5, .ref 5 0), (6, I i), (7, slS true v_2), (8, .arr 40), (9, I k)] [(2, .box [Zao, Zao]), (5, .box [.arr 750, .arr 751]), (40, tAI row), (750, tAS ls), (751, Zbu 9203 ws), (9203, Zbl ws)]) _ _
      refine Zap ?_
      refine Zap ?_
      by_cases h4 : k < (v_2.length : Int)
      ·have hk : k.toNat < v_2.length := by omega
       have hkz : (at_ v_2 k.toNat).size ≤ (at_ v_1 i.toNat).size := by have q := Zcs hk; rw [hwv] at q ⊢; exact Zgs q
       have hrl : (row.length : Int) = k - 1 := by rw [hrw]; simp only [List.length_map, List.length_take, List.length_drop]; omega
       refine x_r [(3, .dec true)] [2, 4, 5, 6, 7, 8, 9, 44] [2, 5, 40, 750, 751, 9203] [.ref 2 0, slS true v_1, .ref 5 0, I i, slS true v_2, .arr 40, I k, Bv true] [some (.box [Zao, Zao]), some (.box [.arr 750, .arr 751]), some (tAI row), some (tAS ls), some (Zbu 9203 ws), some (Zbl ws)] [k < (v_2.length : Int)] ⟨h4, trivial⟩ ?_
       refine Zab ?_
       refine Zbp rfl ?_
       refine Zbz ?_
       refine Zab ?_
       refine Zap ?_
       refine Zby ?_
       refine Zap ?_
       obtain ⟨v_3, c_3, hx3_0, hx3_1, hc3⟩ := Zub (at_ v_2 k.toNat) (by omega)
       refine x_r [(4, .call [(true, .any)] true (.tup [I v_3, Bv c_3]))] [2, 4, 5, 6, 7, 8, 9, 10, 11] [2, 5, 40, 750, 751, 9203] [.ref 2 0, slS true v_1, .ref 5 0, I i, slS true v_2, .arr 40, I k, I v_3, Bv c_3] [some (.box [Zao, Zao]), some (.box [.arr 750, .arr 751]), some (tAI row), some (tAS ls), some (Zbu 9203 ws), some (Zbl ws)] [(0 : Int) ≤ k ∧ k < (v_2.length : Int), Con Tryz.prog 34 [Sv (at_ v_2 k.toNat)] true (.tup [I v_3, Bv c_3]) ∧ True] ⟨⟨(by omega), (by omega)⟩, ⟨hc3, trivial⟩, trivial⟩ ?_
       refine Zab ?_
       refine Zap ?_
       refine Zap ?_
       rcases Bool.eq_false_or_eq_true c_3 with h5 | h5
       ·subst h5
        have hdb : dcB (at_ v_2 k.toNat) = true := hx3_1.symm
        refine x_r [] [2, 4, 5, 6, 7, 8, 9, 10, 56] [2, 5, 40, 750, 751, 9203] [.ref 2 0, slS true v_1, .ref 5 0, I i, slS true v_2, .arr 40, I k, I v_3, Bv false] [some (.box [Zao, Zao]), some (.box [.arr 750, .arr 751]), some (tAI row), some (tAS ls), some (Zbu 9203 ws), some (Zbl ws)] [] trivial ?_
        refine Zab ?_
        refine Zbe rfl ?_
        refine Zbz ?_
        refine Zab ?_
        refine x_r [(2, .new 60), (3, .new 61)] [2, 4, 5, 6, 7, 8, 9] [2, 5, 61, 750, 751, 9203] [.ref 2 0, slS true v_1, .ref 5 0, I i, slS true v_2, .arr 61, I k] [some (.box [Zao, Zao]), some (.box [.arr 750, .arr 751]), some (.arr 1 (row.length + 1) (Zde row.length (fI row) (Zcv [I v_3] 1))), some (tAS ls), some (Zbu 9203 ws), some (Zbl ws)] [(row.length + 1) * 8 ≤ 140737488355328] ⟨(by omega), trivial⟩ ?_
        refine Zbq 3 ?_
        refine Zab ?_
        refine x_r [] [2, 4, 5, 6, 7, 8, 9] [2, 5, 61, 750, 751, 9203] [.ref 2 0, slS true v_1, .ref 5 0, I i, slS true v_2, .arr 61, I (k + 1)] [some (.box [Zao, Zao]), some (.box [.arr 750, .arr 751]), some (.arr 1 (row.length + 1) (Zde row.length (fI row) (Zcv [I v_3] 1))), some (tAS ls), some (Zbu 9203 ws), some (Zbl ws)] [inR .i64 (k + 1)] ⟨(Zam (by omega) (by omega)), trivial⟩ ?_
        refine Zcw [(40, 61)] (T := [(2, .ref 2 0), (4, slS true v_1), (5, .ref 5 0), (6, I i), (7, slS true v_2), (8, .arr 40), (9, I (k + 1))]) (O := [(2, .box [Zao, Zao]), (5, .box [.arr 750, .arr 751]), (40, tAI (row ++ [v_3])), (750, tAS ls), (751, Zbu 9203 ws), (9203, Zbl ws)]) rfl (⟨.inl rfl, .inl rfl, .inl rfl, .inl rfl, .inl rfl, .inl rfl, .inl rfl, trivial⟩) (⟨.inl rfl, .inl rfl, .inr ⟨rfl, (by first | rfl | (simp; done) | (simp; omega) | omega), fun i_ hi_ => .inl (Zec (enc := cI) (xs := row) rfl i_ hi_)⟩, .inl rfl, .inl rfl, .inl rfl, trivial⟩) (Zch ((row ++ [v_3]), (k + 1)) rfl (show (1 ≤ (k + 1) ∧ (k + 1) ≤ (v_2.length : Int)) ∧ ((row ++ [v_3]) = ((v_2.drop 1).take ((k + 1) - 1).toNat).map dcN) ∧ (∀ j_ : Nat, (j_ : Int) < (k + 1) - 1 → dcB (at_ v_2 (j_ + 1)) = true) ∧ True from ⟨(by omega), (by rw [hrw, show k + 1 - 1 = (k - 1) + 1 from by omega]; exact (Zfg (by omega) (by rw [List.length_drop]; omega) (by rw [Zku, show (k - 1).toNat + 1 = k.toNat from by omega]; assumption)).symm), (by intro j_ hj_; by_cases ej : j_ + 1 = k.toNat; (rw [ej]; exact hdb); exact hnum0 j_ (by omega)), trivial⟩) (by first | (show (((v_2.length : Int) - (k + 1)).toNat : Nat) < ((v_2.length : Int) - k).toNat; omega) | (dsimp only; omega)))
       subst h5
       have hdb : dcB (at_ v_2 k.toNat) = false := hx3_1.symm
       have hst := Zqd (s := s) (fun q => by have q1 := Zhg (q.2.2.1 i.toNat (by rw [← hlv]; omega)) (k := k.toNat - 1) (by rw [← hlv, ← hwv]; omega); rw [← hlv, ← hwv, show k.toNat - 1 + 1 = k.toNat from by omega, hdb] at q1; cases q1)
       refine x_r [] [2, 4, 5, 6, 7, 8, 9, 10, 56] [2, 5, 40, 750, 751, 9203] [.ref 2 0, slS true v_1, .ref 5 0, I i, slS true v_2, .arr 40, I k, I v_3, Bv true] [some (.box [Zao, Zao]), some (.box [.arr 750, .arr 751]), some (tAI row), some (tAS ls), some (Zbu 9203 ws), some (Zbl ws)] [] trivial ?_
       refine Zab ?_
       refine Zbp rfl ?_
       refine xR [] [2, 3] [2] [.ref 2 0, Bv false] [some (.box [Zao, Zao])] [] trivial ?_
       refine Zcd ?_
       refine Zbd (Zdg (Zbd (Zfs (Zdg (Zbd (Zdg (Zbd (Zfs (Zdg (Zbd ?_))))))))))
       refine Zbm ((Perceptron.mk ([] : List ByteArray) ([] : List (List Int))), false) (show ((Perceptron.mk ([] : List ByteArray) ([] : List (List Int))) = (rsP s).1) ∧ (false = (rsP s).2) ∧ (True) from ⟨(by first | (rw [hst]; done) | (rw [hst, ← hlv]; exact hfin) | (rw [hst, ← hlv, ← hfin]; done)), (by first | (rw [hst]; done) | (rw [hst, ← hlv]; exact hfin) | (rw [hst, ← hlv, ← hfin]; done)), trivial⟩) (trivial) (.tup [.agg [Zao, Zao], Bv false]) (by kernel_rfl) (.inr ⟨⟨⟨rfl, rfl⟩, ⟨⟨rfl, rfl⟩, rfl⟩⟩, ⟨rfl, rfl⟩⟩) (fun _ => rfl) (fun _ => (by simp [Zak, Zah, Zdc, Zep]))
      have hrf : row = Zjg (at_ v_1 i.toNat) := by rw [hrw, hwv]; exact Ycj (by rw [List.length_drop, ← hwv]; omega)
      have hrn : Zoh (at_ v_1 i.toNat) = true := by unfold Zoh; rw [← hwv]; exact Zfd fun j_ hj_ => hnum0 j_ (by omega)
      refine x_r [(3, .dec false)] [2, 4, 5, 6, 7, 8, 9, 44] [2, 5, 40, 750, 751, 9203] [.ref 2 0, slS true v_1, .ref 5 0, I i, slS true v_2, .arr 40, I k, Bv false] [some (.box [Zao, Zao]), some (.box [.arr 750, .arr 751]), some (tAI row), some (tAS ls), some (Zbu 9203 ws), some (Zbl ws)] [¬ (k < (v_2.length : Int))] ⟨h4, trivial⟩ ?_
      refine Zab ?_
      refine Zbe rfl ?_
      refine Zee ?_
      refine Zbr ?_
      refine Zbt ?_
      refine Zbs ?_
      refine Zab ?_
      refine xR [(5, .new 67), (6, .new 68)] [2, 4, 5, 6, 8] [2, 5, 40, 68, 751, 9203] [.ref 2 0, slS true v_1, .ref 5 0, I i, .arr 40] [some (.box [Zao, Zao]), some (.box [.arr 68, .arr 751]), some (tAI row), some (.arr 1 (ls.length + 1) (Zde ls.length (fS ls) (Zcv [Sv (at_ v_2 0)] 1))), some (Zbu 9203 ws), some (Zbl ws)] [(0 : Int) ≤ 0 ∧ 0 < (v_2.length : Int), (ls.length + 1) * 16 ≤ 140737488355328] ⟨⟨(by omega), (by omega)⟩, (by omega), trivial⟩ ?_
      refine x_r [(3, .new 73), (4, .new 74)] [2, 4, 5, 6] [2, 5, 40, 68, 74, 9203] [.ref 2 0, slS true v_1, .ref 5 0, I i] [some (.box [Zao, Zao]), some (.box [.arr 68, .arr 74]), some (tAI row), some (.arr 1 (ls.length + 1) (Zde ls.length (fS ls) (Zcv [Sv (at_ v_2 0)] 1))), some (.oar [9203, 40] 1 (ws.length + 1) (Zde ws.length (oLI 9203 ws) (Zcv [.arr 40] 1))), some (Zbl ws)] [(ws.length + 1) * 24 ≤ 140737488355328] ⟨(by omega), trivial⟩ ?_
      refine Zbq 1 ?_
      refine Zab ?_
      refine x_r [] [2, 4, 5, 6] [2, 5, 40, 68, 74, 9203] [.ref 2 0, slS true v_1, .ref 5 0, I (i + 1)] [some (.box [Zao, Zao]), some (.box [.arr 68, .arr 74]), some (tAI row), some (.arr 1 (ls.length + 1) (Zde ls.length (fS ls) (Zcv [Sv (at_ v_2 0)] 1))), some (.oar [9203, 40] 1 (ws.length + 1) (Zde ws.length (oLI 9203 ws) (Zcv [.arr 40] 1))), some (Zbl ws)] [inR .i64 (i + 1)] ⟨(Zam (by omega) (by omega)), trivial⟩ ?_
      refine Zll 40 9203 rfl rfl rfl ?_
      refine Zcw [(750, 68), (751, 74)] (T := [(2, .ref 2 0), (4, slS true v_1), (5, .ref 5 0), (6, I (i + 1))]) (O := [(2, .box [Zao, Zao]), (5, .box [.arr 750, .arr 751]), (750, tAS (ls ++ [(at_ v_2 0)])), (751, Zbu 9203 (ws ++ [row])), (9203, Zbl (ws ++ [row]))]) rfl (⟨.inl rfl, .inl rfl, .inl rfl, .inl rfl, trivial⟩) (⟨.inl rfl, .inl rfl, .inr ⟨rfl, (by first | rfl | (simp; done) | (simp; omega) | omega), fun i_ hi_ => .inl (Zec (enc := cS) (xs := ls) rfl i_ hi_)⟩, .inr ⟨rfl, rfl, (by simp), fun i hi => .inl (Zqe rfl rfl rfl i hi)⟩, .inr (Zqf row (by first | rfl | (simp; done)) (fun i _ => rfl)), trivial⟩) (Zch ((i + 1), (ls ++ [(at_ v_2 0)]), (ws ++ [row])) rfl (show (0 ≤ (i + 1) ∧ (i + 1) ≤ (v_1.length : Int) - 1) ∧ (((ls ++ [(at_ v_2 0)]).length : Int) = (i + 1)) ∧ (((ws ++ [row]).length : Int) = (i + 1)) ∧ ((ls ++ [(at_ v_2 0)]) = (v_1.take (i + 1).toNat).map Zjf) ∧ ((ws ++ [row]) = (v_1.take (i + 1).toNat).map Zjg) ∧ (∀ j_ : Nat, (j_ : Int) < (i + 1) → Zoh (at_ v_1 j_) = true) ∧ True from ⟨(by omega), (by simp; omega), (by simp; omega), (by rw [hls]; exact (Zfg (by omega) hi (by unfold Zjf; rw [hwv])).symm), (by rw [hws]; exact (Zfg (by omega) hi hrf).symm), (by intro j_ hj_; by_cases ej : j_ = i.toNat; (subst ej; exact hrn); exact hall0 j_ (by omega)), trivial⟩) (by first | (show (((v_1.length : Int) - (i + 1)).toNat : Nat) < ((v_1.length : Int) - i).toNat; omega) | (dsimp only; omega)))
     have hie : i.toNat = v_1.length - 1 := by omega
     have hfin : Perceptron.mk ls ws = Zlk (v_1.take (v_1.length - 1)) := by rw [hls, hws, hie]; rfl
     have hnum : ∀ j_, j_ < v_1.length - 1 → Zoh (at_ v_1 j_) = true := fun j_ hj_ => hall0 j_ (by omega)
     have hsz9 : ∀ y ∈ ls, y.size ≤ 9223372036854775807 := fun y hy => by have q := Yci (B := s.size) (ls := v_1.take (v_1.length - 1)) (fun l hl => by have q := List.mem_of_mem_take hl; rw [hlv] at q; exact Zgs q) y (by rw [← hfin]; exact hy); omega
     refine x_r [(4, .dec false)] [2, 4, 5, 6, 32] [2, 5, 750, 751, 9203] [.ref 2 0, slS true v_1, .ref 5 0, I i, Bv false] [some (.box [Zao, Zao]), some (.box [.arr 750, .arr 751]), some (tAS ls), some (Zbu 9203 ws), some (Zbl ws)] [inR .i64 ((v_1.length : Int) - 1), ¬ (i < ((v_1.length : Int) - 1))] ⟨(Zam (by omega) (by omega)), h3, trivial⟩ ?_
     refine Zab ?_
     refine Zbe rfl ?_
     refine Zee ?_
     refine Zbr ?_
     refine Zbt ?_
     refine Zbs ?_
     refine Zab ?_
     refine Zap ?_
     refine Zap ?_
     rcases Bool.eq_false_or_eq_true (Zbb (Perceptron.mk ls ws)) with h6 | h6
     ·have hst := Ych (s := s) (by rw [← hlv]; exact ⟨hc1, hc2, hnum, by rw [← hfin]; exact h6⟩)
      refine x_r [(0, .call [(false, .ptr false [slS false ls, Zbg false ws])] true (Bv true))] [2, 5, 77] [2, 5, 750, 751, 9203] [.ref 2 0, .ref 5 0, Bv false] [some (.box [Zao, Zao]), some (.box [.arr 750, .arr 751]), some (tAS ls), some (Zbu 9203 ws), some (Zbl ws)] [Con Tryz.prog 35 [.ptr false [slS false ls, Zbg false ws]] true (Bv true) ∧ ((false = true → true = true) ∧ AV.idsL [slS false ls, Zbg false ws] = [] ∧ ((false = true → true = true) ∧ 1 = 1 ∧ ls.length = ls.length ∧ ∀ i_, i_ < ls.length → (fS ls) i_ = (fS ls) i_ ∨ (AV.idsL ((fS ls) i_) = [] ∧ leL (fun _ => none) false ((fS ls) i_) ((fS ls) i_))) ∧ ((false = true → true = true) ∧ 1 = 1 ∧ ws.length = ws.length ∧ ∀ i_, i_ < ws.length → AV.idsL ((fLI false ws) i_) = [] ∧ leL (Zaf [(9203, Zbl ws)]) true ((oLI 9203 ws) i_) ((fLI false ws) i_)) ∧ ([] : List AV) = []) ∧ True] ⟨⟨(Zaq h6 (Zeu (Perceptron.mk ls ws) hsz9)), ⟨(fun h => by cases h), rfl, ⟨⟨(fun h => by cases h), rfl, rfl, fun i _ => .inl rfl⟩, ⟨⟨(fun h => by cases h), rfl, rfl, Zfv _ _ rfl⟩, rfl⟩⟩⟩, trivial⟩, trivial⟩ ?_
      refine Zab ?_
      refine Zbe rfl ?_
      refine Zbz ?_
      refine Zab ?_
      refine xR [] [2, 3] [2, 750, 751, 9203] [.ref 2 0, Bv true] [some (.box [.arr 750, .arr 751]), some (tAS ls), some (Zbu 9203 ws), some (Zbl ws)] [] trivial ?_
      refine Zcd ?_
      refine Zbm ((Perceptron.mk ls ws), true) (show ((Perceptron.mk ls ws) = (rsP s).1) ∧ (true = (rsP s).2) ∧ (True) from ⟨(by first | (rw [hst]; done) | (rw [hst, ← hlv]; exact hfin) | (rw [hst, ← hlv, ← hfin]; done)), (by first | (rw [hst]; done) | (rw [hst, ← hlv]; exact hfin) | (rw [hst, ← hlv, ← hfin]; done)), trivial⟩) (trivial) (.tup [.agg [.arr 750, .arr 751], Bv true]) (by kernel_rfl) (.inr ⟨⟨⟨(fun _ => rfl), rfl, rfl, fun i _ => .inl rfl⟩, ⟨⟨(fun _ => rfl), rfl, rfl, Zfv _ _ rfl⟩, rfl⟩⟩, ⟨rfl, rfl⟩⟩) (fun _ => rfl) (fun _ => (by simp [Zak, Zah, Zdc, Zep]))
     have hst := Zqd (s := s) (fun q => by have q1 := q.2.2.2; rw [← hlv, ← hfin] at q1; rw [h6] at q1; cases q1)
     refine x_r [(0, .call [(false, .ptr false [slS false ls, Zbg false ws])] true (Bv false))] [2, 5, 77] [2, 5, 750, 751, 9203] [.ref 2 0, .ref 5 0, Bv true] [some (.box [Zao, Zao]), some (.box [.arr 750, .arr 751]), some (tAS ls), some (Zbu 9203 ws), some (Zbl ws)] [Con Tryz.prog 35 [.ptr false [slS false ls, Zbg false ws]] true (Bv false) ∧ ((false = true → true = true) ∧ AV.idsL [slS false ls, Zbg false ws] = [] ∧ ((false = true → true = true) ∧ 1 = 1 ∧ ls.length = ls.length ∧ ∀ i_, i_ < ls.length → (fS ls) i_ = (fS ls) i_ ∨ (AV.idsL ((fS ls) i_) = [] ∧ leL (fun _ => none) false ((fS ls) i_) ((fS ls) i_))) ∧ ((false = true → true = true) ∧ 1 = 1 ∧ ws.length = ws.length ∧ ∀ i_, i_ < ws.length → AV.idsL ((fLI false ws) i_) = [] ∧ leL (Zaf [(9203, Zbl ws)]) true ((oLI 9203 ws) i_) ((fLI false ws) i_)) ∧ ([] : List AV) = []) ∧ True] ⟨⟨(Zaq h6 (Zeu (Perceptron.mk ls ws) hsz9)), ⟨(fun h => by cases h), rfl, ⟨⟨(fun h => by cases h), rfl, rfl, fun i _ => .inl rfl⟩, ⟨⟨(fun h => by cases h), rfl, rfl, Zfv _ _ rfl⟩, rfl⟩⟩⟩, trivial⟩, trivial⟩ ?_
     refine Zab ?_
     refine Zbp rfl ?_
     refine xR [] [2, 3] [2] [.ref 2 0, Bv false] [some (.box [Zao, Zao])] [] trivial ?_
     refine Zcd ?_
     refine Zbd ?_
     refine Zbm ((Perceptron.mk ([] : List ByteArray) ([] : List (List Int))), false) (show ((Perceptron.mk ([] : List ByteArray) ([] : List (List Int))) = (rsP s).1) ∧ (false = (rsP s).2) ∧ (True) from ⟨(by first | (rw [hst]; done) | (rw [hst, ← hlv]; exact hfin) | (rw [hst, ← hlv, ← hfin]; done)), (by first | (rw [hst]; done) | (rw [hst, ← hlv]; exact hfin) | (rw [hst, ← hlv, ← hfin]; done)), trivial⟩) (trivial) (.tup [.agg [Zao, Zao], Bv false]) (by kernel_rfl) (.inr ⟨⟨⟨rfl, rfl⟩, ⟨⟨rfl, rfl⟩, rfl⟩⟩, ⟨rfl, rfl⟩⟩) (fun _ => rfl) (fun _ => (by simp [Zak, Zah, Zdc, Zep]))
    have hst := Zqd (s := s) (fun q => by have q1 := q.1; rw [← hlv, show v_1.length - 1 = ((v_1.length : Int) - 1).toNat from by omega] at q1; exact h1 q1)
    refine x_r [(6, .dec true)] [2, 4, 5, 26] [2, 5] [.ref 2 0, slS true v_1, .ref 5 0, Bv true] [some (.box [Zao, Zao]), some (.box [Zao, Zao])] [inR .i64 ((v_1.length : Int) - 1), (0 : Int) ≤ ((v_1.length : Int) - 1) ∧ ((v_1.length : Int) - 1) < (v_1.length : Int), (at_ v_1 (((v_1.length : Int) - 1).toNat)) ≠ (⟨#[]⟩ : ByteArray)] ⟨(Zam (by omega) (by omega)), ⟨(by omega), (by omega)⟩, h1, trivial⟩ ?_
    refine Zab ?_
    refine Zbp rfl ?_
    refine xR [] [2, 3] [2] [.ref 2 0, Bv false] [some (.box [Zao, Zao])] [] trivial ?_
    refine Zcd ?_
    refine Zbd ?_
    refine Zbm ((Perceptron.mk ([] : List ByteArray) ([] : List (List Int))), false) (show ((Perceptron.mk ([] : List ByteArray) ([] : List (List Int))) = (rsP s).1) ∧ (false = (rsP s).2) ∧ (True) from ⟨(by first | (rw [hst]; done) | (rw [hst, ← hlv]; exact hfin) | (rw [hst, ← hlv, ← hfin]; done)), (by first | (rw [hst]; done) | (rw [hst, ← hlv]; exact hfin) | (rw [hst, ← hlv, ← hfin]; done)), trivial⟩) (trivial) (.tup [.agg [Zao, Zao], Bv false]) (by kernel_rfl) (.inr ⟨⟨⟨rfl, rfl⟩, ⟨⟨rfl, rfl⟩, rfl⟩⟩, ⟨rfl, rfl⟩⟩) (fun _ => rfl) (fun _ => (by simp [Zak, Zah, Zdc, Zep]))
  obtain ⟨⟨v, c⟩, ⟨hh0, hh1, _⟩, hc⟩ := hh
  exact ⟨v, c, hh0, hh1, hc⟩
-- spec.l00Same
theorem Zqk (a : List Int) (b : List Int) : Con Tryz.prog 36 [slI false a, slI false b] true (Bv (Zil a b)) := by
  refine Zdb (fn := Tryz.f36) (nt := 26) Tryz.func36 rfl rfl rfl rfl (by simp [Zah, Zak, Zpa]) fun B hB => ?_
  refine Zce (x := slI false a) 0 rfl (fun len_a => ?_)
  simp [Zdr, Zgi, cI, fI, slI] at len_a
  refine Zce (x := slI false b) 1 rfl (fun len_b => ?_)
  simp [Zdr, Zgi, cI, fI, slI] at len_b
  refine aR [] [0, 1] [] [slI false a, slI false b] [] [] hB trivial ?_
  refine Zal ?_
  refine Zal ?_
  by_cases h1 : (a.length : Int) = (b.length : Int)
  ·have hlen : a.length = b.length := by omega
   refine Zbx [(4, .dec false)] [0, 1, 10] [] [slI false a, slI false b, Bv false] [] [¬ ((a.length : Int) ≠ (b.length : Int))] hB ⟨(fun hq => hq h1), trivial⟩ ?_
   refine Zac ?_
   refine Zay rfl ?_
   refine Zbf ?_
   refine Zac ?_
   refine Zal ?_
   refine aR [] [0, 1, 5] [] [slI false a, slI false b, I 0] [] [] hB trivial ?_
   refine Zbn ?_
   refine Zdk (fun gn gσ => ∃ (i : Int), gn = ((a.length : Int) - i).toNat ∧ (0 ≤ i ∧ i ≤ (a.length : Int)) ∧ (∀ j : Nat, (j : Int) < i → decide (at_ a j = at_ b j) = true) ∧ gσ = mkS [(0, slI false a), (1, slI false b), (5, I i)] []) (((a.length : Int) - 0).toNat) ⟨0, rfl, (by omega), (by intro j hj; omega), rfl⟩ (fun gn gσ hI => ?_)
   obtain ⟨i, rfl, hi0, hall0, rfl⟩ := hI
   refine Zal ?_
   refine Zal ?_
   by_cases h2 : i < (a.length : Int)
   ·have hi : i.toNat < a.length := by omega
    refine Zbx [(3, .dec true)] [0, 1, 5, 14] [] [slI false a, slI false b, I i, Bv true] [] [i < (a.length : Int)] hB ⟨h2, trivial⟩ ?_
    refine Zac ?_
    refine Zbc rfl ?_
    refine Zbf ?_
    refine Zac ?_
    refine Zal ?_
    refine Zbn ?_
    refine Zal ?_
    by_cases h3 : (at_ a i.toNat) = (at_ b i.toNat)
    ·have hok : decide (at_ a i.toNat = at_ b i.toNat) = true := decide_eq_true h3
     refine Zbx [(8, .dec false)] [0, 1, 5, 25] [] [slI false a, slI false b, I i, Bv false] [] [(0 : Int) ≤ i ∧ i < (a.length : Int), (0 : Int) ≤ i ∧ i < (b.length : Int), ¬ ((at_ a i.toNat) ≠ (at_ b i.toNat))] hB ⟨⟨(by omega), (by omega)⟩, ⟨(by omega), (by omega)⟩, (fun hq => hq h3), trivial⟩ ?_
     refine Zac ?_
     refine Zay rfl ?_
     refine Zbf ?_
     refine Zcm 1 ?_
     refine Zac ?_
     refine Zbx [] [0, 1, 5] [] [slI false a, slI false b, I (i + 1)] [] [inR .i64 (i + 1)] hB ⟨(Zam (by omega) (by omega)), trivial⟩ ?_
     exact Zcp _ (by omega) ⟨(i + 1), rfl, (by omega), (by intro j hj; by_cases ej : j = i.toNat; (subst ej; first | assumption | exact hok); exact hall0 j (by omega)), rfl⟩
    have hall : Zik a.length (fun j => decide (at_ a j = at_ b j)) = false := Zfw hi (decide_eq_false h3)
    refine Zbx [(8, .dec true)] [0, 1, 5, 25] [] [slI false a, slI false b, I i, Bv true] [] [(0 : Int) ≤ i ∧ i < (a.length : Int), (0 : Int) ≤ i ∧ i < (b.length : Int), (at_ a i.toNat) ≠ (at_ b i.toNat)] hB ⟨⟨(by omega), (by omega)⟩, ⟨(by omega), (by omega)⟩, h3, trivial⟩ ?_
    refine Zac ?_
    refine Zbc rfl ?_
    refine aR [] [4] [] [Bv false] [] [] hB trivial ?_
    refine Zax ?_
    refine Zat (Zai (Zai (Zat (Zai ?_))))
    refine Zba hB (Bv false) (by kernel_rfl) (.inl (by first | (simp [Zil, hlen]; done) | (unfold Zil; rw [hall]; simp [hlen]))) rfl (fun _ => trivial)
   have hall : Zik a.length (fun j => decide (at_ a j = at_ b j)) = true := Zfd (fun j hj => hall0 j (by omega))
   refine Zbx [(3, .dec false)] [0, 1, 5, 14] [] [slI false a, slI false b, I i, Bv false] [] [¬ (i < (a.length : Int))] hB ⟨h2, trivial⟩ ?_
   refine Zac ?_
   refine Zay rfl ?_
   refine Zdl ?_
   refine Zas ?_
   refine Zas ?_
   refine Zbw ?_
   refine Zac ?_
   refine aR [] [4] [] [Bv true] [] [] hB trivial ?_
   refine Zax ?_
   refine Zba hB (Bv true) (by kernel_rfl) (.inl (by first | (simp [Zil, hlen]; done) | (unfold Zil; rw [hall]; simp [hlen]))) rfl (fun _ => trivial)
  have hlen : ¬ a.length = b.length := by omega
  refine Zbx [(4, .dec true)] [0, 1, 10] [] [slI false a, slI false b, Bv true] [] [(a.length : Int) ≠ (b.length : Int)] hB ⟨h1, trivial⟩ ?_
  refine Zac ?_
  refine Zbc rfl ?_
  refine aR [] [4] [] [Bv false] [] [] hB trivial ?_
  refine Zax ?_
  refine Zai ?_
  refine Zba hB (Bv false) (by kernel_rfl) (.inl (by first | (simp [Zil, hlen]; done) | (unfold Zil; rw [hall]; simp [hlen]))) rfl (fun _ => trivial)
-- spec.SamePerceptron
theorem Zcu (a : Perceptron) (b : Perceptron) : Con Tryz.prog 12 [Zae a, Zae b] true (Bv (Zky a b)) := by
  refine Zdb (fn := Tryz.f12) (nt := 60) Tryz.func12 rfl rfl rfl rfl (by simp [Zah, Zak, Zdc, Zep]) fun B hB => ?_
  refine Zce (x := Zae a) 0 rfl (fun len_a => ?_)
  simp [Zdr, Zgi, cI, cLI, cS, fI, fLI, fS, slI, Zbg, slS] at len_a
  refine Zce (x := Zae b) 1 rfl (fun len_b => ?_)
  simp [Zdr, Zgi, cI, cLI, cS, fI, fLI, fS, slI, Zbg, slS] at len_b
  refine aR [(0, .new 2), (1, .new 3)] [2, 3] [2, 3] [.ref 2 0, .ref 3 0] [some (Zag a), some (Zag b)] [] hB trivial ?_
  refine Zal ?_
  refine Zal ?_
  by_cases h1 : (a.Labels.length : Int) = (b.Labels.length : Int)
  ·have hl1 : a.Labels.length = b.Labels.length := by omega
   by_cases h2 : (a.Weights.length : Int) = (b.Weights.length : Int)
   ·have hl2 : a.Weights.length = b.Weights.length := by omega
    refine Zbx [(6, .dec false), (14, .dec false)] [2, 3, 22] [2, 3] [.ref 2 0, .ref 3 0, Bv false] [some (Zag a), some (Zag b)] [¬ ((a.Labels.length : Int) ≠ (b.Labels.length : Int)), ¬ ((a.Weights.length : Int) ≠ (b.Weights.length : Int))] hB ⟨(fun hq => hq h1), (fun hq => hq h2), trivial⟩ ?_
    refine Zac ?_
    refine Zay rfl ?_
    refine Zbf ?_
    refine Zac ?_
    refine Zal ?_
    refine aR [] [2, 3, 5] [2, 3] [.ref 2 0, .ref 3 0, I 0] [some (Zag a), some (Zag b)] [] hB trivial ?_
    refine Zbn ?_
    refine Zdk (fun gn gσ => ∃ (i : Int), gn = ((a.Labels.length : Int) - i).toNat ∧ (0 ≤ i ∧ i ≤ (a.Labels.length : Int)) ∧ (∀ j : Nat, (j : Int) < i → decide (at_ a.Labels j = at_ b.Labels j) = true) ∧ gσ = mkS [(2, .ref 2 0), (3, .ref 3 0), (5, I i)] [(2, Zag a), (3, Zag b)]) (((a.Labels.length : Int) - 0).toNat) ⟨0, rfl, (by omega), (by intro j hj; omega), rfl⟩ (fun gn gσ hI => ?_)
    obtain ⟨i, rfl, hi0, hall0, rfl⟩ := hI
    refine Zal ?_
    refine Zal ?_
    by_cases h3 : i < (a.Labels.length : Int)
    ·have hi : i.toNat < a.Labels.length := by omega
     refine Zbx [(4, .dec true)] [2, 3, 5, 27] [2, 3] [.ref 2 0, .ref 3 0, I i, Bv true] [some (Zag a), some (Zag b)] [i < (a.Labels.length : Int)] hB ⟨h3, trivial⟩ ?_
     refine Zac ?_
     refine Zbc rfl ?_
     refine Zbf ?_
     refine Zac ?_
     refine Zal ?_
     refine Zbn ?_
     refine Zal ?_
     by_cases h4 : (at_ a.Labels i.toNat) = (at_ b.Labels i.toNat)
     ·have hok : decide (at_ a.Labels i.toNat = at_ b.Labels i.toNat) = true := decide_eq_true h4
      refine Zbx [(10, .dec false)] [2, 3, 5, 40] [2, 3] [.ref 2 0, .ref 3 0, I i, Bv false] [some (Zag a), some (Zag b)] [(0 : Int) ≤ i ∧ i < (a.Labels.length : Int), (0 : Int) ≤ i ∧ i < (b.Labels.length : Int), ¬ ((at_ a.Labels i.toNat) ≠ (at_ b.Labels i.toNat))] hB ⟨⟨(by omega), (by omega)⟩, ⟨(by omega), (by omega)⟩, (fun hq => hq h4), trivial⟩ ?_
      refine Zac ?_
      refine Zay rfl ?_
      refine Zbf ?_
      refine Zcm 1 ?_
      refine Zac ?_
      refine Zbx [] [2, 3, 5] [2, 3] [.ref 2 0, .ref 3 0, I (i + 1)] [some (Zag a), some (Zag b)] [inR .i64 (i + 1)] hB ⟨(Zam (by omega) (by omega)), trivial⟩ ?_
      exact Zcp _ (by omega) ⟨(i + 1), rfl, (by omega), (by intro j hj; by_cases ej : j = i.toNat; (subst ej; first | assumption | exact hok); exact hall0 j (by omega)), rfl⟩
     have hst : Zky a b = false := by unfold Zky Zil; rw [Zfw hi (decide_eq_false h4)]; simp
     refine Zbx [(10, .dec true)] [2, 3, 5, 40] [2, 3] [.ref 2 0, .ref 3 0, I i, Bv true] [some (Zag a), some (Zag b)] [(0 : Int) ≤ i ∧ i < (a.Labels.length : Int), (0 : Int) ≤ i ∧ i < (b.Labels.length : Int), (at_ a.Labels i.toNat) ≠ (at_ b.Labels i.toNat)] hB ⟨⟨(by omega), (by omega)⟩, ⟨(by omega), (by omega)⟩, h4, trivial⟩ ?_
     refine Zac ?_
     refine Zbc rfl ?_
     refine aR [] [4] [] [Bv false] [] [] hB trivial ?_
     refine Zax ?_
     refine Zat (Zai (Zai (Zat (Zai ?_))))
     refine Zba hB (Bv false) (by kernel_rfl) (.inl (by exact congrArg Bv hst.symm)) rfl (fun _ => trivial)
    have hs1 : Zil a.Labels b.Labels = true := by unfold Zil; rw [decide_eq_true hl1, Zfd (fun j hj => hall0 j (by omega))]; rfl
    refine Zbx [(4, .dec false)] [2, 3, 5, 27] [2, 3] [.ref 2 0, .ref 3 0, I i, Bv false] [some (Zag a), some (Zag b)] [¬ (i < (a.Labels.length : Int))] hB ⟨h3, trivial⟩ ?_
    refine Zac ?_
    refine Zay rfl ?_
    refine Zdl ?_
    refine Zas ?_
    refine Zas ?_
    refine Zbw ?_
    refine Zac ?_
    refine Zal ?_
    refine aR [] [2, 3, 6] [2, 3] [.ref 2 0, .ref 3 0, I 0] [some (Zag a), some (Zag b)] [] hB trivial ?_
    refine Zbn ?_
    refine Zdk (fun gn gσ => ∃ (i' : Int), gn = ((a.Weights.length : Int) - i').toNat ∧ (0 ≤ i' ∧ i' ≤ (a.Weights.length : Int)) ∧ (∀ j : Nat, (j : Int) < i' → Zil (at_ a.Weights j) (at_ b.Weights j) = true) ∧ gσ = mkS [(2, .ref 2 0), (3, .ref 3 0), (6, I i')] [(2, Zag a), (3, Zag b)]) (((a.Weights.length : Int) - 0).toNat) ⟨0, rfl, (by omega), (by intro j hj; omega), rfl⟩ (fun gn gσ hI => ?_)
    obtain ⟨i', rfl, hj0, hall1, rfl⟩ := hI
    refine Zal ?_
    refine Zal ?_
    by_cases h5 : i' < (a.Weights.length : Int)
    ·have hi2 : i'.toNat < a.Weights.length := by omega
     refine Zbx [(4, .dec true)] [2, 3, 6, 45] [2, 3] [.ref 2 0, .ref 3 0, I i', Bv true] [some (Zag a), some (Zag b)] [i' < (a.Weights.length : Int)] hB ⟨h5, trivial⟩ ?_
     refine Zac ?_
     refine Zbc rfl ?_
     refine Zbf ?_
     refine Zac ?_
     refine Zal ?_
     refine Zbn ?_
     refine Zal ?_
     rcases Bool.eq_false_or_eq_true (Zil (at_ a.Weights i'.toNat) (at_ b.Weights i'.toNat)) with h6 | h6
     ·have hok2 : Zil (at_ a.Weights i'.toNat) (at_ b.Weights i'.toNat) = true := h6
      refine Zbx [(10, .call [(true, .any), (true, .any)] true (Bv true))] [2, 3, 6, 59] [2, 3] [.ref 2 0, .ref 3 0, I i', Bv false] [some (Zag a), some (Zag b)] [(0 : Int) ≤ i' ∧ i' < (a.Weights.length : Int), (0 : Int) ≤ i' ∧ i' < (b.Weights.length : Int), Con Tryz.prog 36 [slI false (at_ a.Weights i'.toNat), slI false (at_ b.Weights i'.toNat)] true (Bv true) ∧ True] hB ⟨⟨(by omega), (by omega)⟩, ⟨(by omega), (by omega)⟩, ⟨(Zaq h6 (Zqk (at_ a.Weights i'.toNat) (at_ b.Weights i'.toNat))), trivial⟩, trivial⟩ ?_
      refine Zac ?_
      refine Zay rfl ?_
      refine Zbf ?_
      refine Zcm 3 ?_
      refine Zac ?_
      refine Zbx [] [2, 3, 6] [2, 3] [.ref 2 0, .ref 3 0, I (i' + 1)] [some (Zag a), some (Zag b)] [inR .i64 (i' + 1)] hB ⟨(Zam (by omega) (by omega)), trivial⟩ ?_
      exact Zcp _ (by omega) ⟨(i' + 1), rfl, (by omega), (by intro j hj; by_cases ej : j = i'.toNat; (subst ej; exact hok2); exact hall1 j (by omega)), rfl⟩
     have hst : Zky a b = false := by unfold Zky; rw [Zfw hi2 (by simpa using h6)]; simp
     refine Zbx [(10, .call [(true, .any), (true, .any)] true (Bv false))] [2, 3, 6, 59] [2, 3] [.ref 2 0, .ref 3 0, I i', Bv true] [some (Zag a), some (Zag b)] [(0 : Int) ≤ i' ∧ i' < (a.Weights.length : Int), (0 : Int) ≤ i' ∧ i' < (b.Weights.length : Int), Con Tryz.prog 36 [slI false (at_ a.Weights i'.toNat), slI false (at_ b.Weights i'.toNat)] true (Bv false) ∧ True] hB ⟨⟨(by omega), (by omega)⟩, ⟨(by omega), (by omega)⟩, ⟨(Zaq h6 (Zqk (at_ a.Weights i'.toNat) (at_ b.Weights i'.toNat))), trivial⟩, trivial⟩ ?_
     refine Zac ?_
     refine Zbc rfl ?_
     refine aR [] [4] [] [Bv false] [] [] hB trivial ?_
     refine Zax ?_
     refine Zat (Zai (Zai (Zat (Zai ?_))))
     refine Zba hB (Bv false) (by kernel_rfl) (.inl (by exact congrArg Bv hst.symm)) rfl (fun _ => trivial)
    have hst : Zky a b = true := by unfold Zky; rw [hs1, decide_eq_true hl2, Zfd (fun j hj => hall1 j (by omega))]; rfl
    refine Zbx [(4, .dec false)] [2, 3, 6, 45] [2, 3] [.ref 2 0, .ref 3 0, I i', Bv false] [some (Zag a), some (Zag b)] [¬ (i' < (a.Weights.length : Int))] hB ⟨h5, trivial⟩ ?_
    refine Zac ?_
    refine Zay rfl ?_
    refine Zdl ?_
    refine Zas ?_
    refine Zas ?_
    refine Zbw ?_
    refine Zac ?_
    refine aR [] [4] [] [Bv true] [] [] hB trivial ?_
    refine Zax ?_
    refine Zba hB (Bv true) (by kernel_rfl) (.inl (by exact congrArg Bv hst.symm)) rfl (fun _ => trivial)
   have hl2 : ¬ a.Weights.length = b.Weights.length := by omega
   have hst : Zky a b = false := by unfold Zky; rw [decide_eq_false hl2]; simp
   refine Zbx [(6, .dec false), (14, .dec true)] [2, 3, 22] [2, 3] [.ref 2 0, .ref 3 0, Bv true] [some (Zag a), some (Zag b)] [¬ ((a.Labels.length : Int) ≠ (b.Labels.length : Int)), (a.Weights.length : Int) ≠ (b.Weights.length : Int)] hB ⟨(fun hq => hq h1), h2, trivial⟩ ?_
   refine Zac ?_
   refine Zbc rfl ?_
   refine aR [] [4] [] [Bv false] [] [] hB trivial ?_
   refine Zax ?_
   refine Zai ?_
   refine Zba hB (Bv false) (by kernel_rfl) (.inl (by exact congrArg Bv hst.symm)) rfl (fun _ => trivial)
  have hl1 : ¬ a.Labels.length = b.Labels.length := by omega
  have hst : Zky a b = false := by unfold Zky Zil; rw [decide_eq_false hl1]; rfl
  refine Zbx [(6, .dec true)] [2, 3, 22] [2, 3] [.ref 2 0, .ref 3 0, Bv true] [some (Zag a), some (Zag b)] [(a.Labels.length : Int) ≠ (b.Labels.length : Int)] hB ⟨h1, trivial⟩ ?_
  refine Zac ?_
  refine Zbc rfl ?_
  refine aR [] [4] [] [Bv false] [] [] hB trivial ?_
  refine Zax ?_
  refine Zai ?_
  refine Zba hB (Bv false) (by kernel_rfl) (.inl (by exact congrArg Bv hst.symm)) rfl (fun _ => trivial)
-- spec.PerceptronText
theorem Zer (p : Perceptron) (ok_ : ∀ y ∈ p.Labels, y.size ≤ 9223372036854775807) : Con Tryz.prog 13 [Zae p] true (Sv (Zeo p)) := by
  refine Zdb (fn := Tryz.f13) (nt := 6) Tryz.func13 rfl rfl rfl rfl (by simp [Zah, Zak, Zdc, Zep]) fun B hB => ?_
  refine Zce (x := Zae p) 0 rfl (fun len_p => ?_)
  simp [Zdr, Zgi, cI, cLI, cS, fI, fLI, fS, slI, Zbg, slS] at len_p
  refine aR [(0, .new 1)] [1] [1] [.ref 1 0] [some (Zag p)] [] hB trivial ?_
  refine Zal ?_
  refine Zal ?_
  rcases Bool.eq_false_or_eq_true (Zbb p) with h1 | h1
  ·refine Zbx [(0, .call [(false, .ptr false [slS false p.Labels, Zbg false p.Weights])] true (Bv true))] [1, 4] [1] [.ref 1 0, Bv false] [some (Zag p)] [Con Tryz.prog 35 [.ptr false [slS false p.Labels, Zbg false p.Weights]] true (Bv true) ∧ ((false = true → true = true) ∧ AV.idsL [slS false p.Labels, Zbg false p.Weights] = [] ∧ ((false = true → false = true) ∧ 1 = 1 ∧ p.Labels.length = p.Labels.length ∧ ∀ i_, i_ < p.Labels.length → (fS p.Labels) i_ = (fS p.Labels) i_ ∨ (AV.idsL ((fS p.Labels) i_) = [] ∧ leL (fun _ => none) false ((fS p.Labels) i_) ((fS p.Labels) i_))) ∧ ((false = true → false = true) ∧ 1 = 1 ∧ p.Weights.length = p.Weights.length ∧ ∀ i_, i_ < p.Weights.length → (fLI false p.Weights) i_ = (fLI false p.Weights) i_ ∨ (AV.idsL ((fLI false p.Weights) i_) = [] ∧ leL (fun _ => none) false ((fLI false p.Weights) i_) ((fLI false p.Weights) i_))) ∧ ([] : List AV) = []) ∧ True] hB ⟨⟨(Zaq h1 (Zeu p ok_)), ⟨(fun h => by cases h), rfl, ⟨⟨(fun h => by cases h), rfl, rfl, fun i _ => .inl rfl⟩, ⟨⟨(fun h => by cases h), rfl, rfl, fun i _ => .inl rfl⟩, rfl⟩⟩⟩, trivial⟩, trivial⟩ ?_
   refine Zac ?_
   refine Zay rfl ?_
   refine Zbf ?_
   refine Zac ?_
   refine aR [(0, .call [(false, .ptr false [slS false p.Labels, Zbg false p.Weights])] true (Sv (Zeo p)))] [2] [] [Sv (Zeo p)] [] [Con Tryz.prog 30 [.ptr false [slS false p.Labels, Zbg false p.Weights]] true (Sv (Zeo p)) ∧ ((false = true → true = true) ∧ AV.idsL [slS false p.Labels, Zbg false p.Weights] = [] ∧ ((false = true → false = true) ∧ 1 = 1 ∧ p.Labels.length = p.Labels.length ∧ ∀ i_, i_ < p.Labels.length → (fS p.Labels) i_ = (fS p.Labels) i_ ∨ (AV.idsL ((fS p.Labels) i_) = [] ∧ leL (fun _ => none) false ((fS p.Labels) i_) ((fS p.Labels) i_))) ∧ ((false = true → false = true) ∧ 1 = 1 ∧ p.Weights.length = p.Weights.length ∧ ∀ i_, i_ < p.Weights.length → (fLI false p.Weights) i_ = (fLI false p.Weights) i_ ∨ (AV.idsL ((fLI false p.Weights) i_) = [] ∧ leL (fun _ => none) false ((fLI false p.Weights) i_) ((fLI false p.Weights) i_))) ∧ ([] : List AV) = []) ∧ True] hB ⟨⟨(Zqg p (by assumption)), ⟨(fun h => by cases h), rfl, ⟨⟨(fun h => by cases h), rfl, rfl, fun i _ => .inl rfl⟩, ⟨⟨(fun h => by cases h), rfl, rfl, fun i _ => .inl rfl⟩, rfl⟩⟩⟩, trivial⟩, trivial⟩ ?_
   refine Zax ?_
   refine Zba hB (Sv (Zeo p)) (by kernel_rfl) (.inl rfl) rfl (fun _ => trivial)
  refine Zbx [(0, .call [(false, .ptr false [slS false p.Labels, Zbg false p.Weights])] true (Bv false))] [1, 4] [1] [.ref 1 0, Bv true] [some (Zag p)] [Con Tryz.prog 35 [.ptr false [slS false p.Labels, Zbg false p.Weights]] true (Bv false) ∧ ((false = true → true = true) ∧ AV.idsL [slS false p.Labels, Zbg false p.Weights] = [] ∧ ((false = true → false = true) ∧ 1 = 1 ∧ p.Labels.length = p.Labels.length ∧ ∀ i_, i_ < p.Labels.length → (fS p.Labels) i_ = (fS p.Labels) i_ ∨ (AV.idsL ((fS p.Labels) i_) = [] ∧ leL (fun _ => none) false ((fS p.Labels) i_) ((fS p.Labels) i_))) ∧ ((false = true → false = true) ∧ 1 = 1 ∧ p.Weights.length = p.Weights.length ∧ ∀ i_, i_ < p.Weights.length → (fLI false p.Weights) i_ = (fLI false p.Weights) i_ ∨ (AV.idsL ((fLI false p.Weights) i_) = [] ∧ leL (fun _ => none) false ((fLI false p.Weights) i_) ((fLI false p.Weights) i_))) ∧ ([] : List AV) = []) ∧ True] hB ⟨⟨(Zaq h1 (Zeu p ok_)), ⟨(fun h => by cases h), rfl, ⟨⟨(fun h => by cases h), rfl, rfl, fun i _ => .inl rfl⟩, ⟨⟨(fun h => by cases h), rfl, rfl, fun i _ => .inl rfl⟩, rfl⟩⟩⟩, trivial⟩, trivial⟩ ?_
  refine Zac ?_
  refine Zbc rfl ?_
  refine aR [] [2] [] [Sv (⟨#[]⟩ : ByteArray)] [] [] hB trivial ?_
  refine Zax ?_
  refine Zai ?_
  refine Zba hB (Sv (⟨#[]⟩ : ByteArray)) (by kernel_rfl) (.inl (by first | rfl | (rw [Zeo, if_neg (by simp [*])]; done))) rfl (fun _ => trivial)
-- spec.ValidPerceptron
theorem Zfq (p : Perceptron) (ok : ∀ y ∈ p.Labels, y.size ≤ 9223372036854775807) : Con Tryz.prog 15 [Zae p] true (Bv (Zbb p)) := by
  refine Zdb (fn := Tryz.f15) (nt := 4) Tryz.func15 rfl rfl rfl rfl (by simp [Zah, Zak, Zdc, Zep]) fun B hB => ?_
  refine Zce (x := Zae p) 0 rfl (fun len_p => ?_)
  simp [Zdr, Zgi, cI, cLI, cS, fI, fLI, fS, slI, Zbg, slS] at len_p
  refine aR [(0, .new 1)] [1] [1] [.ref 1 0] [some (Zag p)] [] hB trivial ?_
  refine aR [(0, .call [(false, .ptr false [slS false p.Labels, Zbg false p.Weights])] true (Bv (Zbb p)))] [2] [] [Bv (Zbb p)] [] [Con Tryz.prog 35 [.ptr false [slS false p.Labels, Zbg false p.Weights]] true (Bv (Zbb p)) ∧ ((false = true → true = true) ∧ AV.idsL [slS false p.Labels, Zbg false p.Weights] = [] ∧ ((false = true → false = true) ∧ 1 = 1 ∧ p.Labels.length = p.Labels.length ∧ ∀ i_, i_ < p.Labels.length → (fS p.Labels) i_ = (fS p.Labels) i_ ∨ (AV.idsL ((fS p.Labels) i_) = [] ∧ leL (fun _ => none) false ((fS p.Labels) i_) ((fS p.Labels) i_))) ∧ ((false = true → false = true) ∧ 1 = 1 ∧ p.Weights.length = p.Weights.length ∧ ∀ i_, i_ < p.Weights.length → (fLI false p.Weights) i_ = (fLI false p.Weights) i_ ∨ (AV.idsL ((fLI false p.Weights) i_) = [] ∧ leL (fun _ => none) false ((fLI false p.Weights) i_) ((fLI false p.Weights) i_))) ∧ ([] : List AV) = []) ∧ True] hB ⟨⟨(Zeu p ok), ⟨(fun h => by cases h), rfl, ⟨⟨(fun h => by cases h), rfl, rfl, fun i _ => .inl rfl⟩, ⟨⟨(fun h => by cases h), rfl, rfl, fun i _ => .inl rfl⟩, rfl⟩⟩⟩, trivial⟩, trivial⟩ ?_
  refine Zax ?_
  refine Zba hB (Bv (Zbb p)) (by kernel_rfl) (.inl rfl) rfl (fun _ => trivial)
-- impl.ScoresOf
theorem Zon (p : Perceptron) (feats : List Feat) (ok : ∀ y ∈ p.Labels, y.size ≤ 9223372036854775807) : ∃ (v : List Int) (c : Int), ((v, c) = Zzk p feats) ∧ Con Tryz.prog 41 [Zae p, Zau false feats] true (.tup [slI true v, I c]) := by
  have hh : ∃ r : (List Int) × Int, (((r.1, r.2) = Zzk p feats) ∧ (True)) ∧ Zaz Tryz.prog 41 [Zae p, Zau false feats] (Zaf []) true (.tup [slI true r.1, I r.2]) (Zaf []) := by
    refine Zdd (Φ := fun r : (List Int) × Int => ((r.1, r.2) = Zzk p feats) ∧ (True)) [] (fun r => []) (fn := Tryz.f41) (nt := 18) Tryz.func41 rfl rfl (args := [Zae p, Zau false feats]) rfl (Zbv (.inl ⟨rfl, by simp [Zak, Zah, Zdc, Zep]⟩) (Zbv (.inl ⟨rfl, Zed false _⟩) Zda)) (res := fun r => .tup [slI true r.1, I r.2]) ?_
    refine xR [(0, .new 2)] [1, 2] [2] [Zau false feats, .ref 2 0] [some (Zag p)] [] trivial ?_
    refine Zap ?_
    refine Zap ?_
    rcases Bool.eq_false_or_eq_true (Zbb p) with h1 | h1
    ·rcases Bool.eq_false_or_eq_true (Zbo feats 384) with h2 | h2
     ·refine x_r [(1, .call [(true, .any)] true (Bv true)), (5, .call [(true, .any)] true (Bv true))] [1, 2, 13] [2] [Zau false feats, .ref 2 0, Bv false] [some (Zag p)] [Con Tryz.prog 14 [Zae p] true (Bv true) ∧ True, Con Tryz.prog 80 [Zau false feats] true (Bv true) ∧ True] ⟨⟨(Zaq h1 (Zbk p ok)), trivial⟩, ⟨(Zaq h2 (Zid feats)), trivial⟩, trivial⟩ ?_
      refine Zab ?_
      refine Zbe rfl ?_
      refine Zbz ?_
      refine Zab ?_
      refine Zap ?_
      obtain ⟨v_1, hx1_0, hc1⟩ := Zql feats (by assumption)
      have hinp := Ycn (by assumption) hx1_0
      have hiv := hx1_0
      obtain ⟨v_2, hx2_0, hc2⟩ := Zoo p v_1 (by assumption) hinp
      have hsv := hx2_0
      have hsl : v_2.length = p.Weights.length := by rw [hsv, Zlx]
      rw [hiv] at hsv
      refine x_r [(2, .call [(true, .any)] true (slI true v_1)), (3, .call [(true, .any), (false, slI false v_1)] true (slI true v_2))] [4, 5] [] [slI true v_2, I 0] [] [Con Tryz.prog 82 [Zau false feats] true (slI true v_1) ∧ True, Con Tryz.prog 81 [Zae p, slI false v_1] true (slI true v_2) ∧ ((false = true → true = true) ∧ 1 = 1 ∧ v_1.length = v_1.length ∧ ∀ i_, i_ < v_1.length → (fI v_1) i_ = (fI v_1) i_ ∨ (AV.idsL ((fI v_1) i_) = [] ∧ leL (fun _ => none) false ((fI v_1) i_) ((fI v_1) i_))) ∧ True] ⟨⟨hc1, trivial⟩, ⟨hc2, ⟨(fun h => by cases h), rfl, rfl, fun i _ => .inl rfl⟩, trivial⟩, trivial⟩ ?_
      refine Zab ?_
      refine Zcd ?_
      refine Zbm (v_2, 0) (show ((v_2, 0) = Zzk p feats) ∧ (True) from ⟨(by first | (rw [hsv]; exact (Zsg (by assumption) (by assumption)).symm) | exact (Zwe (by assumption)).symm | exact (Zwf (by assumption)).symm), trivial⟩) (trivial) (.tup [slI true v_2, I 0]) (by kernel_rfl) (.inl rfl) (fun _ => rfl) (fun _ => (by simp [Zak, Zah, Zpa]))
     refine x_r [(1, .call [(true, .any)] true (Bv true)), (5, .call [(true, .any)] true (Bv false))] [1, 2, 13] [2] [Zau false feats, .ref 2 0, Bv true] [some (Zag p)] [Con Tryz.prog 14 [Zae p] true (Bv true) ∧ True, Con Tryz.prog 80 [Zau false feats] true (Bv false) ∧ True] ⟨⟨(Zaq h1 (Zbk p ok)), trivial⟩, ⟨(Zaq h2 (Zid feats)), trivial⟩, trivial⟩ ?_
     refine Zab ?_
     refine Zbp rfl ?_
     refine xR [] [4, 5] [] [Zao, I 1] [] [] trivial ?_
     refine Zcd ?_
     refine Zbd ?_
     refine Zbm (([] : List Int), 1) (show ((([] : List Int), 1) = Zzk p feats) ∧ (True) from ⟨(by first | (rw [hsv]; exact (Zsg (by assumption) (by assumption)).symm) | exact (Zwe (by assumption)).symm | exact (Zwf (by assumption)).symm), trivial⟩) (trivial) (.tup [Zao, I 1]) (by kernel_rfl) (.inr ⟨⟨rfl, rfl⟩, ⟨rfl, rfl⟩⟩) (fun _ => rfl) (fun _ => (by simp [Zak, Zah, Zpa]))
    refine x_r [(1, .call [(true, .any)] true (Bv false))] [1, 2, 13] [2] [Zau false feats, .ref 2 0, Bv true] [some (Zag p)] [Con Tryz.prog 14 [Zae p] true (Bv false) ∧ True] ⟨⟨(Zaq h1 (Zbk p ok)), trivial⟩, trivial⟩ ?_
    refine Zab ?_
    refine Zbp rfl ?_
    refine xR [] [4, 5] [] [Zao, I 1] [] [] trivial ?_
    refine Zcd ?_
    refine Zbd ?_
    refine Zbm (([] : List Int), 1) (show ((([] : List Int), 1) = Zzk p feats) ∧ (True) from ⟨(by first | (rw [hsv]; exact (Zsg (by assumption) (by assumption)).symm) | exact (Zwe (by assumption)).symm | exact (Zwf (by assumption)).symm), trivial⟩) (trivial) (.tup [Zao, I 1]) (by kernel_rfl) (.inr ⟨⟨rfl, rfl⟩, ⟨rfl, rfl⟩⟩) (fun _ => rfl) (fun _ => (by simp [Zak, Zah, Zpa]))
  obtain ⟨⟨v, c⟩, ⟨hh0, _⟩, hc⟩ := hh
  exact ⟨v, c, hh0, hc⟩
-- slices.Delete[[]int64,int64]
theorem delI_ok {xs : List Int} {a b : Int} (h0 : 0 ≤ a) (hab : a ≤ b) (hb : b ≤ (xs.length : Int)) (h1 : 1 ≤ xs.length) : Yba Tryz.prog 43 xs.length (xs.take a.toNat ++ xs.drop b.toNat).length (fI xs) (fI (xs.take a.toNat ++ xs.drop b.toNat)) a b :=
  del_mov (fun blk off cap i j zs w q1 q2 q3 q4 q5 => AnyG.slices_Delete_int Tryz.laysDel blk off cap i j zs w q1 q2 q3 q4 q5) h0 hab hb h1
-- impl.Classify
theorem Znj (p : Perceptron) (feats : List Feat) (ok : ∀ y ∈ p.Labels, y.size ≤ 9223372036854775807) : ∃ (l : ByteArray) (m : Int) (c : Int), (((l, m), c) = Yco p feats) ∧ Con Tryz.prog 16 [Zae p, Zau false feats] true (.tup [Sv l, I m, I c]) := by
  have hh : ∃ r : ByteArray × Int × Int, ((((r.1, r.2.1), r.2.2) = Yco p feats) ∧ (True)) ∧ Zaz Tryz.prog 16 [Zae p, Zau false feats] (Zaf []) true (.tup [Sv r.1, I r.2.1, I r.2.2]) (Zaf []) := by
    refine Zdd (Φ := fun r : ByteArray × Int × Int => (((r.1, r.2.1), r.2.2) = Yco p feats) ∧ (True)) [] (fun r => []) (fn := Tryz.f16) (nt := 45) Tryz.func16 rfl rfl (args := [Zae p, Zau false feats]) rfl (Zbv (.inl ⟨rfl, by simp [Zak, Zah, Zdc, Zep]⟩) (Zbv (.inl ⟨rfl, Zed false _⟩) Zda)) (res := fun r => .tup [Sv r.1, I r.2.1, I r.2.2]) ?_
    refine xR [(0, .new 2)] [1, 2] [2] [Zau false feats, .ref 2 0] [some (Zag p)] [] trivial ?_
    refine Zap ?_
    obtain ⟨v_1, c_1, hx1_0, hc1⟩ := Zon p feats ok
    have hsc := hx1_0
    refine x_r [(2, .call [(true, .any), (true, .any)] true (.tup [slI true v_1, I c_1]))] [2, 7, 8] [2] [.ref 2 0, slI true v_1, I c_1] [some (Zag p)] [Con Tryz.prog 41 [Zae p, Zau false feats] true (.tup [slI true v_1, I c_1]) ∧ True] ⟨⟨hc1, trivial⟩, trivial⟩ ?_
    refine Zab ?_
    refine Zap ?_
    refine Zap ?_
    by_cases h1 : c_1 = 0
    ·have hok := scoR_ok hsc h1
     have hsv := hok.2.2
     have hln := Zfh (okPerc_iff.1 hok.1).1
     have hwl := (okPerc_iff.1 hok.1).2.1
     have hsl : v_1.length = p.Weights.length := by rw [hsv, Zlx]
     have hbi := Zji (l := v_1) (by omega)
     refine x_r [(1, .dec false)] [2, 7, 8, 19] [2] [.ref 2 0, slI true v_1, I c_1, Bv false] [some (Zag p)] [¬ (c_1 ≠ 0)] ⟨(fun hq => hq h1), trivial⟩ ?_
     refine Zab ?_
     refine Zbe rfl ?_
     refine Zbz ?_
     refine Zab ?_
     refine xR [(1, .call [(false, slI false v_1)] true (I (Zbj v_1)))] [2, 7, 9] [2] [.ref 2 0, slI true v_1, I (Zbj v_1)] [some (Zag p)] [Con Tryz.prog 42 [slI false v_1] true (I (Zbj v_1)) ∧ ((false = true → true = true) ∧ 1 = 1 ∧ v_1.length = v_1.length ∧ ∀ i_, i_ < v_1.length → (fI v_1) i_ = (fI v_1) i_ ∨ (AV.idsL ((fI v_1) i_) = [] ∧ leL (fun _ => none) false ((fI v_1) i_) ((fI v_1) i_))) ∧ True] ⟨⟨(Zuc v_1 (by omega)), ⟨(fun h => by cases h), rfl, rfl, fun i _ => .inl rfl⟩, trivial⟩, trivial⟩ ?_
     refine xR [] [2, 7, 9, 10] [2] [.ref 2 0, slI true v_1, I (Zbj v_1), I 0] [some (Zag p)] [] trivial ?_
     refine Zap ?_
     obtain ⟨out_2, hx2_0, hc2⟩ := Zud v_1 (by omega)
     have hcl := hx2_0
     have hcll : out_2.length = v_1.length := by rw [hcl]
     refine x_r [(1, .lend [] [(8211, tAI out_2)] [(false, slI false v_1)] false (.arr 8211)), (5, .mov 8211 8411 out_2.length ((out_2.take (Zbj v_1).toNat ++ out_2.drop ((Zbj v_1) + 1).toNat).length) (fI out_2) (fI (out_2.take (Zbj v_1).toNat ++ out_2.drop ((Zbj v_1) + 1).toNat)) (Zbj v_1) ((Zbj v_1) + 1))] [2, 7, 9, 10, 11] [2, 8411] [.ref 2 0, slI true v_1, I (Zbj v_1), I 0, .arr 8411] [some (Zag p), some (tAI (out_2.take (Zbj v_1).toNat ++ out_2.drop ((Zbj v_1) + 1).toNat))] [Zaz Tryz.prog 44 [slI false v_1] (Zaf []) false (.arr 8211) (Zaf [(8211, tAI out_2)]) ∧ ((false = true → true = true) ∧ 1 = 1 ∧ v_1.length = v_1.length ∧ ∀ i_, i_ < v_1.length → (fI v_1) i_ = (fI v_1) i_ ∨ (AV.idsL ((fI v_1) i_) = [] ∧ leL (fun _ => none) false ((fI v_1) i_) ((fI v_1) i_))) ∧ True, inR .i64 ((Zbj v_1) + 1), (([.arr 8211, I (Zbj v_1), I ((Zbj v_1) + 1)] : List AV) = [.arr 8211, I (Zbj v_1), I ((Zbj v_1) + 1)]) ∧ ((tAI out_2 : Ob) = .arr 1 out_2.length (fI out_2)) ∧ Yba Tryz.prog 43 out_2.length ((out_2.take (Zbj v_1).toNat ++ out_2.drop ((Zbj v_1) + 1).toNat).length) (fI out_2) (fI (out_2.take (Zbj v_1).toNat ++ out_2.drop ((Zbj v_1) + 1).toNat)) (Zbj v_1) ((Zbj v_1) + 1)] ⟨⟨hc2, ⟨(fun h => by cases h), rfl, rfl, fun i _ => .inl rfl⟩, trivial⟩, (Zam (by omega) (by omega)), ⟨rfl, rfl, delI_ok (by omega) (by omega) (by omega) (by omega)⟩, trivial⟩ ?_
     refine Zab ?_
     refine Zap ?_
     refine Zap ?_
     by_cases h2 : 0 < (((out_2.take (Zbj v_1).toNat ++ out_2.drop ((Zbj v_1) + 1).toNat).length) : Int)
     ·have hpos := h2
      have hrl : (out_2.take (Zbj v_1).toNat ++ out_2.drop ((Zbj v_1) + 1).toNat).length ≤ 12 := by rw [List.length_append, List.length_take, List.length_drop]; omega
      rw [hcl] at hpos
      have hsb := sc_bd hok.1 hok.2.1 (at_ v_1 (Zbj v_1).toNat) (by rw [← hsv]; exact Zcs (by omega))
      refine x_r [(2, .dec true)] [2, 7, 9, 10, 11, 31] [2, 8411] [.ref 2 0, slI true v_1, I (Zbj v_1), I 0, .arr 8411, Bv true] [some (Zag p), some (tAI (out_2.take (Zbj v_1).toNat ++ out_2.drop ((Zbj v_1) + 1).toNat))] [0 < (((out_2.take (Zbj v_1).toNat ++ out_2.drop ((Zbj v_1) + 1).toNat).length) : Int)] ⟨h2, trivial⟩ ?_
      refine Zab ?_
      refine Zbp rfl ?_
      obtain ⟨v_3, hx3_0, hc3⟩ := Ycp (out_2.take (Zbj v_1).toNat ++ out_2.drop ((Zbj v_1) + 1).toNat) (by omega)
      have hmx := hx3_0
      have hmb := mx_bd hmx (Int.le_refl _) (fun x hx => sc_bd hok.1 hok.2.1 x (by rw [← hsv, ← hcl]; exact rest_mem hx))
      rw [hcl] at hmx
      have hmg := mg_two (by omega) hpos hmx
      refine x_r [(5, .call [(false, slI false (out_2.take (Zbj v_1).toNat ++ out_2.drop ((Zbj v_1) + 1).toNat))] true (I v_3))] [2, 9, 10] [2] [.ref 2 0, I (Zbj v_1), I ((at_ v_1 ((Zbj v_1).toNat)) - v_3)] [some (Zag p)] [(0 : Int) ≤ (Zbj v_1) ∧ (Zbj v_1) < (v_1.length : Int), Con Tryz.prog 45 [slI false (out_2.take (Zbj v_1).toNat ++ out_2.drop ((Zbj v_1) + 1).toNat)] true (I v_3) ∧ ((false = true → true = true) ∧ 1 = 1 ∧ ((out_2.take (Zbj v_1).toNat ++ out_2.drop ((Zbj v_1) + 1).toNat).length) = ((out_2.take (Zbj v_1).toNat ++ out_2.drop ((Zbj v_1) + 1).toNat).length) ∧ ∀ i_, i_ < ((out_2.take (Zbj v_1).toNat ++ out_2.drop ((Zbj v_1) + 1).toNat).length) → (fI (out_2.take (Zbj v_1).toNat ++ out_2.drop ((Zbj v_1) + 1).toNat)) i_ = (fI (out_2.take (Zbj v_1).toNat ++ out_2.drop ((Zbj v_1) + 1).toNat)) i_ ∨ (AV.idsL ((fI (out_2.take (Zbj v_1).toNat ++ out_2.drop ((Zbj v_1) + 1).toNat)) i_) = [] ∧ leL (fun _ => none) false ((fI (out_2.take (Zbj v_1).toNat ++ out_2.drop ((Zbj v_1) + 1).toNat)) i_) ((fI (out_2.take (Zbj v_1).toNat ++ out_2.drop ((Zbj v_1) + 1).toNat)) i_))) ∧ True, inR .i64 ((at_ v_1 ((Zbj v_1).toNat)) - v_3)] ⟨⟨(by omega), (by omega)⟩, ⟨hc3, ⟨(fun h => by cases h), rfl, rfl, fun i _ => .inl rfl⟩, trivial⟩, (Zam (by omega) (by omega)), trivial⟩ ?_
      refine Zab ?_
      refine xR [] [4, 5, 6] [] [Sv (at_ p.Labels ((Zbj v_1).toNat)), I ((at_ v_1 ((Zbj v_1).toNat)) - v_3), I 0] [] [(0 : Int) ≤ (Zbj v_1) ∧ (Zbj v_1) < (p.Labels.length : Int)] ⟨⟨(by omega), (by omega)⟩, trivial⟩ ?_
      refine Zcd ?_
      refine Zbm ((at_ p.Labels ((Zbj v_1).toNat)), ((at_ v_1 ((Zbj v_1).toNat)) - v_3), 0) (show ((((at_ p.Labels ((Zbj v_1).toNat)), ((at_ v_1 ((Zbj v_1).toNat)) - v_3)), 0) = Yco p feats) ∧ (True) from ⟨(by first | exact hst.symm | (rw [Zsh hok.1 hok.2.1, ← hsv, ← hmg])), trivial⟩) (trivial) (.tup [Sv (at_ p.Labels ((Zbj v_1).toNat)), I ((at_ v_1 ((Zbj v_1).toNat)) - v_3), I 0]) (by kernel_rfl) (.inl rfl) (fun _ => rfl) (fun _ => (by simp [Zak, Zah]))
     have hpos := h2
     rw [hcl] at hpos
     have hmg := mg_one (l := v_1) (by omega) hpos
     refine x_r [(2, .dec false)] [2, 7, 9, 10, 11, 31] [2, 8411] [.ref 2 0, slI true v_1, I (Zbj v_1), I 0, .arr 8411, Bv false] [some (Zag p), some (tAI (out_2.take (Zbj v_1).toNat ++ out_2.drop ((Zbj v_1) + 1).toNat))] [¬ (0 < (((out_2.take (Zbj v_1).toNat ++ out_2.drop ((Zbj v_1) + 1).toNat).length) : Int))] ⟨h2, trivial⟩ ?_
     refine Zab ?_
     refine Zbe rfl ?_
     refine Zbz ?_
     refine Zab ?_
     refine xR [] [4, 5, 6] [] [Sv (at_ p.Labels ((Zbj v_1).toNat)), I 0, I 0] [] [(0 : Int) ≤ (Zbj v_1) ∧ (Zbj v_1) < (p.Labels.length : Int)] ⟨⟨(by omega), (by omega)⟩, trivial⟩ ?_
     refine Zcd ?_
     refine Zbm ((at_ p.Labels ((Zbj v_1).toNat)), 0, 0) (show ((((at_ p.Labels ((Zbj v_1).toNat)), 0), 0) = Yco p feats) ∧ (True) from ⟨(by first | exact hst.symm | (rw [Zsh hok.1 hok.2.1, ← hsv, ← hmg])), trivial⟩) (trivial) (.tup [Sv (at_ p.Labels ((Zbj v_1).toNat)), I 0, I 0]) (by kernel_rfl) (.inl rfl) (fun _ => rfl) (fun _ => (by simp [Zak, Zah]))
    have hst := clsR_no hsc h1
    refine x_r [(1, .dec true)] [2, 7, 8, 19] [2] [.ref 2 0, slI true v_1, I c_1, Bv true] [some (Zag p)] [c_1 ≠ 0] ⟨h1, trivial⟩ ?_
    refine Zab ?_
    refine Zbp rfl ?_
    refine xR [] [4, 5, 6] [] [Sv (⟨#[]⟩ : ByteArray), I 0, I c_1] [] [] trivial ?_
    refine Zcd ?_
    refine Zbd ?_
    refine Zbm ((⟨#[]⟩ : ByteArray), 0, c_1) (show ((((⟨#[]⟩ : ByteArray), 0), c_1) = Yco p feats) ∧ (True) from ⟨(by first | exact hst.symm | (rw [Zsh hok.1 hok.2.1, ← hsv, ← hmg])), trivial⟩) (trivial) (.tup [Sv (⟨#[]⟩ : ByteArray), I 0, I c_1]) (by kernel_rfl) (.inl rfl) (fun _ => rfl) (fun _ => (by simp [Zak, Zah]))
  obtain ⟨⟨l, m, c⟩, ⟨hh0, _⟩, hc⟩ := hh
  exact ⟨l, m, c, hh0, hc⟩
theorem jn_words (l : ByteArray) (h : Zoh l = true) : Zzy (Zjf l) (Zjg l) = l := by
  have hp := Zjs 32 l
  have e : (Zjg l).map Zdz = (Zcq ⟨#[32]⟩ l).drop 1 := by
    unfold Zjg
    rw [List.map_map]
    conv => rhs; rw [← List.map_id ((Zcq ⟨#[32]⟩ l).drop 1)]
    refine List.map_congr_left fun w hw => ?_
    obtain ⟨j, hj, q⟩ := List.getElem_of_mem hw
    rw [List.length_drop] at hj
    have := Zhg h hj
    have e2 : at_ (Zcq ⟨#[32]⟩ l) (j + 1) = w := by rw [← q, Zex (by omega)]; simp [Nat.add_comm]
    rw [e2] at this
    exact dcB_dec this
  have e3 : Zjf l :: (Zcq ⟨#[32]⟩ l).drop 1 = Zcq ⟨#[32]⟩ l := by
    unfold Zjf
    match hq : Zcq ⟨#[32]⟩ l, hp with
    | x :: r, _ => rfl
  unfold Zzy
  rw [e, e3]
  exact Zvx 32 l.size l (Nat.le_refl _)
theorem words_pc {l : ByteArray} {ws : List Int} (hl : Zcg l = true) (hw : ∀ x ∈ ws, -1000000000000000000 < x ∧ x < 1000000000000000000) (hn : noB 32 l) : Zcq ⟨#[32]⟩ (Zzy l ws) = l :: ws.map Zdz := by
  unfold Zzy
  refine Zmy (c := 32) (by simp) fun y hy => ?_
  rcases List.mem_cons.1 hy with rfl | hy
  · exact hn
  · obtain ⟨x, _, rfl⟩ := List.mem_map.1 hy
    exact Zyf (by decide) x
theorem Ycq {l : ByteArray} (hl : Zcg l = true) : noB 32 l ∧ noB 10 l := by
  simp only [Zcg, Bool.and_eq_true, decide_eq_true_eq] at hl
  obtain ⟨c, rfl⟩ := one_byte hl.1
  have e : bAt ⟨#[c]⟩ 0 = (c.toNat : Int) := rfl
  rw [e] at hl
  have h2 := hl.2
  simp only [Zfj, decide_eq_true_eq] at h2
  constructor <;> · unfold noB; intro q; simp at q; subst q; revert h2; decide
theorem Zop {p : Perceptron} (h : Zbb p = true) : lnR (Zeo p) = (Zfp p, true) := by
  have hn := Zki h
  have e : Zeo p = Zei (Zfp p) (Zfp p).length := by rw [Zdw]; exact if_pos h
  have hne : Zfp p ≠ [] := fun q => by have := Zdw p; rw [q] at this; simp at this; omega
  obtain ⟨k, hk, e2⟩ := Zlw hne
  have hq := okPerc_iff.1 h
  unfold lnR
  rw [e]
  rw [if_neg (by rw [hk]; exact Zue), if_pos (Ycr hne), e2, Zsd]
  congr 1
  refine Zmy (c := 10) hne fun y hy => ?_
  obtain ⟨j, hj, rfl⟩ := List.mem_map.1 hy
  rw [List.mem_range] at hj
  unfold Zzy
  refine noB_join (by simp [noB]) fun z hz => ?_
  rcases List.mem_cons.1 hz with rfl | hz
  · exact (Ycq (Zek hq.1 hj)).2
  · obtain ⟨x, _, rfl⟩ := List.mem_map.1 hz
    exact Zyf (by decide) x
theorem Ycs {p : Perceptron} (h : Zbb p = true) : Zlk (Zfp p) = p ∧ ∀ l ∈ Zfp p, Zoh l = true := by
  have hn := Zki h
  have hq := okPerc_iff.1 h
  have hw : ∀ k, k < p.Labels.length → Zcq ⟨#[32]⟩ (Zzy (at_ p.Labels k) (at_ p.Weights k)) = at_ p.Labels k :: (at_ p.Weights k).map Zdz := fun k hk => words_pc (Zek hq.1 hk) (Zqh (Zct hq.2.2 (by omega))) (Ycq (Zek hq.1 hk)).1
  constructor
  · have e1 : (Zfp p).map Zjf = p.Labels := by
      refine Yct (by rw [List.length_map, Zdw]) fun j hj => ?_
      rw [List.length_map, Zdw] at hj
      rw [Zoq (by rw [Zdw]; exact hj), Zkx hj]
      unfold Zjf
      rw [hw j hj]; rfl
    have e2 : (Zfp p).map Zjg = p.Weights := by
      refine Yct (by rw [List.length_map, Zdw]; omega) fun j hj => ?_
      rw [List.length_map, Zdw] at hj
      rw [Zoq (by rw [Zdw]; exact hj), Zkx hj]
      unfold Zjg
      rw [hw j hj, List.drop_succ_cons, List.drop_zero, List.map_map]
      conv => rhs; rw [← List.map_id (at_ p.Weights j)]
      exact List.map_congr_left fun x hx => dcN_num (Zqh (Zct hq.2.2 (by omega)) x hx)
    unfold Zlk
    rw [e1, e2]
  · intro l hl
    obtain ⟨k, hk, rfl⟩ := List.mem_map.1 hl
    rw [List.mem_range] at hk
    unfold Zoh
    rw [hw k hk]
    refine Zfd fun j hj => ?_
    simp only [List.length_cons, List.length_map, Nat.add_sub_cancel] at hj
    have e : at_ (at_ p.Labels k :: (at_ p.Weights k).map Zdz) (j + 1) = Zdz (at_ (at_ p.Weights k) j) := by
      rw [← Zoq (f := Zdz) hj]; simp [at_]
    rw [e]
    exact dcB_num (Zqh (Zct hq.2.2 (by omega)) _ (Zcs hj))
theorem rp_tx {p : Perceptron} (h : Zbb p = true) : rpI (Zeo p) = (p, true) := by
  have h1 := Zop h
  have h2 := (Ycs h).1
  have e : Zlk (lnR (Zeo p)).1 = p := by rw [h1]; exact h2
  rw [Zwb ⟨by rw [h1], by rw [e]; exact h, by rw [e]⟩, e]
theorem rp_eq (s : ByteArray) : rpI s = rsP s := by
  rcases Zvy s with ⟨hl, hr⟩ | ⟨hl, hr⟩
  · by_cases hc : rsC (Zcq ⟨#[10]⟩ s)
    · rw [Ych hc]
      have e : Zlk (lnR s).1 = Zlk ((Zcq ⟨#[10]⟩ s).take ((Zcq ⟨#[10]⟩ s).length - 1)) := by rw [hr]
      rw [Zwb ⟨by rw [hr], by rw [e]; exact hc.2.2.2, ?_⟩, e]
      rw [e]
      generalize hT : (Zcq ⟨#[10]⟩ s).take ((Zcq ⟨#[10]⟩ s).length - 1) = T at *
      have hok := hc.2.2.2
      rw [hT] at hok
      have e1 : Zfp (Zlk T) = T := by
        refine Yct (by rw [Zdw]; show (T.map Zjf).length = _; rw [List.length_map]) fun j hj => ?_
        rw [Zdw] at hj
        have hj2 : j < T.length := by have : (Zlk T).Labels.length = T.length := List.length_map _; omega
        rw [Zkx hj]
        show Zzy (at_ (T.map Zjf) j) (at_ (T.map Zjg) j) = _
        rw [Zoq hj2, Zoq hj2]
        refine jn_words _ ?_
        have h5 := hc.2.2.1 j (by have := congrArg List.length hT; rw [List.length_take] at this; omega)
        rwa [← Ztx (Zcq ⟨#[10]⟩ s) (show j < (Zcq ⟨#[10]⟩ s).length - 1 by have := congrArg List.length hT; rw [List.length_take] at this; omega), hT] at h5
      have e2 : Zeo (Zlk T) = Zei (Zfp (Zlk T)) (Zfp (Zlk T)).length := by rw [Zdw]; exact if_pos hok
      rw [e2, e1]
      exact linesX_T hr
    · rw [Zqd hc]
      refine Zqc fun q => hc ?_
      have e : Zlk (lnR s).1 = Zlk ((Zcq ⟨#[10]⟩ s).take ((Zcq ⟨#[10]⟩ s).length - 1)) := by rw [hr]
      rw [e] at q
      have hn := Zki q.2.1
      have hnum := (Ycs q.2.1).2
      have hsp := Zop q.2.1
      rw [q.2.2, hr] at hsp
      have hT := congrArg Prod.fst hsp
      simp only at hT
      have hlen := congrArg List.length hT
      rw [Zdw, List.length_take] at hlen
      refine ⟨hl, by omega, fun i hi => ?_, q.2.1⟩
      rw [← Ztx (Zcq ⟨#[10]⟩ s) hi, hT]
      exact hnum _ (Zcs (by rw [Zdw]; omega))
  · rw [Zqd fun q => hl q.1]
    exact Zqc fun q => by rw [hr] at q; exact Bool.false_ne_true q.1
theorem pcTx_or (p : Perceptron) : (Zbb p = true ∧ ¬ Zeo p = ⟨#[]⟩) ∨ (Zbb p = false ∧ Zeo p = ⟨#[]⟩) := by
  cases h : Zbb p with
  | false => exact .inr ⟨rfl, by unfold Zeo; rw [h]; rfl⟩
  | true =>
    refine .inl ⟨rfl, fun e => ?_⟩
    have hn := Zki h
    have q : Zeo p = Zei (Zfp p) p.Labels.length := if_pos h
    rw [q, show p.Labels.length = (p.Labels.length - 1) + 1 from by omega] at e
    exact Zue e
theorem rp_no0 : rpI ⟨#[]⟩ = (⟨[], []⟩, false) := by
  refine Zqc fun q => ?_
  have h := q.2.1
  have e : lnR ⟨#[]⟩ = ([], true) := if_pos rfl
  rw [e] at h
  have := Zki h
  have e2 : (Zlk []).Labels.length = 0 := rfl
  simp only at this
  omega
theorem cls_one {p : Perceptron} {s : Sample} {l : ByteArray} {m c : Int} (h1 : Zbb p = true) (h2 : Zbo s.Feats 384 = true) (e : ((l, m), c) = Yco p s.Feats) : l = at_ p.Labels (Zbj (scR p.Weights (Zeb s.Feats))).toNat ∧ c = 0 := by
  unfold Yco at e
  rw [if_pos ⟨h1, h2⟩] at e
  exact ⟨congrArg (fun q => q.1.1) e, congrArg (fun q => q.2) e⟩
end Go.Proofs.YtblhhmcplocepaaGreatDoor.Ax
